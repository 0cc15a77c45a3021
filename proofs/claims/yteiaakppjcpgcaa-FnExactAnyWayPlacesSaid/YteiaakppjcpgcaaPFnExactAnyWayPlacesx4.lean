-- Printed by this session's own program (wip/tool/myprint.py, over the kit's print); Lean checks it.
import Derived.Test.YteiaakppjcpgcaaPFnExactAnyWayPlacesx0
import Derived.Test.YteiaakppjcpgcaaPFnExactAnyWayPlacesx2
import Derived.Test.YteiaakppjcpgcaaPFnExactAnyWayPlacesx3
namespace Go.Proofs.Yteiaakppjcpgcaa.PFnExactAnyWayPlaces
open Go.RowKit Go.Proofs.YteiaakppjcpgcaaW.PrintWords Go.Proofs.YteiaakppjcpgcaaW.PrintLast Go.Proofs.YteiaakppjcpgcaaW.PrintMore
attribute [local go_sem] max2_int min2_int max_two min_two max_three min_three max_four min_four   -- for this text's walks alone
set_option linter.unusedVariables false
set_option linter.unusedSimpArgs false

/-! ### spec_l6Places: function 96 -/
mutual
def spec_l6Places.l0 : Nat → List (S112) → Int → Int → Int → List Int → Int → Int → List Int → Option ((List (S112)))
  | 0, _, _, _, _, _, _, _, _ => none
  | k + 1, x5, x6, x192000, x192001, x192002, x193000, x193001, x193002 => if (wrap64 (x6 + x193001)) ≤ x192001 then (spec_l6Places.l1 k x5 x6 0 x192000 x192001 x192002 x193000 x193001 x193002) else (some x5)
def spec_l6Places.l1 : Nat → List (S112) → Int → Int → Int → Int → List Int → Int → Int → List Int → Option ((List (S112)))
  | 0, _, _, _, _, _, _, _, _, _ => none
  | k + 1, x5, x6, x7, x192000, x192001, x192002, x193000, x193001, x193002 => if (wrap64 (x7 + x193000)) ≤ x192000 then ((spec_l2Part.f k x192000 x192001 x192002 x6 x7 x193001 x193000).bind fun bt196 => ((spec_l4Same.f k x193000 x193001 x193002 bt196.1 bt196.2.1 bt196.2.2).bind fun t201 => (if t201 = true then (if x5.length < 8796093022208 then (spec_l6Places.l1 k (x5 ++ [(⟨x6, x7⟩ : S112)]) x6 (wrap64 (x7 + 1)) x192000 x192001 x192002 x193000 x193001 x193002) else (none)) else (spec_l6Places.l1 k x5 x6 (wrap64 (x7 + 1)) x192000 x192001 x192002 x193000 x193001 x193002)))) else (spec_l6Places.l0 k x5 (wrap64 (x6 + 1)) x192000 x192001 x192002 x193000 x193001 x193002)
end
def spec_l6Places.f (k : Nat) (a0_0 : Int) (a0_1 : Int) (l0_2 : List Int) (a1_0 : Int) (a1_1 : Int) (l1_2 : List Int) : Option ((List (S112))) := spec_l6Places.l0 k (([] : List (S112))) 0 a0_0 a0_1 l0_2 a1_0 a1_1 l1_2
theorem spec_l6Places.mono_l : ∀ k, (∀ y0 y1 y2 y3 y4 y5 y6 y7, LeO (spec_l6Places.l0 k y0 y1 y2 y3 y4 y5 y6 y7) (spec_l6Places.l0 (k + 1) y0 y1 y2 y3 y4 y5 y6 y7)) ∧ (∀ y0 y1 y2 y3 y4 y5 y6 y7 y8, LeO (spec_l6Places.l1 k y0 y1 y2 y3 y4 y5 y6 y7 y8) (spec_l6Places.l1 (k + 1) y0 y1 y2 y3 y4 y5 y6 y7 y8))
  | 0 => ⟨fun _ _ _ _ _ _ _ _ r h => by simp [spec_l6Places.l0] at h, fun _ _ _ _ _ _ _ _ _ r h => by simp [spec_l6Places.l1] at h⟩
  | k + 1 => by
    obtain ⟨ih0, ih1⟩ := spec_l6Places.mono_l k
    refine ⟨?_, ?_⟩
    · intro y0 y1 y2 y3 y4 y5 y6 y7
      unfold spec_l6Places.l0
      repeat' first
      | (with_reducible exact ih0 _ _ _ _ _ _ _ _)
      | (with_reducible exact ih1 _ _ _ _ _ _ _ _ _)
      | (with_reducible exact spec_l2Part.mono _ _ _ _ _ _ _ _)
      | (with_reducible exact spec_l4Same.mono _ _ _ _ _ _ _)
      | (with_reducible exact LeO.refl _)
      | (with_reducible exact LeO.none _)
      | (with_reducible refine LeO.ite ?_ ?_)
      | (with_reducible refine LeO.bind ?_ (fun _ => ?_))
      | exact ih0 _ _ _ _ _ _ _ _
      | exact ih1 _ _ _ _ _ _ _ _ _
      | exact spec_l2Part.mono _ _ _ _ _ _ _ _
      | exact spec_l4Same.mono _ _ _ _ _ _ _
      | exact LeO.none _
      | refine LeO.ite ?_ ?_
      | refine LeO.bind ?_ (fun _ => ?_)
    · intro y0 y1 y2 y3 y4 y5 y6 y7 y8
      unfold spec_l6Places.l1
      repeat' first
      | (with_reducible exact ih0 _ _ _ _ _ _ _ _)
      | (with_reducible exact ih1 _ _ _ _ _ _ _ _ _)
      | (with_reducible exact spec_l2Part.mono _ _ _ _ _ _ _ _)
      | (with_reducible exact spec_l4Same.mono _ _ _ _ _ _ _)
      | (with_reducible exact LeO.refl _)
      | (with_reducible exact LeO.none _)
      | (with_reducible refine LeO.ite ?_ ?_)
      | (with_reducible refine LeO.bind ?_ (fun _ => ?_))
      | exact ih0 _ _ _ _ _ _ _ _
      | exact ih1 _ _ _ _ _ _ _ _ _
      | exact spec_l2Part.mono _ _ _ _ _ _ _ _
      | exact spec_l4Same.mono _ _ _ _ _ _ _
      | exact LeO.none _
      | refine LeO.ite ?_ ?_
      | refine LeO.bind ?_ (fun _ => ?_)
theorem spec_l6Places.mono : ∀ a0 a1 a2 a3 a4 a5 k, LeO (spec_l6Places.f k a0 a1 a2 a3 a4 a5) (spec_l6Places.f (k + 1) a0 a1 a2 a3 a4 a5) := by
  intro a0 a1 a2 a3 a4 a5 k
  obtain ⟨ih0, ih1⟩ := spec_l6Places.mono_l k
  unfold spec_l6Places.f
  repeat' first
      | (with_reducible exact ih0 _ _ _ _ _ _ _ _)
      | (with_reducible exact ih1 _ _ _ _ _ _ _ _ _)
      | (with_reducible exact spec_l2Part.mono _ _ _ _ _ _ _ _)
      | (with_reducible exact spec_l4Same.mono _ _ _ _ _ _ _)
      | (with_reducible exact LeO.refl _)
      | (with_reducible exact LeO.none _)
      | (with_reducible refine LeO.ite ?_ ?_)
      | (with_reducible refine LeO.bind ?_ (fun _ => ?_))
      | exact ih0 _ _ _ _ _ _ _ _
      | exact ih1 _ _ _ _ _ _ _ _ _
      | exact spec_l2Part.mono _ _ _ _ _ _ _ _
      | exact spec_l4Same.mono _ _ _ _ _ _ _
      | exact LeO.none _
      | refine LeO.ite ?_ ?_
      | refine LeO.bind ?_ (fun _ => ?_)
def spec_l6Places.T8 : Bool × List (List Nat × List Nat) := (true, [([], []), ([], []), ([], []), ([], []), ([], []), ([4], [4]), ([], []), ([6], [6]), ([1, 2, 3, 5, 7], [1, 2, 3, 5, 7]), ([0, 8, 8], [0, 8])])
def spec_l6Places.B8 : List Nat := [0, 0, 0, 0, 0, 16, 0, 64, 254, 511]
theorem spec_l6Places.tab8 : rtab .any (opsOf Try.f96 8) = spec_l6Places.T8 := by kernel_rfl
theorem spec_l6Places.bits8 : waitsOk spec_l6Places.T8.2 spec_l6Places.B8 = true := by kernel_rfl
set_option maxHeartbeats 8000000 in
set_option maxRecDepth 100000 in
theorem spec_l6Places.calls (k : Nat) (a0_0 : Int) (a0_1 : Int) (A0_2 : Option Addr) (c0_2 : Nat) (l0_2 : List Int) (a1_0 : Int) (a1_1 : Int) (A1_2 : Option Addr) (c1_2 : Nat) (l1_2 : List Int) (r : List (S112)) (w : World) (hr0_2 : Kd.C (Kd.int .i64) w A0_2 l0_2.length l0_2) (hc0_2 : l0_2.length ≤ c0_2) (hr1_2 : Kd.C (Kd.int .i64) w A1_2 l1_2.length l1_2) (hc1_2 : l1_2.length ≤ c1_2) (h : spec_l6Places.f k a0_0 a0_1 l0_2 a1_0 a1_1 l1_2 = some r) :
  Calls Try.prog 96 #[.agg #[.int .i64 a0_0, .int .i64 a0_1, .slice A0_2 l0_2.length c0_2], .agg #[.int .i64 a1_0, .int .i64 a1_1, .slice A1_2 l1_2.length c1_2]] w fun e w' => ∃ v0_ : Value, e = .returned (v0_) ∧ Kd.R k112 112 w' w.heap.size (fun _ => True) v0_ r ∧ Below w.heap.size w w' := by
 have hu26 := Try.underlying26
 have hu112 := Try.underlying112
 have HR0_2 := Aside0.mk hr0_2
 have HC0_2 := Aside0.mk hc0_2
 clear hr0_2 hc0_2
 have HR1_2 := Aside0.mk hr1_2
 have HC1_2 := Aside0.mk hc1_2
 clear hr1_2 hc1_2
 have HB := Aside0.mk (Below.refl w.heap.size w)
 have H : (spec_l6Places.l0 k (([] : List (S112))) 0 a0_0 a0_1 l0_2 a1_0 a1_1 l1_2) = some r := h
 clear h
 obtain ⟨y193, hy193⟩ : ∃ y_ : List (S112), y_ = (([] : List (S112))) := ⟨_, rfl⟩
 replace H : (spec_l6Places.l0 k y193 0 a0_0 a0_1 l0_2 a1_0 a1_1 l1_2) = some r := by first | (rw [hy193]; with_reducible exact H) | (have H2_ := (Option.bind_some _ _).symm.trans H; rw [hy193]; with_reducible exact H2_) | (have H2_ := (Option.bind_some _ _).symm.trans H; with_reducible exact H2_) | with_reducible exact H | (rw [hy193]; exact H) | exact H
 have Ny193 := Aside0.mk hy193
 clear hy193
 have H' := Aside0.mk H
 clear H
 go_enter Try.func96, Try.ntmps96
 go_wp2_with (first | ((with_reducible refine gate_dst (N := 2) rfl ?_); refine box_ (N := 2) (cs := #[.int .i64 a0_0, .int .i64 a0_1, .slice A0_2 l0_2.length c0_2]) (t := 26) ?_; intro gb191 hg w3 hbox hb; have BK191 := Aside0.mk (hbox); have GW191 := gz_ w hg; have GE191 := gz_ w hg; replace HB := Aside0.mk (below_step (bw_ w) hb); clear hb hbox hg) | ((with_reducible refine gate_dst (N := 3) rfl ?_); refine box_ (N := 3) (cs := #[.int .i64 a1_0, .int .i64 a1_1, .slice A1_2 l1_2.length c1_2]) (t := 26) ?_; intro gb192 hg w4 hbox hb; have n0_ := bb_ BK191 hb; have n1_ := Aside0.mk (below_step (bw_ w) hb); have n2_ := Aside0.mk (hbox); have n3_ := gz_ w hg; have n4_ := gz_ w hg; have n5_ := ne_ hg BK191; have n6_ := en_ hg BK191; clear BK191; clear HB; have BK191 := n0_; have HB := n1_; have BK192 := n2_; have GW192 := n3_; have GE192 := n4_; have NB191_192 := n5_; have NB192_191 := n6_; clear n0_ n1_ n2_ n3_ n4_ n5_ n6_; clear hb hbox hg) | ((with_reducible refine gate_dst (N := 8) rfl ?_); refine Kd.R_lit k112 _ 112 ?hg (N := 8) ?hd (xs := ([] : List (S112))) (inner := []) (ok := fun _ => True) (okp := fun _ => True) ?hr ?hp (fun _ hk => hk) trivial (Below.refl _ _) (Nat.le_refl _) (by simp) ?_; (case hd => rfl); (case hg => rfl); (case hr => first | (go_simp; done) | (go_simp; rfl)); (case hp => exact (Reps.none _ _)); intro v194 w5 ho6 hb hg_ hnew_; clear hg_ hnew_; (first | rw [← Ny193.out] at ho6 | (simp only [Int.reduceToNat] at ho6; rw [← Ny193.out] at ho6)); have HO195 := Aside0.mk (Kd.R_lower ho6 (below_size (bw_ w))); replace BK191 := bb_ BK191 hb; replace BK192 := bb_ BK192 hb; replace HB := Aside0.mk (below_step (bw_ w) hb); clear hb ho6))
 go_loopg [5, 6] k (fun kq v5 v6 w' => ∃ (x5_1 : List (S112)) (x6_1 : Int), v6 = .int .i64 x6_1 ∧ Aside0 (spec_l6Places.l0 kq x5_1 x6_1 a0_0 a0_1 l0_2 a1_0 a1_1 l1_2 = some r) ∧ Aside0 (kq ≤ k) ∧ Aside0 (Kd.R k112 112 w' w.heap.size (fun _ => True) v5 x5_1) ∧ Aside0 (w'.heap[gb191]? = some (.cells #[.int .i64 a0_0, .int .i64 a0_1, (.slice A0_2 l0_2.length c0_2)] 26 (0, 0))) ∧ Aside0 (w'.heap[gb192]? = some (.cells #[.int .i64 a1_0, .int .i64 a1_1, (.slice A1_2 l1_2.length c1_2)] 26 (0, 0))) ∧ Aside0 (Below w.heap.size w w'))
 case atStart => exact ⟨(y193), (0), (by first | rfl | (simp; done) | (simp [*]; done)), H', ⟨Nat.le_refl _⟩, ⟨ra_ HO195⟩, ⟨bk_ BK191⟩, ⟨bk_ BK192⟩, ⟨(bw_ w)⟩⟩
 case round =>
  clear H'
  try clear c1
  try clear p2
  obtain ⟨x5_1, x6_1, rfl, HA, HK1, HO_5, BK191, BK192, HB⟩ := hrel
  cases gk with
  | zero => exact absurd HA.out (by simp [spec_l6Places.l0])
  | succ k1 =>
   have H := HA.out
   clear HA
   simp only [spec_l6Places.l0] at H
   by_cases c7 : (wrap64 (x6_1 + a1_1)) ≤ a0_1
   ·rw [if_pos c7] at H
    have c7b0 : decide ((wrap64 (x6_1 + a1_1)) ≤ a0_1) = true := decide_eq_true c7
    clear c7
    have H' := Aside0.mk H
    clear H
    have hnb8 := NB192_191.out
    have hnc8 := NB191_192.out
    obtain ⟨hcz9_0, hcz9_1, hcz9_2, hfz9_0, hfz9_1, hfz9_2⟩ := bc3_ (w := wr) BK192
    obtain ⟨hcz10_0, hcz10_1, hcz10_2, hfz10_0, hfz10_1, hfz10_2⟩ := bc3_ (w := wr) BK191
    go_wp2
    go_loopg [5, 7] k1 (fun kq v5 v7 w' => ∃ (x5_2 : List (S112)) (x7_2 : Int), v7 = .int .i64 x7_2 ∧ Aside0 (spec_l6Places.l1 kq x5_2 x6_1 x7_2 a0_0 a0_1 l0_2 a1_0 a1_1 l1_2 = some r) ∧ Aside0 (kq ≤ k1) ∧ Aside0 (Kd.R k112 112 w' w.heap.size (fun _ => True) v5 x5_2) ∧ Aside0 (w'.heap[gb191]? = some (.cells #[.int .i64 a0_0, .int .i64 a0_1, (.slice A0_2 l0_2.length c0_2)] 26 (0, 0))) ∧ Aside0 (w'.heap[gb192]? = some (.cells #[.int .i64 a1_0, .int .i64 a1_1, (.slice A1_2 l1_2.length c1_2)] 26 (0, 0))) ∧ Aside0 (Below w.heap.size w w'))
    case atStart => exact ⟨(x5_1), (0), (by first | rfl | (simp; done) | (simp [*]; done)), H', ⟨Nat.le_refl _⟩, ⟨ra_ HO_5⟩, ⟨bk_ BK191⟩, ⟨bk_ BK192⟩, ⟨(bw_ w)⟩⟩
    case round =>
     clear H'
     try clear c1
     try clear p2
     try clear p6
     try clear c7
     try clear c7b0
     try clear c8
     try clear c9
     try clear hcz10_0
     try clear hcz10_1
     try clear hcz10_2
     try clear hcz9_0
     try clear hcz9_1
     try clear hcz9_2
     try clear hfz10_0
     try clear hfz10_1
     try clear hfz10_2
     try clear hfz9_0
     try clear hfz9_1
     try clear hfz9_2
     try clear p2
     obtain ⟨x5_2, x7_2, rfl, HA, HK2, HO_5, BK191, BK192, HB⟩ := hrel
     cases gk with
     | zero => exact absurd HA.out (by simp [spec_l6Places.l1])
     | succ k2 =>
      have H := HA.out
      clear HA
      simp only [spec_l6Places.l1] at H
      by_cases c11 : (wrap64 (x7_2 + a1_0)) ≤ a0_0
      ·rw [if_pos c11] at H
       have c11b0 : decide ((wrap64 (x7_2 + a1_0)) ≤ a0_0) = true := decide_eq_true c11
       clear c11
       replace H := Option.bind_eq_some_iff.mp H
       obtain ⟨⟨t196, t197, t198⟩, A120, H⟩ := H
       replace H : ((spec_l4Same.f k2 a1_0 a1_1 l1_2 t196 t197 t198).bind fun t201 => (if t201 = true then (if x5_2.length < 8796093022208 then (spec_l6Places.l1 k2 (x5_2 ++ [(⟨x6_1, x7_2⟩ : S112)]) x6_1 (wrap64 (x7_2 + 1)) a0_0 a0_1 l0_2 a1_0 a1_1 l1_2) else (none)) else (spec_l6Places.l1 k2 x5_2 x6_1 (wrap64 (x7_2 + 1)) a0_0 a0_1 l0_2 a1_0 a1_1 l1_2))) = some r := H
       have A12 := Aside0.mk A120
       clear A120
       replace H := Option.bind_eq_some_iff.mp H
       obtain ⟨t201, A130, H⟩ := H
       replace H : (if t201 = true then (if x5_2.length < 8796093022208 then (spec_l6Places.l1 k2 (x5_2 ++ [(⟨x6_1, x7_2⟩ : S112)]) x6_1 (wrap64 (x7_2 + 1)) a0_0 a0_1 l0_2 a1_0 a1_1 l1_2) else (none)) else (spec_l6Places.l1 k2 x5_2 x6_1 (wrap64 (x7_2 + 1)) a0_0 a0_1 l0_2 a1_0 a1_1 l1_2)) = some r := H
       have A13 := Aside0.mk A130
       clear A130
       by_cases c14 : t201 = true
       ·subst c14
        have H1 : (if x5_2.length < 8796093022208 then (spec_l6Places.l1 k2 (x5_2 ++ [(⟨x6_1, x7_2⟩ : S112)]) x6_1 (wrap64 (x7_2 + 1)) a0_0 a0_1 l0_2 a1_0 a1_1 l1_2) else (none)) = some r := by rw [if_pos rfl] at H; exact H
        clear H
        have H := H1
        clear H1
        by_cases c15 : x5_2.length < 8796093022208
        ·rw [if_pos c15] at H
         have LMc15 := Aside0.mk c15
         clear c15
         obtain ⟨y202, hy202⟩ : ∃ y_ : List (S112), y_ = (x5_2 ++ [(⟨x6_1, x7_2⟩ : S112)]) := ⟨_, rfl⟩
         replace H : (spec_l6Places.l1 k2 y202 x6_1 (wrap64 (x7_2 + 1)) a0_0 a0_1 l0_2 a1_0 a1_1 l1_2) = some r := by first | (rw [hy202]; with_reducible exact H) | (have H2_ := (Option.bind_some _ _).symm.trans H; rw [hy202]; with_reducible exact H2_) | (have H2_ := (Option.bind_some _ _).symm.trans H; with_reducible exact H2_) | with_reducible exact H | (rw [hy202]; exact H) | exact H
         have Ny202 := Aside0.mk hy202
         clear hy202
         have H' := Aside0.mk H
         clear H
         have hnb16 := NB192_191.out
         have hnc16 := NB191_192.out
         obtain ⟨hcz17_0, hcz17_1, hcz17_2, hfz17_0, hfz17_1, hfz17_2⟩ := bc3_ (w := wr) BK192
         obtain ⟨hcz18_0, hcz18_1, hcz18_2, hfz18_0, hfz18_1, hfz18_2⟩ := bc3_ (w := wr) BK191
         try go_wp2
         replace HO_5 := Aside0.mk (Kd.R_drew HO_5.out)
         replace BK191 := Aside0.mk (blk_drew BK191.out)
         replace BK192 := Aside0.mk (blk_drew BK192.out)
         replace HB := Aside0.mk (below_drew1 HB.out)
         refine start_ (n := 10) (S := fun w' => w'.cell? ⟨gb192, 0, none⟩ = some (.int .i64 a1_0) ∧ w'.cell? ⟨gb192, 1, none⟩ = some (.int .i64 a1_1) ∧ w'.cell? ⟨gb192, 2, none⟩ = some (.slice A1_2 l1_2.length c1_2) ∧ w'.cell? ⟨gb191, 0, none⟩ = some (.int .i64 a0_0) ∧ w'.cell? ⟨gb191, 1, none⟩ = some (.int .i64 a0_1) ∧ w'.cell? ⟨gb191, 2, none⟩ = some (.slice A0_2 l0_2.length c0_2)) (ds := []) #[false, false, false, false, false, false, false, false, false, false] (by kernel_rfl) rfl rfl ⟨bc_ BK192 0, bc_ BK192 1, bc_ BK192 2, bc_ BK191 0, bc_ BK191 1, bc_ BK191 2⟩ (fun hHeld => ?_); refine with_tabW spec_l6Places.tab8 spec_l6Places.bits8 (fun HT_ HW_ => ?_)
         generalize wr.drew = w19 at HO_5 BK191 BK192 HB hHeld ⊢
         refine pureA (N := some 29) 2 HT_ ?_
         refine pureA (N := some 30) 3 HT_ ?_
         refine pureA (N := some 31) 4 HT_ ?_
         refine pureA (N := some 33) 6 HT_ ?_
         refine takeA (N := some 27) 0 HT_ HW_ hHeld ?_
         refine takeA (N := some 28) 1 HT_ HW_ hHeld ?_
         refine takeA (N := some 32) 5 HT_ HW_ hHeld ?_
         refine takeA (N := some 34) 7 HT_ HW_ hHeld ?_
         refine oneA (N := some 35) 8 HT_ (fun K hK => ?_)
         refine goesA Try.func124 #[.agg #[.int .i64 a0_0, .int .i64 a0_1, .slice A0_2 l0_2.length c0_2], .int .i64 x6_1, .int .i64 x7_2, .int .i64 a1_1, .int .i64 a1_0] ?_
         with_reducible refine (spec_l2Part.calls k2 a0_0 a0_1 _ _ l0_2 x6_1 x7_2 a1_1 a1_0 t196 t197 t198 _ ?side1 ?side2 A12.out).mono ?_
         (case side1 => exact cb_ HR0_2 HB)
         (case side2 => exact HC0_2.out)
         rintro e w20 ⟨v199, rfl, ho0, hb⟩
         refine ⟨_, rfl, ?_⟩
         replace HO_5 := Aside0.mk (Kd.R_below (ra_ HO_5) hb)
         have HO200 := Aside0.mk (Kd.R_lower ho0 (below_size (bw_ w)))
         replace BK191 := bb_ BK191 hb
         replace BK192 := bb_ BK192 hb
         replace HB := Aside0.mk (below_step (bw_ w) hb)
         (try clear hb)
         (try clear hb2)
         (try clear hk)
         (try clear hi)
         (try clear ho0)
         obtain ⟨Ao21, co21, eo21⟩ := Kd.R_slice HO200.out
         (first | subst eo21 | (injection eo21 with f1_ f2_ f3_; have f4_ := f1_.symm; have f5_ := f3_.symm; clear f1_ f2_ f3_; subst f4_; subst f5_))
         refine hK.out _ _ ⟨bc_ BK192 0, bc_ BK192 1, bc_ BK192 2, bc_ BK191 0, bc_ BK191 1, bc_ BK191 2⟩ (fun hHeld => ?_)
         clear hK K
         refine normA (N := some 35) ?_
         refine oneA (N := some 36) 9 HT_ (fun K hK => ?_)
         refine goesA Try.func77 #[.agg #[.int .i64 a1_0, .int .i64 a1_1, .slice A1_2 l1_2.length c1_2], .agg #[.int .i64 t196, .int .i64 t197, .slice Ao21 t198.length co21]] ?_
         with_reducible refine (spec_l4Same.calls k2 a1_0 a1_1 _ _ l1_2 t196 t197 _ _ t198 true _ ?side1 ?side2 ?side3 ?side4 A13.out).mono ?_
         (case side1 => exact cb_ HR1_2 HB)
         (case side2 => exact HC1_2.out)
         (case side3 => exact co_ (Kd.R_reads' HO200.out).2.2)
         (case side4 => exact (Kd.R_reads' HO200.out).2.1)
         rintro e w22 ⟨rfl, hb⟩
         refine ⟨_, rfl, ?_⟩
         replace HO_5 := Aside0.mk (Kd.R_below (ra_ HO_5) hb)
         replace HO200 := Aside0.mk (Kd.R_below (ra_ HO200) hb)
         replace BK191 := bb_ BK191 hb
         replace BK192 := bb_ BK192 hb
         replace HB := Aside0.mk (below_step (bw_ w) hb)
         (try clear hb)
         (try clear hb2)
         (try clear hk)
         (try clear hi)
         refine hK.out _ _ ⟨bc_ BK192 0, bc_ BK192 1, bc_ BK192 2, bc_ BK191 0, bc_ BK191 1, bc_ BK191 2⟩ (fun hHeld => ?_)
         clear hK K
         refine normA (N := some 36) ?_
         refine done_ (done_of HT_.out (by kernel_rfl)) ?_
         try go_wp2_with (first | ((with_reducible refine gate_builtin (b := .append) (xs := #[.tmp 37, .tmp 41]) rfl ?_); at_builtin; refine Kd.R_append k112 (w0 := w) w.heap.size rfl (.tmp 37) (.tmp 41) 95 112 (.agg #[(.int .i64 0), (.int .i64 0)]) 16 rfl Try.underlying95 info112 rfl (by decide) (by omega) u5 x5_2 (⟨x6_1, x7_2⟩ : S112) [.int .i64 x6_1, .int .i64 x7_2] (fun _ => True) (fun _ => False) rfl rfl ?aP (fun _ hk => hk.elim) ?aF ?aO ?aB ?aS ?aL ?_; (case aP => exact k112_mkM _ _ _ (⟨x6_1, x7_2⟩ : S112)); (case aB => exact (bw_ w)); (case aF => exact (fun _ _ => trivial)); (case aO => exact (ra_ HO_5)); (case aS => exact (below_size (bw_ w))); (case aL => have := LMc15.out; omega); intro v203 w23 ho hb hg hat; rw [← Ny202.out] at ho; replace BK191 := Aside0.mk (blk_grown (g := gb191) (o := .cells #[.int .i64 a0_0, .int .i64 a0_1, .slice A0_2 l0_2.length c0_2] 26 (0, 0)) (bk_ BK191) hg (Kd.R_ne HO_5.out BK191.out (by decide))); replace BK192 := Aside0.mk (blk_grown (g := gb192) (o := .cells #[.int .i64 a1_0, .int .i64 a1_1, .slice A1_2 l1_2.length c1_2] 26 (0, 0)) (bk_ BK192) hg (Kd.R_ne HO_5.out BK192.out (by decide))); replace HO200 := Aside0.mk (Kd.R_over' (ra_ HO200) (Kd.R_typed (ra_ HO_5)) (by decide) hg); have HO204 := Aside0.mk (ho); replace HB := Aside0.mk (hb); clear HO_5; clear ho hb hg hat))
         go_roundg k2
         case measure => have := HK1.out; have := HK2.out; omega
         case rel => exact ⟨(y202), (wrap64 (x7_2 + 1)), (by first | rfl | (simp; done) | (simp [*]; done)), H', ⟨by have := HK1.out; have := HK2.out; omega⟩, ⟨ra_ HO204⟩, ⟨bk_ BK191⟩, ⟨bk_ BK192⟩, ⟨(bw_ w)⟩⟩
        ·rw [if_neg c15] at H
         exact absurd H (by simp)
       ·replace c14 := Bool.eq_false_iff.mpr c14
        subst c14
        have H1 : (spec_l6Places.l1 k2 x5_2 x6_1 (wrap64 (x7_2 + 1)) a0_0 a0_1 l0_2 a1_0 a1_1 l1_2) = some r := by rw [if_neg (show ¬ (false = true) by decide)] at H; exact H
        clear H
        have H := H1
        clear H1
        have H' := Aside0.mk H
        clear H
        have hnb24 := NB192_191.out
        have hnc24 := NB191_192.out
        obtain ⟨hcz25_0, hcz25_1, hcz25_2, hfz25_0, hfz25_1, hfz25_2⟩ := bc3_ (w := wr) BK192
        obtain ⟨hcz26_0, hcz26_1, hcz26_2, hfz26_0, hfz26_1, hfz26_2⟩ := bc3_ (w := wr) BK191
        try go_wp2
        replace HO_5 := Aside0.mk (Kd.R_drew HO_5.out)
        replace BK191 := Aside0.mk (blk_drew BK191.out)
        replace BK192 := Aside0.mk (blk_drew BK192.out)
        replace HB := Aside0.mk (below_drew1 HB.out)
        refine start_ (n := 10) (S := fun w' => w'.cell? ⟨gb192, 0, none⟩ = some (.int .i64 a1_0) ∧ w'.cell? ⟨gb192, 1, none⟩ = some (.int .i64 a1_1) ∧ w'.cell? ⟨gb192, 2, none⟩ = some (.slice A1_2 l1_2.length c1_2) ∧ w'.cell? ⟨gb191, 0, none⟩ = some (.int .i64 a0_0) ∧ w'.cell? ⟨gb191, 1, none⟩ = some (.int .i64 a0_1) ∧ w'.cell? ⟨gb191, 2, none⟩ = some (.slice A0_2 l0_2.length c0_2)) (ds := []) #[false, false, false, false, false, false, false, false, false, false] (by kernel_rfl) rfl rfl ⟨bc_ BK192 0, bc_ BK192 1, bc_ BK192 2, bc_ BK191 0, bc_ BK191 1, bc_ BK191 2⟩ (fun hHeld => ?_); refine with_tabW spec_l6Places.tab8 spec_l6Places.bits8 (fun HT_ HW_ => ?_)
        generalize wr.drew = w27 at HO_5 BK191 BK192 HB hHeld ⊢
        refine pureA (N := some 29) 2 HT_ ?_
        refine pureA (N := some 30) 3 HT_ ?_
        refine pureA (N := some 31) 4 HT_ ?_
        refine pureA (N := some 33) 6 HT_ ?_
        refine takeA (N := some 27) 0 HT_ HW_ hHeld ?_
        refine takeA (N := some 28) 1 HT_ HW_ hHeld ?_
        refine takeA (N := some 32) 5 HT_ HW_ hHeld ?_
        refine takeA (N := some 34) 7 HT_ HW_ hHeld ?_
        refine oneA (N := some 35) 8 HT_ (fun K hK => ?_)
        refine goesA Try.func124 #[.agg #[.int .i64 a0_0, .int .i64 a0_1, .slice A0_2 l0_2.length c0_2], .int .i64 x6_1, .int .i64 x7_2, .int .i64 a1_1, .int .i64 a1_0] ?_
        with_reducible refine (spec_l2Part.calls k2 a0_0 a0_1 _ _ l0_2 x6_1 x7_2 a1_1 a1_0 t196 t197 t198 _ ?side1 ?side2 A12.out).mono ?_
        (case side1 => exact cb_ HR0_2 HB)
        (case side2 => exact HC0_2.out)
        rintro e w28 ⟨v199, rfl, ho0, hb⟩
        refine ⟨_, rfl, ?_⟩
        replace HO_5 := Aside0.mk (Kd.R_below (ra_ HO_5) hb)
        have HO200 := Aside0.mk (Kd.R_lower ho0 (below_size (bw_ w)))
        replace BK191 := bb_ BK191 hb
        replace BK192 := bb_ BK192 hb
        replace HB := Aside0.mk (below_step (bw_ w) hb)
        (try clear hb)
        (try clear hb2)
        (try clear hk)
        (try clear hi)
        (try clear ho0)
        obtain ⟨Ao29, co29, eo29⟩ := Kd.R_slice HO200.out
        (first | subst eo29 | (injection eo29 with f1_ f2_ f3_; have f4_ := f1_.symm; have f5_ := f3_.symm; clear f1_ f2_ f3_; subst f4_; subst f5_))
        refine hK.out _ _ ⟨bc_ BK192 0, bc_ BK192 1, bc_ BK192 2, bc_ BK191 0, bc_ BK191 1, bc_ BK191 2⟩ (fun hHeld => ?_)
        clear hK K
        refine normA (N := some 35) ?_
        refine oneA (N := some 36) 9 HT_ (fun K hK => ?_)
        refine goesA Try.func77 #[.agg #[.int .i64 a1_0, .int .i64 a1_1, .slice A1_2 l1_2.length c1_2], .agg #[.int .i64 t196, .int .i64 t197, .slice Ao29 t198.length co29]] ?_
        with_reducible refine (spec_l4Same.calls k2 a1_0 a1_1 _ _ l1_2 t196 t197 _ _ t198 false _ ?side1 ?side2 ?side3 ?side4 A13.out).mono ?_
        (case side1 => exact cb_ HR1_2 HB)
        (case side2 => exact HC1_2.out)
        (case side3 => exact co_ (Kd.R_reads' HO200.out).2.2)
        (case side4 => exact (Kd.R_reads' HO200.out).2.1)
        rintro e w30 ⟨rfl, hb⟩
        refine ⟨_, rfl, ?_⟩
        replace HO_5 := Aside0.mk (Kd.R_below (ra_ HO_5) hb)
        replace HO200 := Aside0.mk (Kd.R_below (ra_ HO200) hb)
        replace BK191 := bb_ BK191 hb
        replace BK192 := bb_ BK192 hb
        replace HB := Aside0.mk (below_step (bw_ w) hb)
        (try clear hb)
        (try clear hb2)
        (try clear hk)
        (try clear hi)
        refine hK.out _ _ ⟨bc_ BK192 0, bc_ BK192 1, bc_ BK192 2, bc_ BK191 0, bc_ BK191 1, bc_ BK191 2⟩ (fun hHeld => ?_)
        clear hK K
        refine normA (N := some 36) ?_
        refine done_ (done_of HT_.out (by kernel_rfl)) ?_
        try go_wp2
        go_roundg k2
        case measure => have := HK1.out; have := HK2.out; omega
        case rel => exact ⟨(x5_2), (wrap64 (x7_2 + 1)), (by first | rfl | (simp; done) | (simp [*]; done)), H', ⟨by have := HK1.out; have := HK2.out; omega⟩, ⟨ra_ HO_5⟩, ⟨bk_ BK191⟩, ⟨bk_ BK192⟩, ⟨(bw_ w)⟩⟩
      ·rw [if_neg c11] at H
       have c11b0 : decide ((wrap64 (x7_2 + a1_0)) ≤ a0_0) = false := decide_eq_false c11
       clear c11
       have H' := Aside0.mk H
       clear H
       have hnb31 := NB192_191.out
       have hnc31 := NB191_192.out
       obtain ⟨hcz32_0, hcz32_1, hcz32_2, hfz32_0, hfz32_1, hfz32_2⟩ := bc3_ (w := wr) BK192
       obtain ⟨hcz33_0, hcz33_1, hcz33_2, hfz33_0, hfz33_1, hfz33_2⟩ := bc3_ (w := wr) BK191
       go_wp2
       go_roundg k2
       case measure => have := HK1.out; have := HK2.out; omega
       case rel => exact ⟨(x5_2), (wrap64 (x6_1 + 1)), (by first | rfl | (simp; done) | (simp [*]; done)), H', ⟨by have := HK1.out; have := HK2.out; omega⟩, ⟨ra_ HO_5⟩, ⟨bk_ BK191⟩, ⟨bk_ BK192⟩, ⟨(bw_ w)⟩⟩
   ·rw [if_neg c7] at H
    have c7b0 : decide ((wrap64 (x6_1 + a1_1)) ≤ a0_1) = false := decide_eq_false c7
    clear c7
    obtain rfl := Option.some.inj H
    have hnb34 := NB192_191.out
    have hnc34 := NB191_192.out
    obtain ⟨hcz35_0, hcz35_1, hcz35_2, hfz35_0, hfz35_1, hfz35_2⟩ := bc3_ (w := wr) BK192
    obtain ⟨hcz36_0, hcz36_1, hcz36_2, hfz36_0, hfz36_1, hfz36_2⟩ := bc3_ (w := wr) BK191
    go_wp2
    go_ret
    exact ⟨_, by first | rfl | (simp [errW_none, errW_some] <;> rfl) | (simp [*, errW_none, errW_some] <;> rfl), by (with_reducible repeat (first | apply Kd.R_alloc | apply Kd.R_drewN | apply Kd.R_drew)); exact HO_5.out, (bw_ w)⟩

end Go.Proofs.Yteiaakppjcpgcaa.PFnExactAnyWayPlaces
