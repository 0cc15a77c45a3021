-- Printed by this session's own program (wip/tool/myprint.py, over the kit's print); Lean checks it.
import Derived.Test.YteiaakppjcpgcaaPFnExactAnyWayPlacesx0
import Derived.Test.YteiaakppjcpgcaaPFnExactAnyWayPlacesx7
namespace Go.Proofs.Yteiaakppjcpgcaa.PFnExactAnyWayPlaces
open Go.RowKit Go.Proofs.YteiaakppjcpgcaaW.PrintWords Go.Proofs.YteiaakppjcpgcaaW.PrintLast Go.Proofs.YteiaakppjcpgcaaW.PrintMore
attribute [local go_sem] max2_int min2_int max_two min_two max_three min_three max_four min_four   -- for this text's walks alone
set_option linter.unusedVariables false
set_option linter.unusedSimpArgs false

/-! ### impl_Chart_places: function 99 -/
mutual
def impl_Chart_places.l0 : Nat → List (S112) → Int → Int → Int → List Int → Int → Int → List Int → Option ((List (S112)))
  | 0, _, _, _, _, _, _, _, _ => none
  | k + 1, x5, x6, x354000, x354001, x354002, x355000, x355001, x355002 => if (wrap64 (x6 + x355001)) ≤ x354001 then (impl_Chart_places.l1 k x5 x6 0 x354000 x354001 x354002 x355000 x355001 x355002) else (some x5)
def impl_Chart_places.l1 : Nat → List (S112) → Int → Int → Int → Int → List Int → Int → Int → List Int → Option ((List (S112)))
  | 0, _, _, _, _, _, _, _, _, _ => none
  | k + 1, x5, x6, x7, x354000, x354001, x354002, x355000, x355001, x355002 => if (wrap64 (x7 + x355000)) ≤ x354000 then ((impl_Chart_part.f k x354000 x354001 x354002 x6 x7 x355001 x355000).bind fun bt358 => ((impl_sameChart.f k bt358.1 bt358.2.1 bt358.2.2 x355000 x355001 x355002).bind fun t363 => (if t363 = true then (if x5.length < 8796093022208 then (impl_Chart_places.l1 k (x5 ++ [(⟨x6, x7⟩ : S112)]) x6 (wrap64 (x7 + 1)) x354000 x354001 x354002 x355000 x355001 x355002) else (none)) else (impl_Chart_places.l1 k x5 x6 (wrap64 (x7 + 1)) x354000 x354001 x354002 x355000 x355001 x355002)))) else (impl_Chart_places.l0 k x5 (wrap64 (x6 + 1)) x354000 x354001 x354002 x355000 x355001 x355002)
end
def impl_Chart_places.f (k : Nat) (a0_0 : Int) (a0_1 : Int) (l0_2 : List Int) (a1_0 : Int) (a1_1 : Int) (l1_2 : List Int) : Option ((List (S112))) := impl_Chart_places.l0 k (([] : List (S112))) 0 a0_0 a0_1 l0_2 a1_0 a1_1 l1_2
theorem impl_Chart_places.mono_l : ∀ k, (∀ y0 y1 y2 y3 y4 y5 y6 y7, LeO (impl_Chart_places.l0 k y0 y1 y2 y3 y4 y5 y6 y7) (impl_Chart_places.l0 (k + 1) y0 y1 y2 y3 y4 y5 y6 y7)) ∧ (∀ y0 y1 y2 y3 y4 y5 y6 y7 y8, LeO (impl_Chart_places.l1 k y0 y1 y2 y3 y4 y5 y6 y7 y8) (impl_Chart_places.l1 (k + 1) y0 y1 y2 y3 y4 y5 y6 y7 y8))
  | 0 => ⟨fun _ _ _ _ _ _ _ _ r h => by simp [impl_Chart_places.l0] at h, fun _ _ _ _ _ _ _ _ _ r h => by simp [impl_Chart_places.l1] at h⟩
  | k + 1 => by
    obtain ⟨ih0, ih1⟩ := impl_Chart_places.mono_l k
    refine ⟨?_, ?_⟩
    · intro y0 y1 y2 y3 y4 y5 y6 y7
      unfold impl_Chart_places.l0
      repeat' first
      | (with_reducible exact ih0 _ _ _ _ _ _ _ _)
      | (with_reducible exact ih1 _ _ _ _ _ _ _ _ _)
      | (with_reducible exact impl_Chart_part.mono _ _ _ _ _ _ _ _)
      | (with_reducible exact impl_sameChart.mono _ _ _ _ _ _ _)
      | (with_reducible exact LeO.refl _)
      | (with_reducible exact LeO.none _)
      | (with_reducible refine LeO.ite ?_ ?_)
      | (with_reducible refine LeO.bind ?_ (fun _ => ?_))
      | exact ih0 _ _ _ _ _ _ _ _
      | exact ih1 _ _ _ _ _ _ _ _ _
      | exact impl_Chart_part.mono _ _ _ _ _ _ _ _
      | exact impl_sameChart.mono _ _ _ _ _ _ _
      | exact LeO.none _
      | refine LeO.ite ?_ ?_
      | refine LeO.bind ?_ (fun _ => ?_)
    · intro y0 y1 y2 y3 y4 y5 y6 y7 y8
      unfold impl_Chart_places.l1
      repeat' first
      | (with_reducible exact ih0 _ _ _ _ _ _ _ _)
      | (with_reducible exact ih1 _ _ _ _ _ _ _ _ _)
      | (with_reducible exact impl_Chart_part.mono _ _ _ _ _ _ _ _)
      | (with_reducible exact impl_sameChart.mono _ _ _ _ _ _ _)
      | (with_reducible exact LeO.refl _)
      | (with_reducible exact LeO.none _)
      | (with_reducible refine LeO.ite ?_ ?_)
      | (with_reducible refine LeO.bind ?_ (fun _ => ?_))
      | exact ih0 _ _ _ _ _ _ _ _
      | exact ih1 _ _ _ _ _ _ _ _ _
      | exact impl_Chart_part.mono _ _ _ _ _ _ _ _
      | exact impl_sameChart.mono _ _ _ _ _ _ _
      | exact LeO.none _
      | refine LeO.ite ?_ ?_
      | refine LeO.bind ?_ (fun _ => ?_)
theorem impl_Chart_places.mono : ∀ a0 a1 a2 a3 a4 a5 k, LeO (impl_Chart_places.f k a0 a1 a2 a3 a4 a5) (impl_Chart_places.f (k + 1) a0 a1 a2 a3 a4 a5) := by
  intro a0 a1 a2 a3 a4 a5 k
  obtain ⟨ih0, ih1⟩ := impl_Chart_places.mono_l k
  unfold impl_Chart_places.f
  repeat' first
      | (with_reducible exact ih0 _ _ _ _ _ _ _ _)
      | (with_reducible exact ih1 _ _ _ _ _ _ _ _ _)
      | (with_reducible exact impl_Chart_part.mono _ _ _ _ _ _ _ _)
      | (with_reducible exact impl_sameChart.mono _ _ _ _ _ _ _)
      | (with_reducible exact LeO.refl _)
      | (with_reducible exact LeO.none _)
      | (with_reducible refine LeO.ite ?_ ?_)
      | (with_reducible refine LeO.bind ?_ (fun _ => ?_))
      | exact ih0 _ _ _ _ _ _ _ _
      | exact ih1 _ _ _ _ _ _ _ _ _
      | exact impl_Chart_part.mono _ _ _ _ _ _ _ _
      | exact impl_sameChart.mono _ _ _ _ _ _ _
      | exact LeO.none _
      | refine LeO.ite ?_ ?_
      | refine LeO.bind ?_ (fun _ => ?_)
def impl_Chart_places.T8 : Bool × List (List Nat × List Nat) := (true, [([], []), ([], []), ([], []), ([], []), ([3], [3]), ([], []), ([5], [5]), ([0, 1, 2, 4, 6], [0, 1, 2, 4, 6]), ([], []), ([7, 8, 7], [7, 8])])
def impl_Chart_places.B8 : List Nat := [0, 0, 0, 0, 8, 0, 32, 127, 0, 511]
theorem impl_Chart_places.tab8 : rtab .any (opsOf Try.f99 8) = impl_Chart_places.T8 := by kernel_rfl
theorem impl_Chart_places.bits8 : waitsOk impl_Chart_places.T8.2 impl_Chart_places.B8 = true := by kernel_rfl
set_option maxHeartbeats 8000000 in
set_option maxRecDepth 100000 in
theorem impl_Chart_places.calls (k : Nat) (a0_0 : Int) (a0_1 : Int) (A0_2 : Option Addr) (c0_2 : Nat) (l0_2 : List Int) (a1_0 : Int) (a1_1 : Int) (A1_2 : Option Addr) (c1_2 : Nat) (l1_2 : List Int) (r : List (S112)) (w : World) (hr0_2 : Kd.C (Kd.int .i64) w A0_2 l0_2.length l0_2) (hc0_2 : l0_2.length ≤ c0_2) (hr1_2 : Kd.C (Kd.int .i64) w A1_2 l1_2.length l1_2) (hc1_2 : l1_2.length ≤ c1_2) (h : impl_Chart_places.f k a0_0 a0_1 l0_2 a1_0 a1_1 l1_2 = some r) :
  Calls Try.prog 99 #[.agg #[.int .i64 a0_0, .int .i64 a0_1, .slice A0_2 l0_2.length c0_2], .agg #[.int .i64 a1_0, .int .i64 a1_1, .slice A1_2 l1_2.length c1_2]] w fun e w' => ∃ v0_ : Value, e = .returned (v0_) ∧ Kd.R k112 112 w' w.heap.size (fun _ => True) v0_ r ∧ Below w.heap.size w w' := by
 have hu26 := Try.underlying26
 have hu112 := Try.underlying112
 have HR0_2 := Aside0.mk hr0_2
 have HC0_2 := Aside0.mk hc0_2
 clear hr0_2 hc0_2
 have HR1_2 := Aside0.mk hr1_2
 have HC1_2 := Aside0.mk hc1_2
 clear hr1_2 hc1_2
 have HB := Aside0.mk (Below.refl w.heap.size w)
 have H : (impl_Chart_places.l0 k (([] : List (S112))) 0 a0_0 a0_1 l0_2 a1_0 a1_1 l1_2) = some r := h
 clear h
 obtain ⟨y355, hy355⟩ : ∃ y_ : List (S112), y_ = (([] : List (S112))) := ⟨_, rfl⟩
 replace H : (impl_Chart_places.l0 k y355 0 a0_0 a0_1 l0_2 a1_0 a1_1 l1_2) = some r := by first | (rw [hy355]; with_reducible exact H) | (have H2_ := (Option.bind_some _ _).symm.trans H; rw [hy355]; with_reducible exact H2_) | (have H2_ := (Option.bind_some _ _).symm.trans H; with_reducible exact H2_) | with_reducible exact H | (rw [hy355]; exact H) | exact H
 have Ny355 := Aside0.mk hy355
 clear hy355
 have H' := Aside0.mk H
 clear H
 go_enter Try.func99, Try.ntmps99
 go_wp2_with (first | ((with_reducible refine gate_dst (N := 2) rfl ?_); refine box_ (N := 2) (cs := #[.int .i64 a0_0, .int .i64 a0_1, .slice A0_2 l0_2.length c0_2]) (t := 26) ?_; intro gb353 hg w3 hbox hb; have BK353 := Aside0.mk (hbox); have GW353 := gz_ w hg; have GE353 := gz_ w hg; replace HB := Aside0.mk (below_step (bw_ w) hb); clear hb hbox hg) | ((with_reducible refine gate_dst (N := 3) rfl ?_); refine box_ (N := 3) (cs := #[.int .i64 a1_0, .int .i64 a1_1, .slice A1_2 l1_2.length c1_2]) (t := 26) ?_; intro gb354 hg w4 hbox hb; have n0_ := bb_ BK353 hb; have n1_ := Aside0.mk (below_step (bw_ w) hb); have n2_ := Aside0.mk (hbox); have n3_ := gz_ w hg; have n4_ := gz_ w hg; have n5_ := ne_ hg BK353; have n6_ := en_ hg BK353; clear BK353; clear HB; have BK353 := n0_; have HB := n1_; have BK354 := n2_; have GW354 := n3_; have GE354 := n4_; have NB353_354 := n5_; have NB354_353 := n6_; clear n0_ n1_ n2_ n3_ n4_ n5_ n6_; clear hb hbox hg) | ((with_reducible refine gate_dst (N := 8) rfl ?_); refine Kd.R_lit k112 _ 112 ?hg (N := 8) ?hd (xs := ([] : List (S112))) (inner := []) (ok := fun _ => True) (okp := fun _ => True) ?hr ?hp (fun _ hk => hk) trivial (Below.refl _ _) (Nat.le_refl _) (by simp) ?_; (case hd => rfl); (case hg => rfl); (case hr => first | (go_simp; done) | (go_simp; rfl)); (case hp => exact (Reps.none _ _)); intro v356 w5 ho6 hb hg_ hnew_; clear hg_ hnew_; (first | rw [← Ny355.out] at ho6 | (simp only [Int.reduceToNat] at ho6; rw [← Ny355.out] at ho6)); have HO357 := Aside0.mk (Kd.R_lower ho6 (below_size (bw_ w))); replace BK353 := bb_ BK353 hb; replace BK354 := bb_ BK354 hb; replace HB := Aside0.mk (below_step (bw_ w) hb); clear hb ho6))
 go_loopg [5, 6] k (fun kq v5 v6 w' => ∃ (x5_1 : List (S112)) (x6_1 : Int), v6 = .int .i64 x6_1 ∧ Aside0 (impl_Chart_places.l0 kq x5_1 x6_1 a0_0 a0_1 l0_2 a1_0 a1_1 l1_2 = some r) ∧ Aside0 (kq ≤ k) ∧ Aside0 (Kd.R k112 112 w' w.heap.size (fun _ => True) v5 x5_1) ∧ Aside0 (w'.heap[gb353]? = some (.cells #[.int .i64 a0_0, .int .i64 a0_1, (.slice A0_2 l0_2.length c0_2)] 26 (0, 0))) ∧ Aside0 (w'.heap[gb354]? = some (.cells #[.int .i64 a1_0, .int .i64 a1_1, (.slice A1_2 l1_2.length c1_2)] 26 (0, 0))) ∧ Aside0 (Below w.heap.size w w'))
 case atStart => exact ⟨(y355), (0), (by first | rfl | (simp; done) | (simp [*]; done)), H', ⟨Nat.le_refl _⟩, ⟨ra_ HO357⟩, ⟨bk_ BK353⟩, ⟨bk_ BK354⟩, ⟨(bw_ w)⟩⟩
 case round =>
  clear H'
  try clear c1
  try clear p2
  obtain ⟨x5_1, x6_1, rfl, HA, HK1, HO_5, BK353, BK354, HB⟩ := hrel
  cases gk with
  | zero => exact absurd HA.out (by simp [impl_Chart_places.l0])
  | succ k1 =>
   have H := HA.out
   clear HA
   simp only [impl_Chart_places.l0] at H
   by_cases c7 : (wrap64 (x6_1 + a1_1)) ≤ a0_1
   ·rw [if_pos c7] at H
    have c7b0 : decide ((wrap64 (x6_1 + a1_1)) ≤ a0_1) = true := decide_eq_true c7
    clear c7
    have H' := Aside0.mk H
    clear H
    have hnb8 := NB354_353.out
    have hnc8 := NB353_354.out
    obtain ⟨hcz9_0, hcz9_1, hcz9_2, hfz9_0, hfz9_1, hfz9_2⟩ := bc3_ (w := wr) BK354
    obtain ⟨hcz10_0, hcz10_1, hcz10_2, hfz10_0, hfz10_1, hfz10_2⟩ := bc3_ (w := wr) BK353
    go_wp2
    go_loopg [5, 7] k1 (fun kq v5 v7 w' => ∃ (x5_2 : List (S112)) (x7_2 : Int), v7 = .int .i64 x7_2 ∧ Aside0 (impl_Chart_places.l1 kq x5_2 x6_1 x7_2 a0_0 a0_1 l0_2 a1_0 a1_1 l1_2 = some r) ∧ Aside0 (kq ≤ k1) ∧ Aside0 (Kd.R k112 112 w' w.heap.size (fun _ => True) v5 x5_2) ∧ Aside0 (w'.heap[gb353]? = some (.cells #[.int .i64 a0_0, .int .i64 a0_1, (.slice A0_2 l0_2.length c0_2)] 26 (0, 0))) ∧ Aside0 (w'.heap[gb354]? = some (.cells #[.int .i64 a1_0, .int .i64 a1_1, (.slice A1_2 l1_2.length c1_2)] 26 (0, 0))) ∧ Aside0 (Below w.heap.size w w'))
    case atStart => exact ⟨(x5_1), (0), (by first | rfl | (simp; done) | (simp [*]; done)), H', ⟨Nat.le_refl _⟩, ⟨ra_ HO_5⟩, ⟨bk_ BK353⟩, ⟨bk_ BK354⟩, ⟨(bw_ w)⟩⟩
    case round =>
     clear H'
     try clear c1
     try clear p2
     try clear p6
     try clear c7
     try clear c7b0
     try clear c8
     try clear c9
     try clear hcz10_0
     try clear hcz10_1
     try clear hcz10_2
     try clear hcz9_0
     try clear hcz9_1
     try clear hcz9_2
     try clear hfz10_0
     try clear hfz10_1
     try clear hfz10_2
     try clear hfz9_0
     try clear hfz9_1
     try clear hfz9_2
     try clear p2
     obtain ⟨x5_2, x7_2, rfl, HA, HK2, HO_5, BK353, BK354, HB⟩ := hrel
     cases gk with
     | zero => exact absurd HA.out (by simp [impl_Chart_places.l1])
     | succ k2 =>
      have H := HA.out
      clear HA
      simp only [impl_Chart_places.l1] at H
      by_cases c11 : (wrap64 (x7_2 + a1_0)) ≤ a0_0
      ·rw [if_pos c11] at H
       have c11b0 : decide ((wrap64 (x7_2 + a1_0)) ≤ a0_0) = true := decide_eq_true c11
       clear c11
       replace H := Option.bind_eq_some_iff.mp H
       obtain ⟨⟨t358, t359, t360⟩, A120, H⟩ := H
       replace H : ((impl_sameChart.f k2 t358 t359 t360 a1_0 a1_1 l1_2).bind fun t363 => (if t363 = true then (if x5_2.length < 8796093022208 then (impl_Chart_places.l1 k2 (x5_2 ++ [(⟨x6_1, x7_2⟩ : S112)]) x6_1 (wrap64 (x7_2 + 1)) a0_0 a0_1 l0_2 a1_0 a1_1 l1_2) else (none)) else (impl_Chart_places.l1 k2 x5_2 x6_1 (wrap64 (x7_2 + 1)) a0_0 a0_1 l0_2 a1_0 a1_1 l1_2))) = some r := H
       have A12 := Aside0.mk A120
       clear A120
       replace H := Option.bind_eq_some_iff.mp H
       obtain ⟨t363, A130, H⟩ := H
       replace H : (if t363 = true then (if x5_2.length < 8796093022208 then (impl_Chart_places.l1 k2 (x5_2 ++ [(⟨x6_1, x7_2⟩ : S112)]) x6_1 (wrap64 (x7_2 + 1)) a0_0 a0_1 l0_2 a1_0 a1_1 l1_2) else (none)) else (impl_Chart_places.l1 k2 x5_2 x6_1 (wrap64 (x7_2 + 1)) a0_0 a0_1 l0_2 a1_0 a1_1 l1_2)) = some r := H
       have A13 := Aside0.mk A130
       clear A130
       by_cases c14 : t363 = true
       ·subst c14
        have H1 : (if x5_2.length < 8796093022208 then (impl_Chart_places.l1 k2 (x5_2 ++ [(⟨x6_1, x7_2⟩ : S112)]) x6_1 (wrap64 (x7_2 + 1)) a0_0 a0_1 l0_2 a1_0 a1_1 l1_2) else (none)) = some r := by rw [if_pos rfl] at H; exact H
        clear H
        have H := H1
        clear H1
        by_cases c15 : x5_2.length < 8796093022208
        ·rw [if_pos c15] at H
         have LMc15 := Aside0.mk c15
         clear c15
         obtain ⟨y364, hy364⟩ : ∃ y_ : List (S112), y_ = (x5_2 ++ [(⟨x6_1, x7_2⟩ : S112)]) := ⟨_, rfl⟩
         replace H : (impl_Chart_places.l1 k2 y364 x6_1 (wrap64 (x7_2 + 1)) a0_0 a0_1 l0_2 a1_0 a1_1 l1_2) = some r := by first | (rw [hy364]; with_reducible exact H) | (have H2_ := (Option.bind_some _ _).symm.trans H; rw [hy364]; with_reducible exact H2_) | (have H2_ := (Option.bind_some _ _).symm.trans H; with_reducible exact H2_) | with_reducible exact H | (rw [hy364]; exact H) | exact H
         have Ny364 := Aside0.mk hy364
         clear hy364
         have H' := Aside0.mk H
         clear H
         have hnb16 := NB354_353.out
         have hnc16 := NB353_354.out
         obtain ⟨hcz17_0, hcz17_1, hcz17_2, hfz17_0, hfz17_1, hfz17_2⟩ := bc3_ (w := wr) BK354
         obtain ⟨hcz18_0, hcz18_1, hcz18_2, hfz18_0, hfz18_1, hfz18_2⟩ := bc3_ (w := wr) BK353
         try go_wp2
         replace HO_5 := Aside0.mk (Kd.R_drew HO_5.out)
         replace BK353 := Aside0.mk (blk_drew BK353.out)
         replace BK354 := Aside0.mk (blk_drew BK354.out)
         replace HB := Aside0.mk (below_drew1 HB.out)
         refine start_ (n := 10) (S := fun w' => w'.cell? ⟨gb353, 0, none⟩ = some (.int .i64 a0_0) ∧ w'.cell? ⟨gb353, 1, none⟩ = some (.int .i64 a0_1) ∧ w'.cell? ⟨gb353, 2, none⟩ = some (.slice A0_2 l0_2.length c0_2) ∧ w'.cell? ⟨gb354, 0, none⟩ = some (.int .i64 a1_0) ∧ w'.cell? ⟨gb354, 1, none⟩ = some (.int .i64 a1_1) ∧ w'.cell? ⟨gb354, 2, none⟩ = some (.slice A1_2 l1_2.length c1_2)) (ds := []) #[false, false, false, false, false, false, false, false, false, false] (by kernel_rfl) rfl rfl ⟨bc_ BK353 0, bc_ BK353 1, bc_ BK353 2, bc_ BK354 0, bc_ BK354 1, bc_ BK354 2⟩ (fun hHeld => ?_); refine with_tabW impl_Chart_places.tab8 impl_Chart_places.bits8 (fun HT_ HW_ => ?_)
         generalize wr.drew = w19 at HO_5 BK353 BK354 HB hHeld ⊢
         refine pureA (N := some 28) 1 HT_ ?_
         refine pureA (N := some 29) 2 HT_ ?_
         refine pureA (N := some 30) 3 HT_ ?_
         refine pureA (N := some 32) 5 HT_ ?_
         refine takeA (N := some 27) 0 HT_ HW_ hHeld ?_
         refine takeA (N := some 31) 4 HT_ HW_ hHeld ?_
         refine takeA (N := some 33) 6 HT_ HW_ hHeld ?_
         refine takeA (N := some 35) 8 HT_ HW_ hHeld ?_
         refine oneA (N := some 34) 7 HT_ (fun K hK => ?_)
         refine goesA Try.func127 #[.agg #[.int .i64 a0_0, .int .i64 a0_1, .slice A0_2 l0_2.length c0_2], .int .i64 x6_1, .int .i64 x7_2, .int .i64 a1_1, .int .i64 a1_0] ?_
         with_reducible refine (impl_Chart_part.calls k2 a0_0 a0_1 _ _ l0_2 x6_1 x7_2 a1_1 a1_0 t358 t359 t360 _ ?side1 ?side2 A12.out).mono ?_
         (case side1 => exact cb_ HR0_2 HB)
         (case side2 => exact HC0_2.out)
         rintro e w20 ⟨v361, rfl, ho0, hb⟩
         refine ⟨_, rfl, ?_⟩
         replace HO_5 := Aside0.mk (Kd.R_below (ra_ HO_5) hb)
         have HO362 := Aside0.mk (Kd.R_lower ho0 (below_size (bw_ w)))
         replace BK353 := bb_ BK353 hb
         replace BK354 := bb_ BK354 hb
         replace HB := Aside0.mk (below_step (bw_ w) hb)
         (try clear hb)
         (try clear hb2)
         (try clear hk)
         (try clear hi)
         (try clear ho0)
         obtain ⟨Ao21, co21, eo21⟩ := Kd.R_slice HO362.out
         (first | subst eo21 | (injection eo21 with f1_ f2_ f3_; have f4_ := f1_.symm; have f5_ := f3_.symm; clear f1_ f2_ f3_; subst f4_; subst f5_))
         refine hK.out _ _ ⟨bc_ BK353 0, bc_ BK353 1, bc_ BK353 2, bc_ BK354 0, bc_ BK354 1, bc_ BK354 2⟩ (fun hHeld => ?_)
         clear hK K
         refine normA (N := some 34) ?_
         refine oneA (N := some 36) 9 HT_ (fun K hK => ?_)
         refine goesA Try.func80 #[.agg #[.int .i64 t358, .int .i64 t359, .slice Ao21 t360.length co21], .agg #[.int .i64 a1_0, .int .i64 a1_1, .slice A1_2 l1_2.length c1_2]] ?_
         with_reducible refine (impl_sameChart.calls k2 t358 t359 _ _ t360 a1_0 a1_1 _ _ l1_2 true _ ?side1 ?side2 ?side3 ?side4 A13.out).mono ?_
         (case side1 => exact co_ (Kd.R_reads' HO362.out).2.2)
         (case side2 => exact (Kd.R_reads' HO362.out).2.1)
         (case side3 => exact cb_ HR1_2 HB)
         (case side4 => exact HC1_2.out)
         rintro e w22 ⟨rfl, hb⟩
         refine ⟨_, rfl, ?_⟩
         replace HO_5 := Aside0.mk (Kd.R_below (ra_ HO_5) hb)
         replace HO362 := Aside0.mk (Kd.R_below (ra_ HO362) hb)
         replace BK353 := bb_ BK353 hb
         replace BK354 := bb_ BK354 hb
         replace HB := Aside0.mk (below_step (bw_ w) hb)
         (try clear hb)
         (try clear hb2)
         (try clear hk)
         (try clear hi)
         refine hK.out _ _ ⟨bc_ BK353 0, bc_ BK353 1, bc_ BK353 2, bc_ BK354 0, bc_ BK354 1, bc_ BK354 2⟩ (fun hHeld => ?_)
         clear hK K
         refine normA (N := some 36) ?_
         refine done_ (done_of HT_.out (by kernel_rfl)) ?_
         try go_wp2_with (first | ((with_reducible refine gate_builtin (b := .append) (xs := #[.tmp 37, .tmp 41]) rfl ?_); at_builtin; refine Kd.R_append k112 (w0 := w) w.heap.size rfl (.tmp 37) (.tmp 41) 95 112 (.agg #[(.int .i64 0), (.int .i64 0)]) 16 rfl Try.underlying95 info112 rfl (by decide) (by omega) u5 x5_2 (⟨x6_1, x7_2⟩ : S112) [.int .i64 x6_1, .int .i64 x7_2] (fun _ => True) (fun _ => False) rfl rfl ?aP (fun _ hk => hk.elim) ?aF ?aO ?aB ?aS ?aL ?_; (case aP => exact k112_mkM _ _ _ (⟨x6_1, x7_2⟩ : S112)); (case aB => exact (bw_ w)); (case aF => exact (fun _ _ => trivial)); (case aO => exact (ra_ HO_5)); (case aS => exact (below_size (bw_ w))); (case aL => have := LMc15.out; omega); intro v365 w23 ho hb hg hat; rw [← Ny364.out] at ho; replace BK353 := Aside0.mk (blk_grown (g := gb353) (o := .cells #[.int .i64 a0_0, .int .i64 a0_1, .slice A0_2 l0_2.length c0_2] 26 (0, 0)) (bk_ BK353) hg (Kd.R_ne HO_5.out BK353.out (by decide))); replace BK354 := Aside0.mk (blk_grown (g := gb354) (o := .cells #[.int .i64 a1_0, .int .i64 a1_1, .slice A1_2 l1_2.length c1_2] 26 (0, 0)) (bk_ BK354) hg (Kd.R_ne HO_5.out BK354.out (by decide))); replace HO362 := Aside0.mk (Kd.R_over' (ra_ HO362) (Kd.R_typed (ra_ HO_5)) (by decide) hg); have HO366 := Aside0.mk (ho); replace HB := Aside0.mk (hb); clear HO_5; clear ho hb hg hat))
         go_roundg k2
         case measure => have := HK1.out; have := HK2.out; omega
         case rel => exact ⟨(y364), (wrap64 (x7_2 + 1)), (by first | rfl | (simp; done) | (simp [*]; done)), H', ⟨by have := HK1.out; have := HK2.out; omega⟩, ⟨ra_ HO366⟩, ⟨bk_ BK353⟩, ⟨bk_ BK354⟩, ⟨(bw_ w)⟩⟩
        ·rw [if_neg c15] at H
         exact absurd H (by simp)
       ·replace c14 := Bool.eq_false_iff.mpr c14
        subst c14
        have H1 : (impl_Chart_places.l1 k2 x5_2 x6_1 (wrap64 (x7_2 + 1)) a0_0 a0_1 l0_2 a1_0 a1_1 l1_2) = some r := by rw [if_neg (show ¬ (false = true) by decide)] at H; exact H
        clear H
        have H := H1
        clear H1
        have H' := Aside0.mk H
        clear H
        have hnb24 := NB354_353.out
        have hnc24 := NB353_354.out
        obtain ⟨hcz25_0, hcz25_1, hcz25_2, hfz25_0, hfz25_1, hfz25_2⟩ := bc3_ (w := wr) BK354
        obtain ⟨hcz26_0, hcz26_1, hcz26_2, hfz26_0, hfz26_1, hfz26_2⟩ := bc3_ (w := wr) BK353
        try go_wp2
        replace HO_5 := Aside0.mk (Kd.R_drew HO_5.out)
        replace BK353 := Aside0.mk (blk_drew BK353.out)
        replace BK354 := Aside0.mk (blk_drew BK354.out)
        replace HB := Aside0.mk (below_drew1 HB.out)
        refine start_ (n := 10) (S := fun w' => w'.cell? ⟨gb353, 0, none⟩ = some (.int .i64 a0_0) ∧ w'.cell? ⟨gb353, 1, none⟩ = some (.int .i64 a0_1) ∧ w'.cell? ⟨gb353, 2, none⟩ = some (.slice A0_2 l0_2.length c0_2) ∧ w'.cell? ⟨gb354, 0, none⟩ = some (.int .i64 a1_0) ∧ w'.cell? ⟨gb354, 1, none⟩ = some (.int .i64 a1_1) ∧ w'.cell? ⟨gb354, 2, none⟩ = some (.slice A1_2 l1_2.length c1_2)) (ds := []) #[false, false, false, false, false, false, false, false, false, false] (by kernel_rfl) rfl rfl ⟨bc_ BK353 0, bc_ BK353 1, bc_ BK353 2, bc_ BK354 0, bc_ BK354 1, bc_ BK354 2⟩ (fun hHeld => ?_); refine with_tabW impl_Chart_places.tab8 impl_Chart_places.bits8 (fun HT_ HW_ => ?_)
        generalize wr.drew = w27 at HO_5 BK353 BK354 HB hHeld ⊢
        refine pureA (N := some 28) 1 HT_ ?_
        refine pureA (N := some 29) 2 HT_ ?_
        refine pureA (N := some 30) 3 HT_ ?_
        refine pureA (N := some 32) 5 HT_ ?_
        refine takeA (N := some 27) 0 HT_ HW_ hHeld ?_
        refine takeA (N := some 31) 4 HT_ HW_ hHeld ?_
        refine takeA (N := some 33) 6 HT_ HW_ hHeld ?_
        refine takeA (N := some 35) 8 HT_ HW_ hHeld ?_
        refine oneA (N := some 34) 7 HT_ (fun K hK => ?_)
        refine goesA Try.func127 #[.agg #[.int .i64 a0_0, .int .i64 a0_1, .slice A0_2 l0_2.length c0_2], .int .i64 x6_1, .int .i64 x7_2, .int .i64 a1_1, .int .i64 a1_0] ?_
        with_reducible refine (impl_Chart_part.calls k2 a0_0 a0_1 _ _ l0_2 x6_1 x7_2 a1_1 a1_0 t358 t359 t360 _ ?side1 ?side2 A12.out).mono ?_
        (case side1 => exact cb_ HR0_2 HB)
        (case side2 => exact HC0_2.out)
        rintro e w28 ⟨v361, rfl, ho0, hb⟩
        refine ⟨_, rfl, ?_⟩
        replace HO_5 := Aside0.mk (Kd.R_below (ra_ HO_5) hb)
        have HO362 := Aside0.mk (Kd.R_lower ho0 (below_size (bw_ w)))
        replace BK353 := bb_ BK353 hb
        replace BK354 := bb_ BK354 hb
        replace HB := Aside0.mk (below_step (bw_ w) hb)
        (try clear hb)
        (try clear hb2)
        (try clear hk)
        (try clear hi)
        (try clear ho0)
        obtain ⟨Ao29, co29, eo29⟩ := Kd.R_slice HO362.out
        (first | subst eo29 | (injection eo29 with f1_ f2_ f3_; have f4_ := f1_.symm; have f5_ := f3_.symm; clear f1_ f2_ f3_; subst f4_; subst f5_))
        refine hK.out _ _ ⟨bc_ BK353 0, bc_ BK353 1, bc_ BK353 2, bc_ BK354 0, bc_ BK354 1, bc_ BK354 2⟩ (fun hHeld => ?_)
        clear hK K
        refine normA (N := some 34) ?_
        refine oneA (N := some 36) 9 HT_ (fun K hK => ?_)
        refine goesA Try.func80 #[.agg #[.int .i64 t358, .int .i64 t359, .slice Ao29 t360.length co29], .agg #[.int .i64 a1_0, .int .i64 a1_1, .slice A1_2 l1_2.length c1_2]] ?_
        with_reducible refine (impl_sameChart.calls k2 t358 t359 _ _ t360 a1_0 a1_1 _ _ l1_2 false _ ?side1 ?side2 ?side3 ?side4 A13.out).mono ?_
        (case side1 => exact co_ (Kd.R_reads' HO362.out).2.2)
        (case side2 => exact (Kd.R_reads' HO362.out).2.1)
        (case side3 => exact cb_ HR1_2 HB)
        (case side4 => exact HC1_2.out)
        rintro e w30 ⟨rfl, hb⟩
        refine ⟨_, rfl, ?_⟩
        replace HO_5 := Aside0.mk (Kd.R_below (ra_ HO_5) hb)
        replace HO362 := Aside0.mk (Kd.R_below (ra_ HO362) hb)
        replace BK353 := bb_ BK353 hb
        replace BK354 := bb_ BK354 hb
        replace HB := Aside0.mk (below_step (bw_ w) hb)
        (try clear hb)
        (try clear hb2)
        (try clear hk)
        (try clear hi)
        refine hK.out _ _ ⟨bc_ BK353 0, bc_ BK353 1, bc_ BK353 2, bc_ BK354 0, bc_ BK354 1, bc_ BK354 2⟩ (fun hHeld => ?_)
        clear hK K
        refine normA (N := some 36) ?_
        refine done_ (done_of HT_.out (by kernel_rfl)) ?_
        try go_wp2
        go_roundg k2
        case measure => have := HK1.out; have := HK2.out; omega
        case rel => exact ⟨(x5_2), (wrap64 (x7_2 + 1)), (by first | rfl | (simp; done) | (simp [*]; done)), H', ⟨by have := HK1.out; have := HK2.out; omega⟩, ⟨ra_ HO_5⟩, ⟨bk_ BK353⟩, ⟨bk_ BK354⟩, ⟨(bw_ w)⟩⟩
      ·rw [if_neg c11] at H
       have c11b0 : decide ((wrap64 (x7_2 + a1_0)) ≤ a0_0) = false := decide_eq_false c11
       clear c11
       have H' := Aside0.mk H
       clear H
       have hnb31 := NB354_353.out
       have hnc31 := NB353_354.out
       obtain ⟨hcz32_0, hcz32_1, hcz32_2, hfz32_0, hfz32_1, hfz32_2⟩ := bc3_ (w := wr) BK354
       obtain ⟨hcz33_0, hcz33_1, hcz33_2, hfz33_0, hfz33_1, hfz33_2⟩ := bc3_ (w := wr) BK353
       go_wp2
       go_roundg k2
       case measure => have := HK1.out; have := HK2.out; omega
       case rel => exact ⟨(x5_2), (wrap64 (x6_1 + 1)), (by first | rfl | (simp; done) | (simp [*]; done)), H', ⟨by have := HK1.out; have := HK2.out; omega⟩, ⟨ra_ HO_5⟩, ⟨bk_ BK353⟩, ⟨bk_ BK354⟩, ⟨(bw_ w)⟩⟩
   ·rw [if_neg c7] at H
    have c7b0 : decide ((wrap64 (x6_1 + a1_1)) ≤ a0_1) = false := decide_eq_false c7
    clear c7
    obtain rfl := Option.some.inj H
    have hnb34 := NB354_353.out
    have hnc34 := NB353_354.out
    obtain ⟨hcz35_0, hcz35_1, hcz35_2, hfz35_0, hfz35_1, hfz35_2⟩ := bc3_ (w := wr) BK354
    obtain ⟨hcz36_0, hcz36_1, hcz36_2, hfz36_0, hfz36_1, hfz36_2⟩ := bc3_ (w := wr) BK353
    go_wp2
    go_ret
    exact ⟨_, by first | rfl | (simp [errW_none, errW_some] <;> rfl) | (simp [*, errW_none, errW_some] <;> rfl), by (with_reducible repeat (first | apply Kd.R_alloc | apply Kd.R_drewN | apply Kd.R_drew)); exact HO_5.out, (bw_ w)⟩

/-! ### impl_AnyWayPlaces_1: function 98 -/
def impl_AnyWayPlaces_1.f (k : Nat) (a0_0 : Int) (a0_1 : Int) (l0_2 : List Int) (a1_0 : Int) (a1_1 : Int) (l1_2 : List Int) : Option (Bool) := (impl_sameChart.f k a0_0 a0_1 l0_2 a1_0 a1_1 l1_2).bind fun t392 => (some (!t392))
theorem impl_AnyWayPlaces_1.mono : ∀ a0 a1 a2 a3 a4 a5 k, LeO (impl_AnyWayPlaces_1.f k a0 a1 a2 a3 a4 a5) (impl_AnyWayPlaces_1.f (k + 1) a0 a1 a2 a3 a4 a5) := by
  intro a0 a1 a2 a3 a4 a5 k
  unfold impl_AnyWayPlaces_1.f
  repeat' first
      | (with_reducible exact impl_sameChart.mono _ _ _ _ _ _ _)
      | (with_reducible exact LeO.refl _)
      | (with_reducible exact LeO.none _)
      | (with_reducible refine LeO.ite ?_ ?_)
      | (with_reducible refine LeO.bind ?_ (fun _ => ?_))
      | exact impl_sameChart.mono _ _ _ _ _ _ _
      | exact LeO.none _
      | refine LeO.ite ?_ ?_
      | refine LeO.bind ?_ (fun _ => ?_)
set_option maxHeartbeats 8000000 in
set_option maxRecDepth 100000 in
theorem impl_AnyWayPlaces_1.calls (k : Nat) (a0_0 : Int) (a0_1 : Int) (A0_2 : Option Addr) (c0_2 : Nat) (l0_2 : List Int) (gb390 : Nat) (a1_0 : Int) (a1_1 : Int) (A1_2 : Option Addr) (c1_2 : Nat) (l1_2 : List Int) (r : Bool) (w : World) (hr0_2 : Kd.C (Kd.int .i64) w A0_2 l0_2.length l0_2) (hc0_2 : l0_2.length ≤ c0_2) (hb390 : w.heap[gb390]? = some (.cells #[.int .i64 a1_0, .int .i64 a1_1, .slice A1_2 l1_2.length c1_2] 26 (0, 0))) (hr1_2 : Kd.C (Kd.int .i64) w A1_2 l1_2.length l1_2) (hc1_2 : l1_2.length ≤ c1_2) (h : impl_AnyWayPlaces_1.f k a0_0 a0_1 l0_2 a1_0 a1_1 l1_2 = some r) :
  Calls Try.prog 98 #[.agg #[.int .i64 a0_0, .int .i64 a0_1, .slice A0_2 l0_2.length c0_2], .pointer (some ⟨gb390, 0, none⟩)] w fun e w' => e = .returned (.bool r) ∧ Below w.heap.size w w' := by
 have hu26 := Try.underlying26
 have HR0_2 := Aside0.mk hr0_2
 have HC0_2 := Aside0.mk hc0_2
 clear hr0_2 hc0_2
 have HR1_2 := Aside0.mk hr1_2
 have HC1_2 := Aside0.mk hc1_2
 clear hr1_2 hc1_2
 have BK390 := Aside0.mk hb390
 clear hb390
 have HB := Aside0.mk (Below.refl w.heap.size w)
 have H : ((impl_sameChart.f k a0_0 a0_1 l0_2 a1_0 a1_1 l1_2).bind fun t392 => (some (!t392))) = some r := h
 clear h
 replace H := Option.bind_eq_some_iff.mp H
 obtain ⟨t392, A30, H⟩ := H
 replace H : (some (!t392)) = some r := H
 have A3 := Aside0.mk A30
 clear A30
 obtain rfl := Option.some.inj H
 go_enter Try.func98, Try.ntmps98
 go_wp2_with (first | ((with_reducible refine gate_dst (N := 2) rfl ?_); refine box_ (N := 2) (cs := #[.int .i64 a0_0, .int .i64 a0_1, .slice A0_2 l0_2.length c0_2]) (t := 26) ?_; intro gb391 hg w4 hbox hb; have n0_ := bb_ BK390 hb; have n1_ := Aside0.mk (below_step (bw_ w) hb); have n2_ := Aside0.mk (hbox); have n3_ := gz_ w hg; have n4_ := gz_ w hg; have n5_ := ne_ hg BK390; have n6_ := en_ hg BK390; clear BK390; clear HB; have BK390 := n0_; have HB := n1_; have BK391 := n2_; have GW391 := n3_; have GE391 := n4_; have NB390_391 := n5_; have NB391_390 := n6_; clear n0_ n1_ n2_ n3_ n4_ n5_ n6_; clear hb hbox hg; have hnb5 := NB391_390.out; have hnc5 := NB390_391.out; obtain ⟨hcz6_0, hcz6_1, hcz6_2, hfz6_0, hfz6_1, hfz6_2⟩ := bc3_ (w := w4) BK391; obtain ⟨hcz7_0, hcz7_1, hcz7_2, hfz7_0, hfz7_1, hfz7_2⟩ := bc3_ (w := w4) BK390) | ((with_reducible refine gate_callee (f := 80) rfl ?_); refine goesB (some 6) Try.func80 #[.agg #[.int .i64 a0_0, .int .i64 a0_1, .slice A0_2 l0_2.length c0_2], .agg #[.int .i64 a1_0, .int .i64 a1_1, .slice A1_2 l1_2.length c1_2]] ?_; (with_reducible refine (impl_sameChart.calls k a0_0 a0_1 _ _ l0_2 a1_0 a1_1 _ _ l1_2 t392 _ ?side1 ?side2 ?side3 ?side4 A3.out).mono ?_); (case side1 => exact cb_ HR0_2 HB); (case side2 => exact HC0_2.out); (case side3 => exact cb_ HR1_2 HB); (case side4 => exact HC1_2.out); rintro e w8 ⟨rfl, hb⟩; refine ⟨_, rfl, ?_⟩; replace BK390 := bb_ BK390 hb; replace BK391 := bb_ BK391 hb; replace HB := Aside0.mk (below_step (bw_ w) hb); (try clear hb); (try clear hb2); (try clear hk); (try clear hi)))
 go_ret
 exact ⟨by first | rfl | (simp [errW_none, errW_some] <;> rfl) | (simp [*, errW_none, errW_some] <;> rfl), (bw_ w)⟩

/-! ### impl_Chart_1__AnyWayPlaces_1: function 126 -/
def impl_Chart_1__AnyWayPlaces_1.f (k : Nat) (a0_0 : Int) (a0_1 : Int) (l0_2 : List Int) (a1_0 : Int) (a1_1 : Int) (l1_2 : List Int) : Option (Bool) := (impl_AnyWayPlaces_1.f k a0_0 a0_1 l0_2 a1_0 a1_1 l1_2).bind fun t396 => (some (!t396))
theorem impl_Chart_1__AnyWayPlaces_1.mono : ∀ a0 a1 a2 a3 a4 a5 k, LeO (impl_Chart_1__AnyWayPlaces_1.f k a0 a1 a2 a3 a4 a5) (impl_Chart_1__AnyWayPlaces_1.f (k + 1) a0 a1 a2 a3 a4 a5) := by
  intro a0 a1 a2 a3 a4 a5 k
  unfold impl_Chart_1__AnyWayPlaces_1.f
  repeat' first
      | (with_reducible exact impl_AnyWayPlaces_1.mono _ _ _ _ _ _ _)
      | (with_reducible exact LeO.refl _)
      | (with_reducible exact LeO.none _)
      | (with_reducible refine LeO.ite ?_ ?_)
      | (with_reducible refine LeO.bind ?_ (fun _ => ?_))
      | exact impl_AnyWayPlaces_1.mono _ _ _ _ _ _ _
      | exact LeO.none _
      | refine LeO.ite ?_ ?_
      | refine LeO.bind ?_ (fun _ => ?_)
set_option maxHeartbeats 8000000 in
set_option maxRecDepth 100000 in
theorem impl_Chart_1__AnyWayPlaces_1.calls (k : Nat) (a0_0 : Int) (a0_1 : Int) (A0_2 : Option Addr) (c0_2 : Nat) (l0_2 : List Int) (gb393 : Nat) (gb394 : Nat) (a1_0 : Int) (a1_1 : Int) (A1_2 : Option Addr) (c1_2 : Nat) (l1_2 : List Int) (r : Bool) (w : World) (hr0_2 : Kd.C (Kd.int .i64) w A0_2 l0_2.length l0_2) (hc0_2 : l0_2.length ≤ c0_2) (hb393 : w.heap[gb393]? = some (.cells #[(.func (.func 98) #[] #[.pointer (some ⟨gb394, 0, none⟩)])] 70 (0, 0))) (hb394 : w.heap[gb394]? = some (.cells #[.int .i64 a1_0, .int .i64 a1_1, .slice A1_2 l1_2.length c1_2] 26 (0, 0))) (hr1_2 : Kd.C (Kd.int .i64) w A1_2 l1_2.length l1_2) (hc1_2 : l1_2.length ≤ c1_2) (h : impl_Chart_1__AnyWayPlaces_1.f k a0_0 a0_1 l0_2 a1_0 a1_1 l1_2 = some r) :
  Calls Try.prog 126 #[.agg #[.int .i64 a0_0, .int .i64 a0_1, .slice A0_2 l0_2.length c0_2], .pointer (some ⟨gb393, 0, none⟩)] w fun e w' => e = .returned (.bool r) ∧ Below w.heap.size w w' := by
 have hu26 := Try.underlying26
 have HR0_2 := Aside0.mk hr0_2
 have HC0_2 := Aside0.mk hc0_2
 clear hr0_2 hc0_2
 have HR1_2 := Aside0.mk hr1_2
 have HC1_2 := Aside0.mk hc1_2
 clear hr1_2 hc1_2
 have BK393 := Aside0.mk hb393
 clear hb393
 have BK394 := Aside0.mk hb394
 clear hb394
 have HB := Aside0.mk (Below.refl w.heap.size w)
 have H : ((impl_AnyWayPlaces_1.f k a0_0 a0_1 l0_2 a1_0 a1_1 l1_2).bind fun t396 => (some (!t396))) = some r := h
 clear h
 replace H := Option.bind_eq_some_iff.mp H
 obtain ⟨t396, A30, H⟩ := H
 replace H : (some (!t396)) = some r := H
 have A3 := Aside0.mk A30
 clear A30
 obtain rfl := Option.some.inj H
 go_enter Try.func126, Try.ntmps126
 go_wp2_with (first | ((with_reducible refine gate_dst (N := 2) rfl ?_); refine box_ (N := 2) (cs := #[.int .i64 a0_0, .int .i64 a0_1, .slice A0_2 l0_2.length c0_2]) (t := 26) ?_; intro gb395 hg w4 hbox hb; have n0_ := bb_ BK393 hb; have n1_ := bb_ BK394 hb; have n2_ := Aside0.mk (below_step (bw_ w) hb); have n3_ := Aside0.mk (hbox); have n4_ := gz_ w hg; have n5_ := gz_ w hg; have n6_ := ne_ hg BK393; have n7_ := en_ hg BK393; have n8_ := ne_ hg BK394; have n9_ := en_ hg BK394; clear BK393; clear BK394; clear HB; have BK393 := n0_; have BK394 := n1_; have HB := n2_; have BK395 := n3_; have GW395 := n4_; have GE395 := n5_; have NB393_395 := n6_; have NB395_393 := n7_; have NB394_395 := n8_; have NB395_394 := n9_; clear n0_ n1_ n2_ n3_ n4_ n5_ n6_ n7_ n8_ n9_; clear hb hbox hg; have hnb5 := NB393_395.out; have hnc5 := NB395_393.out; obtain ⟨hcz6_0, hfz6_0⟩ := bc1_ (w := w4) BK393; have hnb7 := NB395_394.out; have hnc7 := NB394_395.out; obtain ⟨hcz8_0, hcz8_1, hcz8_2, hfz8_0, hfz8_1, hfz8_2⟩ := bc3_ (w := w4) BK395) | ((with_reducible refine gate_dst (N := 6) rfl ?_); refine goesV_ (some 6) rfl rfl Try.func98 (by kernel_rfl) rfl #[.agg #[.int .i64 a0_0, .int .i64 a0_1, .slice A0_2 l0_2.length c0_2], .pointer (some ⟨gb394, 0, none⟩)] rfl (by first | rfl | (simp [Act.eval]; done)) (by first | rfl | (simp [Act.eval]; done)) ?_; (with_reducible refine (impl_AnyWayPlaces_1.calls k a0_0 a0_1 _ _ l0_2 gb394 a1_0 a1_1 A1_2 c1_2 l1_2 t396 _ ?side1 ?side2 ?side3 ?side4 ?side5 A3.out).mono ?_); (case side1 => exact cb_ HR0_2 HB); (case side2 => exact HC0_2.out); (case side3 => (with_reducible repeat (first | refine blk_drewN ?_ _ | refine blk_drew ?_ | refine blk_alloc ?_ _)); exact BK394.out); (case side4 => exact cb_ HR1_2 HB); (case side5 => exact HC1_2.out); rintro e w9 ⟨rfl, hb⟩; refine ⟨_, rfl, ?_⟩; replace BK393 := bb_ BK393 hb; replace BK394 := bb_ BK394 hb; replace BK395 := bb_ BK395 hb; replace HB := Aside0.mk (below_step (bw_ w) hb); (try clear hb); (try clear hb2); (try clear hk); (try clear hi)))
 go_ret
 exact ⟨by first | rfl | (simp [errW_none, errW_some] <;> rfl) | (simp [*, errW_none, errW_some] <;> rfl), (bw_ w)⟩

/-! ### impl_Chart__Chart_1__AnyWayPlaces_1_2: function 136 -/
def impl_Chart__Chart_1__AnyWayPlaces_1_2.l0 : Nat → List (S26) → Int → Int → Int → Int → List Int → Option (Int)
  | 0, _, _, _, _, _, _ => none
  | k + 1, x0, x7, x8, x399000, x399001, x399002 => if x8 < x7 then (if 0 ≤ x8 then (if x8 < (x0.length : Int) then ((impl_Chart_1__AnyWayPlaces_1.f k ((rd_T26 x0 x8).f0) ((rd_T26 x0 x8).f1) ((rd_T26 x0 x8).f2) x399000 x399001 x399002).bind fun t400 => (if t400 = true then (some x8) else (impl_Chart__Chart_1__AnyWayPlaces_1_2.l0 k x0 x7 (wrap64 (x8 + 1)) x399000 x399001 x399002))) else (none)) else (none)) else (some (-1))
def impl_Chart__Chart_1__AnyWayPlaces_1_2.f (k : Nat) (l0 : List (S26)) (a1_0 : Int) (a1_1 : Int) (l1_2 : List Int) : Option (Int) := impl_Chart__Chart_1__AnyWayPlaces_1_2.l0 k l0 (l0.length : Int) 0 a1_0 a1_1 l1_2
theorem impl_Chart__Chart_1__AnyWayPlaces_1_2.mono_l : ∀ k, (∀ y0 y1 y2 y3 y4 y5, LeO (impl_Chart__Chart_1__AnyWayPlaces_1_2.l0 k y0 y1 y2 y3 y4 y5) (impl_Chart__Chart_1__AnyWayPlaces_1_2.l0 (k + 1) y0 y1 y2 y3 y4 y5))
  | 0 => fun _ _ _ _ _ _ r h => by simp [impl_Chart__Chart_1__AnyWayPlaces_1_2.l0] at h
  | k + 1 => by
    have ih0 := impl_Chart__Chart_1__AnyWayPlaces_1_2.mono_l k
    · intro y0 y1 y2 y3 y4 y5
      unfold impl_Chart__Chart_1__AnyWayPlaces_1_2.l0
      repeat' first
      | (with_reducible exact ih0 _ _ _ _ _ _)
      | (with_reducible exact impl_Chart_1__AnyWayPlaces_1.mono _ _ _ _ _ _ _)
      | (with_reducible exact LeO.refl _)
      | (with_reducible exact LeO.none _)
      | (with_reducible refine LeO.ite ?_ ?_)
      | (with_reducible refine LeO.bind ?_ (fun _ => ?_))
      | exact ih0 _ _ _ _ _ _
      | exact impl_Chart_1__AnyWayPlaces_1.mono _ _ _ _ _ _ _
      | exact LeO.none _
      | refine LeO.ite ?_ ?_
      | refine LeO.bind ?_ (fun _ => ?_)
theorem impl_Chart__Chart_1__AnyWayPlaces_1_2.mono : ∀ a0 a1 a2 a3 k, LeO (impl_Chart__Chart_1__AnyWayPlaces_1_2.f k a0 a1 a2 a3) (impl_Chart__Chart_1__AnyWayPlaces_1_2.f (k + 1) a0 a1 a2 a3) := by
  intro a0 a1 a2 a3 k
  have ih0 := impl_Chart__Chart_1__AnyWayPlaces_1_2.mono_l k
  unfold impl_Chart__Chart_1__AnyWayPlaces_1_2.f
  repeat' first
      | (with_reducible exact ih0 _ _ _ _ _ _)
      | (with_reducible exact impl_Chart_1__AnyWayPlaces_1.mono _ _ _ _ _ _ _)
      | (with_reducible exact LeO.refl _)
      | (with_reducible exact LeO.none _)
      | (with_reducible refine LeO.ite ?_ ?_)
      | (with_reducible refine LeO.bind ?_ (fun _ => ?_))
      | exact ih0 _ _ _ _ _ _
      | exact impl_Chart_1__AnyWayPlaces_1.mono _ _ _ _ _ _ _
      | exact LeO.none _
      | refine LeO.ite ?_ ?_
      | refine LeO.bind ?_ (fun _ => ?_)
set_option maxHeartbeats 8000000 in
set_option maxRecDepth 100000 in
theorem impl_Chart__Chart_1__AnyWayPlaces_1_2.calls (k : Nat) (A0 : Option Addr) (c0 : Nat) (l0 : List (S26)) (gb397 : Nat) (gb398 : Nat) (a1_0 : Int) (a1_1 : Int) (A1_2 : Option Addr) (c1_2 : Nat) (l1_2 : List Int) (r : Int) (w : World) (hr0 : Kd.C k26 w A0 l0.length l0) (hc0 : l0.length ≤ c0) (hb397 : w.heap[gb397]? = some (.cells #[(.func (.func 98) #[] #[.pointer (some ⟨gb398, 0, none⟩)])] 70 (0, 0))) (hb398 : w.heap[gb398]? = some (.cells #[.int .i64 a1_0, .int .i64 a1_1, .slice A1_2 l1_2.length c1_2] 26 (0, 0))) (hr1_2 : Kd.C (Kd.int .i64) w A1_2 l1_2.length l1_2) (hc1_2 : l1_2.length ≤ c1_2) (h : impl_Chart__Chart_1__AnyWayPlaces_1_2.f k l0 a1_0 a1_1 l1_2 = some r) :
  Calls Try.prog 136 #[.slice A0 l0.length c0, (.func (.func 126) #[] #[.pointer (some ⟨gb397, 0, none⟩)])] w fun e w' => e = .returned (.int .i64 r) ∧ Below w.heap.size w w' := by
 have hu26 := Try.underlying26
 have HR0 := Aside0.mk hr0
 have HC0 := Aside0.mk hc0
 clear hr0 hc0
 have HR1_2 := Aside0.mk hr1_2
 have HC1_2 := Aside0.mk hc1_2
 clear hr1_2 hc1_2
 have BK397 := Aside0.mk hb397
 clear hb397
 have BK398 := Aside0.mk hb398
 clear hb398
 have HB := Aside0.mk (Below.refl w.heap.size w)
 have H : (impl_Chart__Chart_1__AnyWayPlaces_1_2.l0 k l0 (l0.length : Int) 0 a1_0 a1_1 l1_2) = some r := h
 clear h
 have H' := Aside0.mk H
 clear H
 go_enter Try.func136, Try.ntmps136
 go_wp2
 go_loopg [8] k (fun kq v8 w' => ∃ (x8_1 : Int), v8 = .int .i64 x8_1 ∧ Aside0 (impl_Chart__Chart_1__AnyWayPlaces_1_2.l0 kq l0 (l0.length : Int) x8_1 a1_0 a1_1 l1_2 = some r) ∧ Aside0 (kq ≤ k) ∧ Aside0 (w'.heap[gb397]? = some (.cells #[(.func (.func 98) #[] #[.pointer (some ⟨gb398, 0, none⟩)])] 70 (0, 0))) ∧ Aside0 (w'.heap[gb398]? = some (.cells #[.int .i64 a1_0, .int .i64 a1_1, (.slice A1_2 l1_2.length c1_2)] 26 (0, 0))) ∧ Aside0 (Below w.heap.size w w'))
 case atStart => exact ⟨(0), (by first | rfl | (simp; done) | (simp [*]; done)), H', ⟨Nat.le_refl _⟩, ⟨bk_ BK397⟩, ⟨bk_ BK398⟩, ⟨(bw_ w)⟩⟩
 case round =>
  clear H'
  try clear c1
  try clear p2
  obtain ⟨x8_1, rfl, HA, HK1, BK397, BK398, HB⟩ := hrel
  cases gk with
  | zero => exact absurd HA.out (by simp [impl_Chart__Chart_1__AnyWayPlaces_1_2.l0])
  | succ k1 =>
   have H := HA.out
   clear HA
   simp only [impl_Chart__Chart_1__AnyWayPlaces_1_2.l0] at H
   by_cases c3 : x8_1 < (l0.length : Int)
   ·rw [if_pos c3] at H
    have c3b0 : decide (x8_1 < (l0.length : Int)) = true := decide_eq_true c3
    clear c3
    by_cases c4 : 0 ≤ x8_1
    ·rw [if_pos c4] at H
     have c4b0 : decide (0 ≤ x8_1) = true := decide_eq_true c4
     clear c4
     by_cases c5 : x8_1 < (l0.length : Int)
     ·rw [if_pos c5] at H
      have c5b0 : decide (x8_1 < (l0.length : Int)) = true := decide_eq_true c5
      clear c5
      replace H := Option.bind_eq_some_iff.mp H
      obtain ⟨t400, A60, H⟩ := H
      replace H : (if t400 = true then (some x8_1) else (impl_Chart__Chart_1__AnyWayPlaces_1_2.l0 k1 l0 (l0.length : Int) (wrap64 (x8_1 + 1)) a1_0 a1_1 l1_2)) = some r := H
      have A6 := Aside0.mk A60
      clear A60
      by_cases c7 : t400 = true
      ·subst c7
       have H1 : (some x8_1) = some r := by rw [if_pos rfl] at H; exact H
       clear H
       have H := H1
       clear H1
       obtain rfl := Option.some.inj H
       have p399 : 0 ≤ (x8_1 : Int) := of_decide_eq_true (by first | (with_reducible assumption) | assumption)
       have q399 : x8_1 < (l0.length : Int) := of_decide_eq_true (by first | (with_reducible assumption) | assumption)
       obtain ⟨ad399, A399_2, c399_2, e399, hx399_0, hx399_1, hx399_2, hl399_2, hi399_2⟩ := at_T26 HR0.out x8_1 p399 q399
       cases e399
       replace hx399_0 := (HB.out.cell (World.block_lt_of_cell? w _ hx399_0)).trans hx399_0
       replace hx399_1 := (HB.out.cell (World.block_lt_of_cell? w _ hx399_1)).trans hx399_1
       replace hx399_2 := (HB.out.cell (World.block_lt_of_cell? w _ hx399_2)).trans hx399_2
       have HR399_2 := Aside0.mk hi399_2
       have HC399_2 := Aside0.mk hl399_2
       clear hi399_2 hl399_2
       replace p399 := eq_true p399
       replace q399 := eq_true q399
       go_wp2_with (first | ((with_reducible refine gate_dst (N := 16) rfl ?_); refine goesV_ (some 16) rfl rfl Try.func126 (by kernel_rfl) rfl #[.agg #[.int .i64 ((rd_T26 l0 x8_1).f0), .int .i64 ((rd_T26 l0 x8_1).f1), .slice A399_2 ((rd_T26 l0 x8_1).f2).length c399_2], .pointer (some ⟨gb397, 0, none⟩)] rfl (by first | rfl | (simp [Act.eval]; done)) (by first | rfl | (simp [Act.eval]; done)) ?_; (with_reducible refine (impl_Chart_1__AnyWayPlaces_1.calls k1 ((rd_T26 l0 x8_1).f0) ((rd_T26 l0 x8_1).f1) _ _ ((rd_T26 l0 x8_1).f2) gb397 gb398 a1_0 a1_1 A1_2 c1_2 l1_2 true _ ?side1 ?side2 ?side3 ?side4 ?side5 ?side6 A6.out).mono ?_); (case side1 => exact cb_ HR399_2 HB); (case side2 => exact HC399_2.out); (case side3 => (with_reducible repeat (first | refine blk_drewN ?_ _ | refine blk_drew ?_ | refine blk_alloc ?_ _)); exact BK397.out); (case side4 => (with_reducible repeat (first | refine blk_drewN ?_ _ | refine blk_drew ?_ | refine blk_alloc ?_ _)); exact BK398.out); (case side5 => exact cb_ HR1_2 HB); (case side6 => exact HC1_2.out); rintro e w8 ⟨rfl, hb⟩; refine ⟨_, rfl, ?_⟩; replace BK397 := bb_ BK397 hb; replace BK398 := bb_ BK398 hb; replace HB := Aside0.mk (below_step (bw_ w) hb); (try clear hb); (try clear hb2); (try clear hk); (try clear hi)))
       go_ret
       exact ⟨by first | rfl | (simp [errW_none, errW_some] <;> rfl) | (simp [*, errW_none, errW_some] <;> rfl), (bw_ w)⟩
      ·replace c7 := Bool.eq_false_iff.mpr c7
       subst c7
       have H1 : (impl_Chart__Chart_1__AnyWayPlaces_1_2.l0 k1 l0 (l0.length : Int) (wrap64 (x8_1 + 1)) a1_0 a1_1 l1_2) = some r := by rw [if_neg (show ¬ (false = true) by decide)] at H; exact H
       clear H
       have H := H1
       clear H1
       have H' := Aside0.mk H
       clear H
       have p399 : 0 ≤ (x8_1 : Int) := of_decide_eq_true (by first | (with_reducible assumption) | assumption)
       have q399 : x8_1 < (l0.length : Int) := of_decide_eq_true (by first | (with_reducible assumption) | assumption)
       obtain ⟨ad399, A399_2, c399_2, e399, hx399_0, hx399_1, hx399_2, hl399_2, hi399_2⟩ := at_T26 HR0.out x8_1 p399 q399
       cases e399
       replace hx399_0 := (HB.out.cell (World.block_lt_of_cell? w _ hx399_0)).trans hx399_0
       replace hx399_1 := (HB.out.cell (World.block_lt_of_cell? w _ hx399_1)).trans hx399_1
       replace hx399_2 := (HB.out.cell (World.block_lt_of_cell? w _ hx399_2)).trans hx399_2
       have HR399_2 := Aside0.mk hi399_2
       have HC399_2 := Aside0.mk hl399_2
       clear hi399_2 hl399_2
       replace p399 := eq_true p399
       replace q399 := eq_true q399
       go_wp2_with (first | ((with_reducible refine gate_dst (N := 16) rfl ?_); refine goesV_ (some 16) rfl rfl Try.func126 (by kernel_rfl) rfl #[.agg #[.int .i64 ((rd_T26 l0 x8_1).f0), .int .i64 ((rd_T26 l0 x8_1).f1), .slice A399_2 ((rd_T26 l0 x8_1).f2).length c399_2], .pointer (some ⟨gb397, 0, none⟩)] rfl (by first | rfl | (simp [Act.eval]; done)) (by first | rfl | (simp [Act.eval]; done)) ?_; (with_reducible refine (impl_Chart_1__AnyWayPlaces_1.calls k1 ((rd_T26 l0 x8_1).f0) ((rd_T26 l0 x8_1).f1) _ _ ((rd_T26 l0 x8_1).f2) gb397 gb398 a1_0 a1_1 A1_2 c1_2 l1_2 false _ ?side1 ?side2 ?side3 ?side4 ?side5 ?side6 A6.out).mono ?_); (case side1 => exact cb_ HR399_2 HB); (case side2 => exact HC399_2.out); (case side3 => (with_reducible repeat (first | refine blk_drewN ?_ _ | refine blk_drew ?_ | refine blk_alloc ?_ _)); exact BK397.out); (case side4 => (with_reducible repeat (first | refine blk_drewN ?_ _ | refine blk_drew ?_ | refine blk_alloc ?_ _)); exact BK398.out); (case side5 => exact cb_ HR1_2 HB); (case side6 => exact HC1_2.out); rintro e w9 ⟨rfl, hb⟩; refine ⟨_, rfl, ?_⟩; replace BK397 := bb_ BK397 hb; replace BK398 := bb_ BK398 hb; replace HB := Aside0.mk (below_step (bw_ w) hb); (try clear hb); (try clear hb2); (try clear hk); (try clear hi)))
       go_roundg k1
       case measure => have := HK1.out; omega
       case rel => exact ⟨(wrap64 (x8_1 + 1)), (by first | rfl | (simp; done) | (simp [*]; done)), H', ⟨by have := HK1.out; omega⟩, ⟨bk_ BK397⟩, ⟨bk_ BK398⟩, ⟨(bw_ w)⟩⟩
     ·rw [if_neg c5] at H
      exact absurd H (by simp)
    ·rw [if_neg c4] at H
     exact absurd H (by simp)
   ·rw [if_neg c3] at H
    have c3b0 : decide (x8_1 < (l0.length : Int)) = false := decide_eq_false c3
    clear c3
    obtain rfl := Option.some.inj H
    go_wp2
    go_ret
    exact ⟨by first | rfl | (simp [errW_none, errW_some] <;> rfl) | (simp [*, errW_none, errW_some] <;> rfl), (bw_ w)⟩

/-! ### impl_Chart__Chart_1__AnyWayPlaces_1: function 125 -/
def impl_Chart__Chart_1__AnyWayPlaces_1.f (k : Nat) (l0 : List (S26)) (a1_0 : Int) (a1_1 : Int) (l1_2 : List Int) : Option (Bool) := (impl_Chart__Chart_1__AnyWayPlaces_1_2.f k l0 a1_0 a1_1 l1_2).bind fun t403 => (some (decide (t403 ≥ 0)))
theorem impl_Chart__Chart_1__AnyWayPlaces_1.mono : ∀ a0 a1 a2 a3 k, LeO (impl_Chart__Chart_1__AnyWayPlaces_1.f k a0 a1 a2 a3) (impl_Chart__Chart_1__AnyWayPlaces_1.f (k + 1) a0 a1 a2 a3) := by
  intro a0 a1 a2 a3 k
  unfold impl_Chart__Chart_1__AnyWayPlaces_1.f
  repeat' first
      | (with_reducible exact impl_Chart__Chart_1__AnyWayPlaces_1_2.mono _ _ _ _ _)
      | (with_reducible exact LeO.refl _)
      | (with_reducible exact LeO.none _)
      | (with_reducible refine LeO.ite ?_ ?_)
      | (with_reducible refine LeO.bind ?_ (fun _ => ?_))
      | exact impl_Chart__Chart_1__AnyWayPlaces_1_2.mono _ _ _ _ _
      | exact LeO.none _
      | refine LeO.ite ?_ ?_
      | refine LeO.bind ?_ (fun _ => ?_)
set_option maxHeartbeats 8000000 in
set_option maxRecDepth 100000 in
theorem impl_Chart__Chart_1__AnyWayPlaces_1.calls (k : Nat) (A0 : Option Addr) (c0 : Nat) (l0 : List (S26)) (gb401 : Nat) (gb402 : Nat) (a1_0 : Int) (a1_1 : Int) (A1_2 : Option Addr) (c1_2 : Nat) (l1_2 : List Int) (r : Bool) (w : World) (hr0 : Kd.C k26 w A0 l0.length l0) (hc0 : l0.length ≤ c0) (hb401 : w.heap[gb401]? = some (.cells #[(.func (.func 98) #[] #[.pointer (some ⟨gb402, 0, none⟩)])] 70 (0, 0))) (hb402 : w.heap[gb402]? = some (.cells #[.int .i64 a1_0, .int .i64 a1_1, .slice A1_2 l1_2.length c1_2] 26 (0, 0))) (hr1_2 : Kd.C (Kd.int .i64) w A1_2 l1_2.length l1_2) (hc1_2 : l1_2.length ≤ c1_2) (h : impl_Chart__Chart_1__AnyWayPlaces_1.f k l0 a1_0 a1_1 l1_2 = some r) :
  Calls Try.prog 125 #[.slice A0 l0.length c0, (.func (.func 126) #[] #[.pointer (some ⟨gb401, 0, none⟩)])] w fun e w' => e = .returned (.bool r) ∧ Below w.heap.size w w' := by
 have HR0 := Aside0.mk hr0
 have HC0 := Aside0.mk hc0
 clear hr0 hc0
 have HR1_2 := Aside0.mk hr1_2
 have HC1_2 := Aside0.mk hc1_2
 clear hr1_2 hc1_2
 have BK401 := Aside0.mk hb401
 clear hb401
 have BK402 := Aside0.mk hb402
 clear hb402
 have HB := Aside0.mk (Below.refl w.heap.size w)
 have H : ((impl_Chart__Chart_1__AnyWayPlaces_1_2.f k l0 a1_0 a1_1 l1_2).bind fun t403 => (some (decide (t403 ≥ 0)))) = some r := h
 clear h
 replace H := Option.bind_eq_some_iff.mp H
 obtain ⟨t403, A30, H⟩ := H
 replace H : (some (decide (t403 ≥ 0))) = some r := H
 have A3 := Aside0.mk A30
 clear A30
 obtain rfl := Option.some.inj H
 go_enter Try.func125, Try.ntmps125
 go_wp2_with (first | ((with_reducible refine gate_callee (f := 136) rfl ?_); refine goesB (some 7) Try.func136 #[.slice A0 l0.length c0, (.func (.func 126) #[] #[.pointer (some ⟨gb401, 0, none⟩)])] ?_; (with_reducible refine (impl_Chart__Chart_1__AnyWayPlaces_1_2.calls k _ _ l0 gb401 gb402 a1_0 a1_1 A1_2 c1_2 l1_2 t403 _ ?side1 ?side2 ?side3 ?side4 ?side5 ?side6 A3.out).mono ?_); (case side1 => repeat (first | exact HR0.out | (with_reducible refine Kd.C_alloc ?_ _) | (with_reducible refine Kd.C_drewN ?_ _) | (with_reducible refine Kd.C_drew ?_))); (case side2 => exact HC0.out); (case side3 => (with_reducible repeat (first | refine blk_drewN ?_ _ | refine blk_drew ?_ | refine blk_alloc ?_ _)); exact BK401.out); (case side4 => (with_reducible repeat (first | refine blk_drewN ?_ _ | refine blk_drew ?_ | refine blk_alloc ?_ _)); exact BK402.out); (case side5 => repeat (first | exact HR1_2.out | (with_reducible refine Kd.C_alloc ?_ _) | (with_reducible refine Kd.C_drewN ?_ _) | (with_reducible refine Kd.C_drew ?_))); (case side6 => exact HC1_2.out); rintro e w4 ⟨rfl, hb⟩; refine ⟨_, rfl, ?_⟩; replace BK401 := bb_ BK401 hb; replace BK402 := bb_ BK402 hb; replace HB := Aside0.mk (below_step (bw_ w) hb); (try clear hb); (try clear hb2); (try clear hk); (try clear hi)))
 go_ret
 exact ⟨by first | rfl | (simp [errW_none, errW_some] <;> rfl) | (simp [*, errW_none, errW_some] <;> rfl), (bw_ w)⟩

/-! ### impl_Chart__AnyWayPlaces_1: function 97 -/
def impl_Chart__AnyWayPlaces_1.f (k : Nat) (l0 : List (S26)) (a1_0 : Int) (a1_1 : Int) (l1_2 : List Int) : Option (Bool) := (impl_Chart__Chart_1__AnyWayPlaces_1.f k l0 a1_0 a1_1 l1_2).bind fun t406 => (some (!t406))
theorem impl_Chart__AnyWayPlaces_1.mono : ∀ a0 a1 a2 a3 k, LeO (impl_Chart__AnyWayPlaces_1.f k a0 a1 a2 a3) (impl_Chart__AnyWayPlaces_1.f (k + 1) a0 a1 a2 a3) := by
  intro a0 a1 a2 a3 k
  unfold impl_Chart__AnyWayPlaces_1.f
  repeat' first
      | (with_reducible exact impl_Chart__Chart_1__AnyWayPlaces_1.mono _ _ _ _ _)
      | (with_reducible exact LeO.refl _)
      | (with_reducible exact LeO.none _)
      | (with_reducible refine LeO.ite ?_ ?_)
      | (with_reducible refine LeO.bind ?_ (fun _ => ?_))
      | exact impl_Chart__Chart_1__AnyWayPlaces_1.mono _ _ _ _ _
      | exact LeO.none _
      | refine LeO.ite ?_ ?_
      | refine LeO.bind ?_ (fun _ => ?_)
set_option maxHeartbeats 8000000 in
set_option maxRecDepth 100000 in
theorem impl_Chart__AnyWayPlaces_1.calls (k : Nat) (A0 : Option Addr) (c0 : Nat) (l0 : List (S26)) (gb404 : Nat) (a1_0 : Int) (a1_1 : Int) (A1_2 : Option Addr) (c1_2 : Nat) (l1_2 : List Int) (r : Bool) (w : World) (hr0 : Kd.C k26 w A0 l0.length l0) (hc0 : l0.length ≤ c0) (hb404 : w.heap[gb404]? = some (.cells #[.int .i64 a1_0, .int .i64 a1_1, .slice A1_2 l1_2.length c1_2] 26 (0, 0))) (hr1_2 : Kd.C (Kd.int .i64) w A1_2 l1_2.length l1_2) (hc1_2 : l1_2.length ≤ c1_2) (h : impl_Chart__AnyWayPlaces_1.f k l0 a1_0 a1_1 l1_2 = some r) :
  Calls Try.prog 97 #[.slice A0 l0.length c0, (.func (.func 98) #[] #[.pointer (some ⟨gb404, 0, none⟩)])] w fun e w' => e = .returned (.bool r) ∧ Below w.heap.size w w' := by
 have hmf_ : ∀ (f_ : Fn) (a_ b_ : Array Value) (W_ : World), (Instr.makeFunc f_ a_ b_).run Try.prog W_ = .ok (.func f_ a_ b_) W_ := fun _ _ _ _ => rfl
 have HR0 := Aside0.mk hr0
 have HC0 := Aside0.mk hc0
 clear hr0 hc0
 have HR1_2 := Aside0.mk hr1_2
 have HC1_2 := Aside0.mk hc1_2
 clear hr1_2 hc1_2
 have BK404 := Aside0.mk hb404
 clear hb404
 have HB := Aside0.mk (Below.refl w.heap.size w)
 have H : ((impl_Chart__Chart_1__AnyWayPlaces_1.f k l0 a1_0 a1_1 l1_2).bind fun t406 => (some (!t406))) = some r := h
 clear h
 replace H := Option.bind_eq_some_iff.mp H
 obtain ⟨t406, A30, H⟩ := H
 replace H : (some (!t406)) = some r := H
 have A3 := Aside0.mk A30
 clear A30
 obtain rfl := Option.some.inj H
 go_enter Try.func97, Try.ntmps97
 go_wp2_with (first | ((with_reducible refine gate_dst (N := 3) rfl ?_); refine box_ (N := 3) (cs := #[(.func (.func 98) #[] #[.pointer (some ⟨gb404, 0, none⟩)])]) (t := 70) ?_; intro gb405 hg w4 hbox hb; have n0_ := bb_ BK404 hb; have n1_ := Aside0.mk (below_step (bw_ w) hb); have n2_ := Aside0.mk (hbox); have n3_ := gz_ w hg; have n4_ := gz_ w hg; have n5_ := ne_ hg BK404; have n6_ := en_ hg BK404; clear BK404; clear HB; have BK404 := n0_; have HB := n1_; have BK405 := n2_; have GW405 := n3_; have GE405 := n4_; have NB404_405 := n5_; have NB405_404 := n6_; clear n0_ n1_ n2_ n3_ n4_ n5_ n6_; clear hb hbox hg) | ((with_reducible refine gate_callee (f := 125) rfl ?_); refine goesB (some 7) Try.func125 #[.slice A0 l0.length c0, (.func (.func 126) #[] #[.pointer (some ⟨gb405, 0, none⟩)])] ?_; (with_reducible refine (impl_Chart__Chart_1__AnyWayPlaces_1.calls k _ _ l0 gb405 gb404 a1_0 a1_1 A1_2 c1_2 l1_2 t406 _ ?side1 ?side2 ?side3 ?side4 ?side5 ?side6 A3.out).mono ?_); (case side1 => exact cb_ HR0 HB); (case side2 => exact HC0.out); (case side3 => (with_reducible repeat (first | refine blk_drewN ?_ _ | refine blk_drew ?_ | refine blk_alloc ?_ _)); exact BK405.out); (case side4 => (with_reducible repeat (first | refine blk_drewN ?_ _ | refine blk_drew ?_ | refine blk_alloc ?_ _)); exact BK404.out); (case side5 => exact cb_ HR1_2 HB); (case side6 => exact HC1_2.out); rintro e w5 ⟨rfl, hb⟩; refine ⟨_, rfl, ?_⟩; replace BK404 := bb_ BK404 hb; replace BK405 := bb_ BK405 hb; replace HB := Aside0.mk (below_step (bw_ w) hb); (try clear hb); (try clear hb2); (try clear hk); (try clear hi)))
 go_ret
 exact ⟨by first | rfl | (simp [errW_none, errW_some] <;> rfl) | (simp [*, errW_none, errW_some] <;> rfl), (bw_ w)⟩

end Go.Proofs.Yteiaakppjcpgcaa.PFnExactAnyWayPlaces
