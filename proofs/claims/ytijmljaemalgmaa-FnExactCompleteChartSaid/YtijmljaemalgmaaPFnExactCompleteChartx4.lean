-- Printed by this session's own program (wip/tool/myprint.py, over the kit's print); Lean checks it.
import Derived.Test.YtijmljaemalgmaaPFnExactCompleteChartx0
import Derived.Test.YtijmljaemalgmaaPFnExactCompleteChartx3
namespace Go.Proofs.Ytijmljaemalgmaa.PFnExactCompleteChart
open Go.RowKit Go.Proofs.YtijmljaemalgmaaW.PrintWords Go.Proofs.YtijmljaemalgmaaW.PrintLast Go.Proofs.YtijmljaemalgmaaW.PrintMore
attribute [local go_sem] max2_int min2_int max_two min_two max_three min_three max_four min_four   -- for this text's walks alone
set_option linter.unusedVariables false
set_option linter.unusedSimpArgs false

/-! ### spec_l4Places: function 235 -/
mutual
def spec_l4Places.l0 : Nat → Int → Int → List Int → Int → Int → List Int → Option (List Int)
  | 0, _, _, _, _, _, _ => none
  | k + 1, x1, x6, x13, x190000, x190001, x190002 => if x6 < (x190002.length : Int) then (if 0 ≤ (x190002.length : Int) then (if ((x190002.length : Int) : Int).toNat ≤ 35184372088832 then ((some (List.replicate ((x190002.length : Int) : Int).toNat 0 : List Int)).bind fun y193 => (if 0 ≤ x6 then (if x6 < (y193.length : Int) then ((spec_l4Move.f k x190000 x190001 (y193.set (x6 : Int).toNat 1) x1).bind fun bt198 => (spec_l4Places.l1 k x1 x6 0 x13 x190000 x190001 x190002 bt198.1 bt198.2.1 bt198.2.2)) else (none)) else (none))) else (none)) else (none)) else (some x13)
def spec_l4Places.l1 : Nat → Int → Int → Int → List Int → Int → Int → List Int → Int → Int → List Int → Option (List Int)
  | 0, _, _, _, _, _, _, _, _, _, _ => none
  | k + 1, x1, x6, x9, x13, x190000, x190001, x190002, x204000, x204001, x204002 => if x9 < (x204002.length : Int) then (if 0 ≤ x9 then (if (rd x204002 x9) = 1 then (if 0 ≤ x6 then (if x6 < (x13.length : Int) then (spec_l4Places.l1 k x1 x6 (wrap64 (x9 + 1)) (x13.set (x6 : Int).toNat x9) x190000 x190001 x190002 x204000 x204001 x204002) else (none)) else (none)) else (spec_l4Places.l1 k x1 x6 (wrap64 (x9 + 1)) x13 x190000 x190001 x190002 x204000 x204001 x204002)) else (none)) else (spec_l4Places.l0 k x1 (wrap64 (x6 + 1)) x13 x190000 x190001 x190002)
end
def spec_l4Places.f (k : Nat) (a0_0 : Int) (a0_1 : Int) (l0_2 : List Int) (a1 : Int) : Option (List Int) := if 0 ≤ (l0_2.length : Int) then (if ((l0_2.length : Int) : Int).toNat ≤ 35184372088832 then (spec_l4Places.l0 k a1 0 (List.replicate ((l0_2.length : Int) : Int).toNat 0) a0_0 a0_1 l0_2) else (none)) else (none)
theorem spec_l4Places.mono_l : ∀ k, (∀ y0 y1 y2 y3 y4 y5, LeO (spec_l4Places.l0 k y0 y1 y2 y3 y4 y5) (spec_l4Places.l0 (k + 1) y0 y1 y2 y3 y4 y5)) ∧ (∀ y0 y1 y2 y3 y4 y5 y6 y7 y8 y9, LeO (spec_l4Places.l1 k y0 y1 y2 y3 y4 y5 y6 y7 y8 y9) (spec_l4Places.l1 (k + 1) y0 y1 y2 y3 y4 y5 y6 y7 y8 y9))
  | 0 => ⟨fun _ _ _ _ _ _ r h => by simp [spec_l4Places.l0] at h, fun _ _ _ _ _ _ _ _ _ _ r h => by simp [spec_l4Places.l1] at h⟩
  | k + 1 => by
    obtain ⟨ih0, ih1⟩ := spec_l4Places.mono_l k
    refine ⟨?_, ?_⟩
    · intro y0 y1 y2 y3 y4 y5
      unfold spec_l4Places.l0
      repeat' first
      | (with_reducible exact ih0 _ _ _ _ _ _)
      | (with_reducible exact ih1 _ _ _ _ _ _ _ _ _ _)
      | (with_reducible exact spec_l4Move.mono _ _ _ _ _)
      | (with_reducible exact LeO.refl _)
      | (with_reducible exact LeO.none _)
      | (with_reducible refine LeO.ite ?_ ?_)
      | (with_reducible refine LeO.bind ?_ (fun _ => ?_))
      | exact ih0 _ _ _ _ _ _
      | exact ih1 _ _ _ _ _ _ _ _ _ _
      | exact spec_l4Move.mono _ _ _ _ _
      | exact LeO.none _
      | refine LeO.ite ?_ ?_
      | refine LeO.bind ?_ (fun _ => ?_)
    · intro y0 y1 y2 y3 y4 y5 y6 y7 y8 y9
      unfold spec_l4Places.l1
      repeat' first
      | (with_reducible exact ih0 _ _ _ _ _ _)
      | (with_reducible exact ih1 _ _ _ _ _ _ _ _ _ _)
      | (with_reducible exact spec_l4Move.mono _ _ _ _ _)
      | (with_reducible exact LeO.refl _)
      | (with_reducible exact LeO.none _)
      | (with_reducible refine LeO.ite ?_ ?_)
      | (with_reducible refine LeO.bind ?_ (fun _ => ?_))
      | exact ih0 _ _ _ _ _ _
      | exact ih1 _ _ _ _ _ _ _ _ _ _
      | exact spec_l4Move.mono _ _ _ _ _
      | exact LeO.none _
      | refine LeO.ite ?_ ?_
      | refine LeO.bind ?_ (fun _ => ?_)
theorem spec_l4Places.mono : ∀ a0 a1 a2 a3 k, LeO (spec_l4Places.f k a0 a1 a2 a3) (spec_l4Places.f (k + 1) a0 a1 a2 a3) := by
  intro a0 a1 a2 a3 k
  obtain ⟨ih0, ih1⟩ := spec_l4Places.mono_l k
  unfold spec_l4Places.f
  repeat' first
      | (with_reducible exact ih0 _ _ _ _ _ _)
      | (with_reducible exact ih1 _ _ _ _ _ _ _ _ _ _)
      | (with_reducible exact spec_l4Move.mono _ _ _ _ _)
      | (with_reducible exact LeO.refl _)
      | (with_reducible exact LeO.none _)
      | (with_reducible refine LeO.ite ?_ ?_)
      | (with_reducible refine LeO.bind ?_ (fun _ => ?_))
      | exact ih0 _ _ _ _ _ _
      | exact ih1 _ _ _ _ _ _ _ _ _ _
      | exact spec_l4Move.mono _ _ _ _ _
      | exact LeO.none _
      | refine LeO.ite ?_ ?_
      | refine LeO.bind ?_ (fun _ => ?_)
def spec_l4Places.T5 : Bool × List (List Nat × List Nat) := (true, [([], []), ([0], [0]), ([], []), ([2], [2]), ([], []), ([4], [4]), ([5], [5]), ([6, 6], [6]), ([1, 3, 7], [1, 3, 7]), ([], []), ([9, 8, 0, 1, 2, 3, 4, 5, 6, 7, 8, 9], [8, 9])])
def spec_l4Places.B5 : List Nat := [0, 1, 0, 4, 0, 16, 48, 112, 255, 0, 1023]
theorem spec_l4Places.tab5 : rtab .any (opsOf Try.f235 5) = spec_l4Places.T5 := by kernel_rfl
theorem spec_l4Places.bits5 : waitsOk spec_l4Places.T5.2 spec_l4Places.B5 = true := by kernel_rfl
set_option maxHeartbeats 8000000 in
set_option maxRecDepth 100000 in
theorem spec_l4Places.calls (k : Nat) (a0_0 : Int) (a0_1 : Int) (A0_2 : Option Addr) (c0_2 : Nat) (l0_2 : List Int) (a1 : Int) (r : List Int) (w : World) (hr0_2 : Kd.C (Kd.int .i64) w A0_2 l0_2.length l0_2) (hc0_2 : l0_2.length ≤ c0_2) (h : spec_l4Places.f k a0_0 a0_1 l0_2 a1 = some r) :
  Calls Try.prog 235 #[.agg #[.int .i64 a0_0, .int .i64 a0_1, .slice A0_2 l0_2.length c0_2], .int .i64 a1] w fun e w' => ∃ v0_ : Value, e = .returned (v0_) ∧ Kd.R (Kd.int .i64) 3 w' w.heap.size (fun _ => True) v0_ r ∧ Below w.heap.size w w' := by
 have hu26 := Try.underlying26
 have HR0_2 := Aside0.mk hr0_2
 have HC0_2 := Aside0.mk hc0_2
 clear hr0_2 hc0_2
 have HB := Aside0.mk (Below.refl w.heap.size w)
 have H : (if 0 ≤ (l0_2.length : Int) then (if ((l0_2.length : Int) : Int).toNat ≤ 35184372088832 then (spec_l4Places.l0 k a1 0 (List.replicate ((l0_2.length : Int) : Int).toNat 0) a0_0 a0_1 l0_2) else (none)) else (none)) = some r := h
 clear h
 by_cases c3 : 0 ≤ (l0_2.length : Int)
 ·rw [if_pos c3] at H
  have c3b0 := eq_true c3
  have c3b1 : decide (0 ≤ (l0_2.length : Int)) = true := decide_eq_true c3
  clear c3
  by_cases c4 : ((l0_2.length : Int) : Int).toNat ≤ 35184372088832
  ·rw [if_pos c4] at H
   have c4b0 := eq_true c4
   have c4b1 : decide (((l0_2.length : Int) : Int).toNat ≤ 35184372088832) = true := decide_eq_true c4
   clear c4
   obtain ⟨y190, hy190⟩ : ∃ y_ : List Int, y_ = (List.replicate ((l0_2.length : Int) : Int).toNat 0) := ⟨_, rfl⟩
   replace H : (spec_l4Places.l0 k a1 0 y190 a0_0 a0_1 l0_2) = some r := by first | (rw [hy190]; with_reducible exact H) | (have H2_ := (Option.bind_some _ _).symm.trans H; rw [hy190]; with_reducible exact H2_) | (have H2_ := (Option.bind_some _ _).symm.trans H; with_reducible exact H2_) | with_reducible exact H | (rw [hy190]; exact H) | exact H
   have Ny190 := Aside0.mk hy190
   clear hy190
   have H' := Aside0.mk H
   clear H
   go_enter Try.func235, Try.ntmps235
   go_wp2_with (first | ((with_reducible refine gate_dst (N := 2) rfl ?_); refine box_ (N := 2) (cs := #[.int .i64 a0_0, .int .i64 a0_1, .slice A0_2 l0_2.length c0_2]) (t := 26) ?_; intro gb189 hg w5 hbox hb; have BK189 := Aside0.mk (hbox); have GW189 := gz_ w hg; have GE189 := gz_ w hg; replace HB := Aside0.mk (below_step (bw_ w) hb); clear hb hbox hg; obtain ⟨hcz6_0, hcz6_1, hcz6_2, hfz6_0, hfz6_1, hfz6_2⟩ := bc3_ (w := w5) BK189) | ((with_reducible refine gate_dst (N := 13) rfl ?_); refine Kd.R_make (Kd.int .i64) _ 3 rfl (N := 13) rfl 22 _ _ rfl (l0_2.length : Int) rfl rfl Try.underlying22 (.int .i64 0) 8 info3 rfl (by decide) (by omega) 0 (ok := fun _ => True) (okp := fun _ => True) rfl (fun _ hk => hk) trivial (of_decide_eq_true (by first | (with_reducible assumption) | assumption)) (Nat.le_trans (Nat.mul_le_mul_right _ (of_decide_eq_true (by first | (with_reducible assumption) | assumption) : (l0_2.length : Int).toNat ≤ 35184372088832)) (by omega)) (Below.refl _ _) (Nat.le_refl _) ?_; intro v191 w7 ho8 hb hg_ hnew_; clear hg_ hnew_; (first | rw [← Ny190.out] at ho8 | (simp only [Int.reduceToNat] at ho8; rw [← Ny190.out] at ho8)); have HO192 := Aside0.mk (Kd.R_lower ho8 (below_size (bw_ w))); replace BK189 := bb_ BK189 hb; replace HB := Aside0.mk (below_step (bw_ w) hb); clear hb ho8))
   go_loopg [6] k (fun kq v6 w' => ∃ (x6_1 : Int) (x13_1 : List Int), v6 = .int .i64 x6_1 ∧ Aside0 (spec_l4Places.l0 kq a1 x6_1 x13_1 a0_0 a0_1 l0_2 = some r) ∧ Aside0 (kq ≤ k) ∧ Aside0 (Kd.R (Kd.int .i64) 3 w' w.heap.size (fun _ => True) v191 x13_1) ∧ Aside0 (w'.heap[gb189]? = some (.cells #[.int .i64 a0_0, .int .i64 a0_1, (.slice A0_2 l0_2.length c0_2)] 26 (0, 0))) ∧ Aside0 (Below w.heap.size w w'))
   case atStart => exact ⟨(0), (y190), (by first | rfl | (simp; done) | (simp [*]; done)), H', ⟨Nat.le_refl _⟩, ⟨ra_ HO192⟩, ⟨bk_ BK189⟩, ⟨(bw_ w)⟩⟩
   case round =>
    clear H'
    try clear c2
    try clear p2
    try clear c3
    try clear c3b0
    try clear c3b1
    try clear c4
    try clear c4b0
    try clear c4b1
    try clear hcz6_0
    try clear hcz6_1
    try clear hcz6_2
    try clear hfz6_0
    try clear hfz6_1
    try clear hfz6_2
    obtain ⟨x6_1, x13_1, rfl, HA, HK1, HO_13, BK189, HB⟩ := hrel
    cases gk with
    | zero => exact absurd HA.out (by simp [spec_l4Places.l0])
    | succ k1 =>
     have H := HA.out
     clear HA
     simp only [spec_l4Places.l0] at H
     by_cases c9 : x6_1 < (l0_2.length : Int)
     ·rw [if_pos c9] at H
      have c9b0 : decide (x6_1 < (l0_2.length : Int)) = true := decide_eq_true c9
      clear c9
      by_cases c10 : 0 ≤ (l0_2.length : Int)
      ·rw [if_pos c10] at H
       have c10b0 := eq_true c10
       have c10b1 : decide (0 ≤ (l0_2.length : Int)) = true := decide_eq_true c10
       clear c10
       by_cases c11 : ((l0_2.length : Int) : Int).toNat ≤ 35184372088832
       ·rw [if_pos c11] at H
        have c11b0 := eq_true c11
        have c11b1 : decide (((l0_2.length : Int) : Int).toNat ≤ 35184372088832) = true := decide_eq_true c11
        clear c11
        obtain ⟨y193, hy193⟩ : ∃ y_ : List Int, y_ = (List.replicate ((l0_2.length : Int) : Int).toNat 0) := ⟨_, rfl⟩
        replace H : (if 0 ≤ x6_1 then (if x6_1 < (y193.length : Int) then ((spec_l4Move.f k1 a0_0 a0_1 (y193.set (x6_1 : Int).toNat 1) a1).bind fun bt198 => (spec_l4Places.l1 k1 a1 x6_1 0 x13_1 a0_0 a0_1 l0_2 bt198.1 bt198.2.1 bt198.2.2)) else (none)) else (none)) = some r := by first | (rw [hy193]; with_reducible exact H) | (have H2_ := (Option.bind_some _ _).symm.trans H; rw [hy193]; with_reducible exact H2_) | (have H2_ := (Option.bind_some _ _).symm.trans H; with_reducible exact H2_) | with_reducible exact H | (rw [hy193]; exact H) | exact H
        have Ny193 := Aside0.mk hy193
        clear hy193
        by_cases c12 : 0 ≤ x6_1
        ·rw [if_pos c12] at H
         have c12b0 : decide (0 ≤ x6_1) = true := decide_eq_true c12
         clear c12
         by_cases c13 : x6_1 < (y193.length : Int)
         ·rw [if_pos c13] at H
          have c13b0 : decide (x6_1 < (y193.length : Int)) = true := decide_eq_true c13
          clear c13
          obtain ⟨y197, hy197⟩ : ∃ y_ : List Int, y_ = (y193.set (x6_1 : Int).toNat 1) := ⟨_, rfl⟩
          replace H : ((spec_l4Move.f k1 a0_0 a0_1 y197 a1).bind fun bt198 => (spec_l4Places.l1 k1 a1 x6_1 0 x13_1 a0_0 a0_1 l0_2 bt198.1 bt198.2.1 bt198.2.2)) = some r := by first | (rw [hy197]; with_reducible exact H) | (have H2_ := (Option.bind_some _ _).symm.trans H; rw [hy197]; with_reducible exact H2_) | (have H2_ := (Option.bind_some _ _).symm.trans H; with_reducible exact H2_) | with_reducible exact H | (rw [hy197]; exact H) | exact H
          have Ny197 := Aside0.mk hy197
          clear hy197
          replace H := Option.bind_eq_some_iff.mp H
          obtain ⟨⟨t198, t199, t200⟩, A150, H⟩ := H
          replace H : (spec_l4Places.l1 k1 a1 x6_1 0 x13_1 a0_0 a0_1 l0_2 t198 t199 t200) = some r := H
          have A15 := Aside0.mk A150
          clear A150
          have H' := Aside0.mk H
          clear H
          obtain ⟨hcz16_0, hcz16_1, hcz16_2, hfz16_0, hfz16_1, hfz16_2⟩ := bc3_ (w := wr) BK189
          try go_wp2
          replace HO_13 := Aside0.mk (Kd.R_drew HO_13.out)
          replace BK189 := Aside0.mk (blk_drew BK189.out)
          replace HB := Aside0.mk (below_drew1 HB.out)
          refine start_ (n := 11) (S := fun w' => w'.cell? ⟨gb189, 0, none⟩ = some (.int .i64 a0_0) ∧ w'.cell? ⟨gb189, 1, none⟩ = some (.int .i64 a0_1) ∧ w'.cell? ⟨gb189, 2, none⟩ = some (.slice A0_2 l0_2.length c0_2)) (ds := []) #[false, false, false, false, false, false, false, false, false, false, false] (by kernel_rfl) rfl rfl ⟨bc_ BK189 0, bc_ BK189 1, bc_ BK189 2⟩ (fun hHeld => ?_); refine with_tabW spec_l4Places.tab5 spec_l4Places.bits5 (fun HT_ HW_ => ?_)
          generalize wr.drew = w17 at HO_13 BK189 HB hHeld ⊢
          refine pureA (N := some 21) 0 HT_ ?_
          refine pureA (N := some 23) 2 HT_ ?_
          refine pureA (N := some 25) 4 HT_ ?_
          refine takeA (N := some 22) 1 HT_ HW_ hHeld ?_
          refine takeA (N := some 24) 3 HT_ HW_ hHeld ?_
          refine takeA (N := some 26) 5 HT_ HW_ hHeld ?_
          refine pureA (N := some 27) 6 HT_ ?_
          refine join_ (σ := Value × Nat) 1 #[true, true, true, true, true, true, true, true, true, true, false] (fun s_ => [(28, s_.1), (7, .pointer (some ⟨s_.2, 0, none⟩)), (29, .agg #[.int .i64 a0_0, .int .i64 a0_1, s_.1])]) (fun s_ w' => (w'.cell? ⟨gb189, 0, none⟩ = some (.int .i64 a0_0) ∧ w'.cell? ⟨gb189, 1, none⟩ = some (.int .i64 a0_1) ∧ w'.cell? ⟨gb189, 2, none⟩ = some (.slice A0_2 l0_2.length c0_2)) ∧ (Kd.R (Kd.int .i64) 3 w' w.heap.size (fun k_ => some k_ ≠ (v191 : Value).ownBlock) s_.1 y193) ∧ (Kd.R (Kd.int .i64) 3 w' w.heap.size (fun k_ => some k_ ≠ (s_.1 : Value).ownBlock) v191 x13_1) ∧ (w'.heap[gb189]? = some (.cells #[.int .i64 a0_0, .int .i64 a0_1, .slice A0_2 l0_2.length c0_2] 26 (0, 0))) ∧ (w'.heap[s_.2]? = some (.cells #[.int .i64 0, .int .i64 0, .slice none 0 0] 26 (0, 0))) ∧ (w.heap.size ≤ s_.2) ∧ (w.heap.size ≤ s_.2) ∧ (gb189 ≠ s_.2) ∧ (s_.2 ≠ gb189) ∧ (Below w.heap.size w w')) ?_ ?_
          rotate_left
          ·intro hCont
           refine twoA (Ni := some 28) (Nj := some 7) 7 9 HT_ (fun K hK => ?_) (fun K hK => ?_)
           ·skip
            refine Kd.R_make_step (Kd.int .i64) _ 3 (by rfl) (N := 28) rfl 22 _ _ rfl (l0_2.length : Int) rfl rfl Try.underlying22 (.int .i64 0) 8 info3 rfl (by decide) (by omega) 0 (ok := fun _ => True) (okp := fun _ => True) rfl (fun _ hk => hk) trivial (of_decide_eq_true (by first | (with_reducible assumption) | assumption)) (Nat.le_trans (Nat.mul_le_mul_right _ (of_decide_eq_true (by first | (with_reducible assumption) | assumption) : (l0_2.length : Int).toNat ≤ 35184372088832)) (by omega)) (Below.refl _ _) (Nat.le_refl _) ?_
            intro v194 w18 ho19 hb hg_ hnew_
            clear hg_ hnew_
            (first | rw [← Ny193.out] at ho19 | (simp only [Int.reduceToNat] at ho19; rw [← Ny193.out] at ho19))
            have n0_ := Aside0.mk (Kd.R_elder' (ra_ HO_13) (Kd.R_base ho19) hb)
            have n1_ := Aside0.mk (Kd.R_lower (Kd.R_new' ho19 (Kd.R_lt (ra_ HO_13))) (below_size (bw_ w)))
            have n2_ := bb_ BK189 hb
            have n3_ := Aside0.mk (below_step (bw_ w) hb)
            clear HO_13
            clear BK189
            clear HB
            have HO_13 := n0_
            have HO195 := n1_
            have BK189 := n2_
            have HB := n3_
            clear n0_ n1_ n2_ n3_
            clear hb ho19
            obtain ⟨Ao20, co20, eo20⟩ := Kd.R_slice HO195.out
            (first | subst eo20 | (injection eo20 with f1_ f2_ f3_; have f4_ := f1_.symm; have f5_ := f3_.symm; clear f1_ f2_ f3_; subst f4_; subst f5_))
            refine hK.out _ _ ⟨bc_ BK189 0, bc_ BK189 1, bc_ BK189 2⟩ (fun hHeld => ?_)
            clear hK K
            refine normA (N := some 28) ?_
            refine pureA (N := some 29) 8 HT_ ?_
            refine oneA (N := some 7) 9 HT_ (fun K hK => ?_)
            refine box_step ?hg (N := 7) ?hd (cs := #[.int .i64 0, .int .i64 0, .slice none 0 0]) (t := 26) ?hr ?_; (case hd => rfl); (case hg => rfl); (case hr => first | (go_simp; done) | (go_simp; rfl))
            intro gb196 hg w21 hbox hb
            have n0_ := Aside0.mk (Kd.R_below (ra_ HO_13) hb)
            have n1_ := Aside0.mk (Kd.R_below (ra_ HO195) hb)
            have n2_ := bb_ BK189 hb
            have n3_ := Aside0.mk (below_step (bw_ w) hb)
            have n4_ := Aside0.mk (hbox)
            have n5_ := gz_ w hg
            have n6_ := gz_ w hg
            have n7_ := ne_ hg BK189
            have n8_ := en_ hg BK189
            clear HO_13
            clear HO195
            clear BK189
            clear HB
            have HO_13 := n0_
            have HO195 := n1_
            have BK189 := n2_
            have HB := n3_
            have BK196 := n4_
            have GW196 := n5_
            have GE196 := n6_
            have NB189_196 := n7_
            have NB196_189 := n8_
            clear n0_ n1_ n2_ n3_ n4_ n5_ n6_ n7_ n8_
            clear hb hbox hg
            refine hK.out _ _ ⟨bc_ BK189 0, bc_ BK189 1, bc_ BK189 2⟩ (fun hHeld => ?_)
            clear hK K
            refine normA (N := some 7) ?_
            exact norm_ (by simp only [putAll, Act.put, List.setIfInBounds_toArray, List.set_cons_zero, List.set_cons_succ]) (hCont (.slice Ao20 y193.length co20, gb196) _ ⟨hHeld, (by exact rf_ HO195.out (fun _ hk => hk.2)), (by exact rf_ HO_13.out (fun _ hk => hk.2)), (bk_ BK189), (bk_ BK196), GW196.out, GE196.out, NB189_196.out, NB196_189.out, (bw_ w)⟩)
           ·skip
            refine box_step ?hg (N := 7) ?hd (cs := #[.int .i64 0, .int .i64 0, .slice none 0 0]) (t := 26) ?hr ?_; (case hd => rfl); (case hg => rfl); (case hr => first | (go_simp; done) | (go_simp; rfl))
            intro gb196 hg w18 hbox hb
            have n0_ := Aside0.mk (Kd.R_below (ra_ HO_13) hb)
            have n1_ := bb_ BK189 hb
            have n2_ := Aside0.mk (below_step (bw_ w) hb)
            have n3_ := Aside0.mk (hbox)
            have n4_ := gz_ w hg
            have n5_ := gz_ w hg
            have n6_ := ne_ hg BK189
            have n7_ := en_ hg BK189
            clear HO_13
            clear BK189
            clear HB
            have HO_13 := n0_
            have BK189 := n1_
            have HB := n2_
            have BK196 := n3_
            have GW196 := n4_
            have GE196 := n5_
            have NB189_196 := n6_
            have NB196_189 := n7_
            clear n0_ n1_ n2_ n3_ n4_ n5_ n6_ n7_
            clear hb hbox hg
            refine hK.out _ _ ⟨bc_ BK189 0, bc_ BK189 1, bc_ BK189 2⟩ (fun hHeld => ?_)
            clear hK K
            refine normA (N := some 7) ?_
            refine oneA (N := some 28) 7 HT_ (fun K hK => ?_)
            refine Kd.R_make_step (Kd.int .i64) _ 3 (by rfl) (N := 28) rfl 22 _ _ rfl (l0_2.length : Int) rfl rfl Try.underlying22 (.int .i64 0) 8 info3 rfl (by decide) (by omega) 0 (ok := fun _ => True) (okp := fun _ => True) rfl (fun _ hk => hk) trivial (of_decide_eq_true (by first | (with_reducible assumption) | assumption)) (Nat.le_trans (Nat.mul_le_mul_right _ (of_decide_eq_true (by first | (with_reducible assumption) | assumption) : (l0_2.length : Int).toNat ≤ 35184372088832)) (by omega)) (Below.refl _ _) (Nat.le_refl _) ?_
            intro v194 w19 ho20 hb hg_ hnew_
            clear hg_ hnew_
            (first | rw [← Ny193.out] at ho20 | (simp only [Int.reduceToNat] at ho20; rw [← Ny193.out] at ho20))
            have n0_ := Aside0.mk (Kd.R_elder' (ra_ HO_13) (Kd.R_base ho20) hb)
            have n1_ := Aside0.mk (Kd.R_lower (Kd.R_new' ho20 (Kd.R_lt (ra_ HO_13))) (below_size (bw_ w)))
            have n2_ := bb_ BK189 hb
            have n3_ := bb_ BK196 hb
            have n4_ := Aside0.mk (below_step (bw_ w) hb)
            clear HO_13
            clear BK189
            clear BK196
            clear HB
            have HO_13 := n0_
            have HO195 := n1_
            have BK189 := n2_
            have BK196 := n3_
            have HB := n4_
            clear n0_ n1_ n2_ n3_ n4_
            clear hb ho20
            obtain ⟨Ao21, co21, eo21⟩ := Kd.R_slice HO195.out
            (first | subst eo21 | (injection eo21 with f1_ f2_ f3_; have f4_ := f1_.symm; have f5_ := f3_.symm; clear f1_ f2_ f3_; subst f4_; subst f5_))
            refine hK.out _ _ ⟨bc_ BK189 0, bc_ BK189 1, bc_ BK189 2⟩ (fun hHeld => ?_)
            clear hK K
            refine normA (N := some 28) ?_
            refine pureA (N := some 29) 8 HT_ ?_
            exact norm_ (by simp only [putAll, Act.put, List.setIfInBounds_toArray, List.set_cons_zero, List.set_cons_succ]) (hCont (.slice Ao21 y193.length co21, gb196) _ ⟨hHeld, (by exact rf_ HO195.out (fun _ hk => hk.2)), (by exact rf_ HO_13.out (fun _ hk => hk.2)), (bk_ BK189), (bk_ BK196), GW196.out, GE196.out, NB189_196.out, NB196_189.out, (bw_ w)⟩)
          rintro ⟨v194, gb196⟩ w22 ⟨hS_, h0_, h1_, h2_, h3_, h4_, h5_, h6_, h7_, h8_⟩
          have n0_ : Aside0 (Kd.R (Kd.int .i64) 3 w22 w.heap.size (fun k_ => some k_ ≠ (v191 : Value).ownBlock) v194 y193) := ⟨h0_⟩
          have n1_ : Aside0 (Kd.R (Kd.int .i64) 3 w22 w.heap.size (fun k_ => some k_ ≠ (v194 : Value).ownBlock) v191 x13_1) := ⟨h1_⟩
          have n2_ : Aside0 (w22.heap[gb189]? = some (.cells #[.int .i64 a0_0, .int .i64 a0_1, .slice A0_2 l0_2.length c0_2] 26 (0, 0))) := ⟨h2_⟩
          have n3_ : Aside0 (w22.heap[gb196]? = some (.cells #[.int .i64 0, .int .i64 0, .slice none 0 0] 26 (0, 0))) := ⟨h3_⟩
          have n4_ : Aside0 (w.heap.size ≤ gb196) := ⟨h4_⟩
          have n5_ : Aside0 (w.heap.size ≤ gb196) := ⟨h5_⟩
          have n6_ : Aside0 (gb189 ≠ gb196) := ⟨h6_⟩
          have n7_ : Aside0 (gb196 ≠ gb189) := ⟨h7_⟩
          have n8_ : Aside0 (Below w.heap.size w w22) := ⟨h8_⟩
          clear HO_13
          clear BK189
          clear HB
          clear h0_ h1_ h2_ h3_ h4_ h5_ h6_ h7_ h8_
          have HO195 := n0_
          have HO_13 := n1_
          have BK189 := n2_
          have BK196 := n3_
          have GW196 := n4_
          have GE196 := n5_
          have NB189_196 := n6_
          have NB196_189 := n7_
          have HB := n8_
          clear n0_ n1_ n2_ n3_ n4_ n5_ n6_ n7_ n8_
          have hHeld : w22.cell? ⟨gb189, 0, none⟩ = some (.int .i64 a0_0) ∧ w22.cell? ⟨gb189, 1, none⟩ = some (.int .i64 a0_1) ∧ w22.cell? ⟨gb189, 2, none⟩ = some (.slice A0_2 l0_2.length c0_2) := hS_
          obtain ⟨Ao23, co23, eo23⟩ := Kd.R_slice HO195.out
          (first | subst eo23 | (injection eo23 with f1_ f2_ f3_; have f4_ := f1_.symm; have f5_ := f3_.symm; clear f1_ f2_ f3_; subst f4_; subst f5_))
          refine norm_ (a' := ?_) ?_ ?_
          rotate_left
          ·simp only [putAll, Act.put, List.setIfInBounds_toArray, List.set_cons_zero, List.set_cons_succ]
           rfl
          refine oneA (N := none) 10 HT_ (fun K hK => ?_)
          have hs24 : w22.cell? ⟨gb196, 0, none⟩ = some (.int .i64 0) := bc_ BK196 0
          have hfs24 := blk_frozen BK196.out 0
          have hns24_0 := NB189_196.out
          have hms24_0 := NB196_189.out
          have hs25 : w22.cell? ⟨gb196, 1, none⟩ = some (.int .i64 0) := bc_ BK196 1
          have hfs25 := blk_frozen BK196.out 1
          have hns25_0 := NB189_196.out
          have hms25_0 := NB196_189.out
          have hs26 : w22.cell? ⟨gb196, 2, none⟩ = some (.slice none 0 0) := bc_ BK196 2
          have hfs26 := blk_frozen BK196.out 2
          have hns26_0 := NB189_196.out
          have hms26_0 := NB196_189.out
          refine skip_ (w1 := ?_) (by rfl) rfl ?_ ?_
          rotate_left
          ·go_simp
           rfl
          refine hK.out _ _ ⟨((cn_ NB189_196).trans (((cn_ NB189_196).trans (((cn_ NB189_196).trans (hHeld.1)))))), ((cn_ NB189_196).trans (((cn_ NB189_196).trans (((cn_ NB189_196).trans (hHeld.2.1)))))), ((cn_ NB189_196).trans (((cn_ NB189_196).trans (((cn_ NB189_196).trans (hHeld.2.2))))))⟩ (fun hHeld => ?_)
          clear hK K
          refine done_ (done_of HT_.out (by kernel_rfl)) ?_
          have n0_ : Aside0 (Kd.R (Kd.int .i64) 3 (((w22.setCell ⟨gb196, 0, none⟩ (.int .i64 a0_0)).setCell ⟨gb196, 1, none⟩ (.int .i64 a0_1)).setCell ⟨gb196, 2, none⟩ (.slice Ao23 y193.length co23)) w.heap.size (fun k_ => some k_ ≠ (.slice Ao23 y193.length co23 : Value).ownBlock) v191 x13_1) := ⟨by exact rf_ (Kd.R_types HO_13.out BK196.out (by decide)) (fun _ hk => hk.1)⟩
          have n1_ : Aside0 (Kd.R (Kd.int .i64) 3 (((w22.setCell ⟨gb196, 0, none⟩ (.int .i64 a0_0)).setCell ⟨gb196, 1, none⟩ (.int .i64 a0_1)).setCell ⟨gb196, 2, none⟩ (.slice Ao23 y193.length co23)) w.heap.size (fun k_ => some k_ ≠ (v191 : Value).ownBlock) (.slice Ao23 y193.length co23) y193) := ⟨by exact rf_ (Kd.R_types HO195.out BK196.out (by decide)) (fun _ hk => hk.1)⟩
          have n2_ : Aside0 ((((w22.setCell ⟨gb196, 0, none⟩ (.int .i64 a0_0)).setCell ⟨gb196, 1, none⟩ (.int .i64 a0_1)).setCell ⟨gb196, 2, none⟩ (.slice Ao23 y193.length co23)).heap[gb189]? = some (.cells #[.int .i64 a0_0, .int .i64 a0_1, .slice A0_2 l0_2.length c0_2] 26 (0, 0))) := ⟨bk_ BK189⟩
          have n3_ : Aside0 ((((w22.setCell ⟨gb196, 0, none⟩ (.int .i64 a0_0)).setCell ⟨gb196, 1, none⟩ (.int .i64 a0_1)).setCell ⟨gb196, 2, none⟩ (.slice Ao23 y193.length co23)).heap[gb196]? = some (.cells #[.int .i64 a0_0, .int .i64 a0_1, .slice Ao23 y193.length co23] 26 (0, 0))) := ⟨bq_ BK196⟩
          have n4_ : Aside0 (Below w.heap.size w (((w22.setCell ⟨gb196, 0, none⟩ (.int .i64 a0_0)).setCell ⟨gb196, 1, none⟩ (.int .i64 a0_1)).setCell ⟨gb196, 2, none⟩ (.slice Ao23 y193.length co23))) := ⟨(bw_ w)⟩
          (try clear HO_13)
          (try clear HO195)
          (try clear BK189)
          (try clear BK196)
          (try clear HB)
          generalize (((w22.setCell ⟨gb196, 0, none⟩ (.int .i64 a0_0)).setCell ⟨gb196, 1, none⟩ (.int .i64 a0_1)).setCell ⟨gb196, 2, none⟩ (.slice Ao23 y193.length co23)) = w27 at n0_ n1_ n2_ n3_ n4_ ⊢
          have HO_13 := n0_
          have HO195 := n1_
          have BK189 := n2_
          have BK196 := n3_
          have HB := n4_
          clear n0_ n1_ n2_ n3_ n4_
          have hnb28 := NB196_189.out
          have hnc28 := NB189_196.out
          obtain ⟨hcz29_0, hcz29_1, hcz29_2, hfz29_0, hfz29_1, hfz29_2⟩ := bc3_ (w := w27) BK196
          have p14 : 0 ≤ (x6_1 : Int) := of_decide_eq_true (by first | (with_reducible assumption) | assumption)
          have q14 : (x6_1 : Int) < ((y193.length : Int) : Int) := of_decide_eq_true (by first | (with_reducible assumption) | assumption)
          obtain ⟨go14, co14, eo14, gb14, gl14, cl14, HG14⟩ := Kd.R_form HO195.out (by omega)
          (first | cases eo14 | (injection eo14 with ea_ en_ ec_; (first | subst ea_ | (injection ea_ with ea_; subst ea_)); subst ec_; clear en_))
          have GB14 := Aside0.mk gb14
          have GG14 := Aside0.mk HG14
          clear gb14 gl14 HG14
          obtain ⟨hx14_0, hf14_0⟩ := Kd.R_celln 0 HO195.out (x6_1 : Int) p14 q14
          replace p14 := eq_true p14
          replace q14 := eq_true q14
          obtain ⟨hy30_, hz30_⟩ := Kd.R_celln 0 HO195.out (x6_1 : Int) (of_decide_eq_true (by first | (with_reducible assumption) | assumption)) (of_decide_eq_true (by first | (with_reducible assumption) | assumption))
          have HP30 := Kd.R_putg HO195.out (x6_1 : Int) 1
          try go_wp2_with (first | ((with_reducible refine gate_store (t := 3) (p := 33) rfl ?_); refine store_event (t := 3) (p := 33) (v := ?vo_w31) (w1 := (w27.setCell ⟨go14, (x6_1 : Int).toNat, none⟩ (.int .i64 1))) ?hg ?ho ?hn ?hr ?_; (case ho => rfl); (case hg => rfl); (case hn => rfl); (case hr => first | (go_simp; done) | (go_simp; rfl)); intro w31 hw; have hg : w27.grownBy w31 (some go14) := (by rw [hw]; exact HP30.2); have hp_ : Kd.R (Kd.int .i64) 3 w31 w.heap.size (fun k_ => some k_ ≠ (v191 : Value).ownBlock) (.slice (some ⟨go14, 0, none⟩) y193.length co23) y197 := (by rw [hw, Ny197.out]; exact HP30.1); clear HP30; have n0_ := Aside0.mk (Kd.R_after (v := (.slice (some ⟨go14, 0, none⟩) y193.length co23)) (v1 := (.slice (some ⟨go14, 0, none⟩) y193.length co23)) (ok := (fun _ => True)) (by exact rf_ HO_13.out (fun _ hk => ⟨trivial, hk⟩)) hg (.inl rfl)); have n1_ := Aside0.mk (blk_grown (g := gb189) (o := .cells #[.int .i64 a0_0, .int .i64 a0_1, .slice A0_2 l0_2.length c0_2] 26 (0, 0)) (bk_ BK189) hg (Kd.R_ne HO195.out BK189.out (by decide))); have n2_ := Aside0.mk (hp_); have n3_ := Aside0.mk (blk_grown (g := gb196) (o := .cells #[.int .i64 a0_0, .int .i64 a0_1, .slice (some ⟨go14, 0, none⟩) y193.length co23] 26 (0, 0)) (bk_ BK196) hg (Kd.R_ne HO195.out BK196.out (by decide))); have n4_ := Aside0.mk ((by rw [hw]; exact below_set (HB.out) GB14.out : Below w.heap.size w w31)); clear HO_13; clear BK189; clear HO195; clear BK196; clear HB; have HO_13 := n0_; have BK189 := n1_; have HO195 := n2_; have BK196 := n3_; have HB := n4_; clear n0_ n1_ n2_ n3_ n4_; clear hg hw hp_; obtain ⟨hcz32_0, hcz32_1, hcz32_2, hfz32_0, hfz32_1, hfz32_2⟩ := bc3_ (w := w31) BK196) | ((with_reducible refine gate_callee (f := 152) rfl ?_); refine goesL_ (some 36) rfl rfl Try.func152 (by kernel_rfl) rfl #[.agg #[.int .i64 a0_0, .int .i64 a0_1, .slice (some ⟨go14, 0, none⟩) y197.length co23], .int .i64 a1] rfl (by (try simp only [List.map_toArray, List.map_cons, List.map_nil]); first | done | (rw [show y197.length = y193.length from (Kd.R_reads' HO195.out).1.symm] <;> rfl) | rfl | (simp only [List.length_drop, List.length_take]; rfl)) ?_; (with_reducible refine (spec_l4Move.calls k1 a0_0 a0_1 _ _ y197 a1 t198 t199 t200 _ ?side1 ?side2 A15.out).mono ?_); (case side1 => exact co_ (Kd.R_reads' HO195.out).2.2); (case side2 => rw [show y197.length = y193.length from (Kd.R_reads' HO195.out).1.symm]; exact (Kd.R_reads' HO195.out).2.1); rintro e w33 ⟨v201, rfl, ho0, hb⟩; refine ⟨_, rfl, ?_⟩; have n0_ := Aside0.mk (Kd.R_elder' (ra_ HO_13) (Kd.R_base ho0) hb); have n1_ := Aside0.mk (Kd.R_elder' (ra_ HO195) (Kd.R_base ho0) hb); have n2_ := Aside0.mk (Kd.R_lower (Kd.R_new' (Kd.R_new' ho0 (Kd.R_lt (ra_ HO_13))) (Kd.R_lt (ra_ HO195))) (below_size (bw_ w))); have n3_ := bb_ BK189 hb; have n4_ := bb_ BK196 hb; have n5_ := Aside0.mk (below_step (bw_ w) hb); clear HO_13; clear HO195; clear BK189; clear BK196; clear HB; have HO_13 := n0_; have HO195 := n1_; have HO202 := n2_; have BK189 := n3_; have BK196 := n4_; have HB := n5_; clear n0_ n1_ n2_ n3_ n4_ n5_; (try clear hb); (try clear hb2); (try clear hk); (try clear hi); (try clear ho0)) | ((with_reducible refine gate_dst (N := 8) rfl ?_); refine box_ (N := 8) (cs := #[.int .i64 0, .int .i64 0, .slice none 0 0]) (t := 26) ?_; intro gb203 hg w34 hbox hb; have n0_ := Aside0.mk (Kd.R_below (ra_ HO_13) hb); have n1_ := Aside0.mk (Kd.R_below (ra_ HO195) hb); have n2_ := Aside0.mk (Kd.R_below (ra_ HO202) hb); have n3_ := bb_ BK189 hb; have n4_ := bb_ BK196 hb; have n5_ := Aside0.mk (below_step (bw_ w) hb); have n6_ := Aside0.mk (hbox); have n7_ := gz_ w hg; have n8_ := gz_ w hg; have n9_ := ne_ hg BK189; have n10_ := en_ hg BK189; have n11_ := ne_ hg BK196; have n12_ := en_ hg BK196; clear HO_13; clear HO195; clear HO202; clear BK189; clear BK196; clear HB; have HO_13 := n0_; have HO195 := n1_; have HO202 := n2_; have BK189 := n3_; have BK196 := n4_; have HB := n5_; have BK203 := n6_; have GW203 := n7_; have GE203 := n8_; have NB189_203 := n9_; have NB203_189 := n10_; have NB196_203 := n11_; have NB203_196 := n12_; clear n0_ n1_ n2_ n3_ n4_ n5_ n6_ n7_ n8_ n9_ n10_ n11_ n12_; clear hb hbox hg; have hnb35 := NB203_189.out; have hnc35 := NB189_203.out; have hnb36 := NB203_196.out; have hnc36 := NB196_203.out; obtain ⟨hcz37_0, hcz37_1, hcz37_2, hfz37_0, hfz37_1, hfz37_2⟩ := bc3_ (w := w34) BK203; obtain ⟨Ao38, co38, eo38⟩ := Kd.R_slice HO202.out; subst eo38))
          go_loopg [9] k1 (fun kq v9 w' => ∃ (x9_2 : Int) (x13_2 : List Int), v9 = .int .i64 x9_2 ∧ Aside0 (spec_l4Places.l1 kq a1 x6_1 x9_2 x13_2 a0_0 a0_1 l0_2 t198 t199 t200 = some r) ∧ Aside0 (kq ≤ k1) ∧ Aside0 (Kd.R (Kd.int .i64) 3 w' w.heap.size (fun k_ => some k_ ≠ ((.slice (some ⟨go14, 0, none⟩) y193.length co23) : Value).ownBlock ∧ some k_ ≠ ((.slice Ao38 t200.length co38) : Value).ownBlock) v191 x13_2) ∧ Aside0 (Kd.R (Kd.int .i64) 3 w' w.heap.size (fun k_ => some k_ ≠ (v191 : Value).ownBlock ∧ some k_ ≠ ((.slice Ao38 t200.length co38) : Value).ownBlock) (.slice (some ⟨go14, 0, none⟩) y193.length co23) y197) ∧ Aside0 (Kd.R (Kd.int .i64) 3 w' w.heap.size (fun k_ => some k_ ≠ (v191 : Value).ownBlock ∧ some k_ ≠ ((.slice (some ⟨go14, 0, none⟩) y193.length co23) : Value).ownBlock) (.slice Ao38 t200.length co38) t200) ∧ Aside0 (w'.heap[gb189]? = some (.cells #[.int .i64 a0_0, .int .i64 a0_1, (.slice A0_2 l0_2.length c0_2)] 26 (0, 0))) ∧ Aside0 (w'.heap[gb196]? = some (.cells #[.int .i64 a0_0, .int .i64 a0_1, (.slice (some ⟨go14, 0, none⟩) y193.length co23)] 26 (0, 0))) ∧ Aside0 (w'.heap[gb203]? = some (.cells #[.int .i64 t198, .int .i64 t199, (.slice Ao38 t200.length co38)] 26 (0, 0))) ∧ Aside0 (Below w.heap.size w w'))
          case atStart => exact ⟨(0), (x13_1), (by first | rfl | (simp; done) | (simp [*]; done)), H', ⟨Nat.le_refl _⟩, ⟨by exact rf_ (Kd.R_types HO_13.out BK203.out (by decide)) (fun _ hk => ⟨hk.1.1.2, hk.1.2⟩)⟩, ⟨by exact rf_ (Kd.R_types HO195.out BK203.out (by decide)) (fun _ hk => ⟨hk.1.1, hk.1.2⟩)⟩, ⟨by exact rf_ (Kd.R_types HO202.out BK203.out (by decide)) (fun _ hk => ⟨hk.1.1.2, hk.1.2⟩)⟩, ⟨bk_ BK189⟩, ⟨bk_ BK196⟩, ⟨bq_ BK203⟩, ⟨(bw_ w)⟩⟩
          case round =>
           clear H'
           try clear c1
           try clear p1
           try clear q1
           try clear hx1
           try clear c2
           try clear p2
           try clear c3
           try clear c3b0
           try clear c3b1
           try clear c4
           try clear c4b0
           try clear c4b1
           try clear c9
           try clear c9b0
           try clear c10
           try clear c10b0
           try clear c10b1
           try clear c11
           try clear c11b0
           try clear c11b1
           try clear c12
           try clear c12b0
           try clear c13
           try clear c13b0
           try clear p14
           try clear q14
           try clear hx14
           try clear hf14
           try clear c15
           try clear c23
           try clear c28
           try clear c35
           try clear c36
           try clear hcz16_0
           try clear hcz16_1
           try clear hcz16_2
           try clear hcz29_0
           try clear hcz29_1
           try clear hcz29_2
           try clear hcz32_0
           try clear hcz32_1
           try clear hcz32_2
           try clear hcz37_0
           try clear hcz37_1
           try clear hcz37_2
           try clear hcz6_0
           try clear hcz6_1
           try clear hcz6_2
           try clear hfz16_0
           try clear hfz16_1
           try clear hfz16_2
           try clear hfz29_0
           try clear hfz29_1
           try clear hfz29_2
           try clear hfz32_0
           try clear hfz32_1
           try clear hfz32_2
           try clear hfz37_0
           try clear hfz37_1
           try clear hfz37_2
           try clear hfz6_0
           try clear hfz6_1
           try clear hfz6_2
           try clear hx14_0
           try clear p14
           try clear p2
           try clear q14
           obtain ⟨x9_2, x13_2, rfl, HA, HK2, HO_13, HO_197002, HO_204002, BK189, BK196, BK203, HB⟩ := hrel
           have hl197002_2 := (Kd.R_reads' HO_197002.out).1
           rw [hl197002_2] at HO_197002
           (try simp only [hl197002_2])
           (try simp only [hl197002_2] at BK189)
           (try simp only [hl197002_2] at BK196)
           (try simp only [hl197002_2] at BK203)
           (try simp only [hl197002_2] at HO_13)
           (try simp only [hl197002_2] at HO_204002)
           cases gk with
           | zero => exact absurd HA.out (by simp [spec_l4Places.l1])
           | succ k2 =>
            have H := HA.out
            clear HA
            simp only [spec_l4Places.l1] at H
            by_cases c39 : x9_2 < (t200.length : Int)
            ·rw [if_pos c39] at H
             have c39b0 : decide (x9_2 < (t200.length : Int)) = true := decide_eq_true c39
             (try simp only [hl197002_2] at c39b0)
             clear c39
             by_cases c40 : 0 ≤ x9_2
             ·rw [if_pos c40] at H
              have c40b0 : decide (0 ≤ x9_2) = true := decide_eq_true c40
              clear c40
              by_cases c41 : (rd t200 x9_2) = 1
              ·rw [if_pos c41] at H
               have c41b0 : ((rd t200 x9_2) == 1) = true := beq_iff_eq.mpr c41
               have c41b1 : ((rd t200 x9_2) != 1) = false := bne_eq_false_iff_eq.mpr c41
               clear c41
               by_cases c42 : 0 ≤ x6_1
               ·rw [if_pos c42] at H
                have c42b0 : decide (0 ≤ x6_1) = true := decide_eq_true c42
                clear c42
                by_cases c43 : x6_1 < (x13_2.length : Int)
                ·rw [if_pos c43] at H
                 have c43b0 : decide (x6_1 < (x13_2.length : Int)) = true := decide_eq_true c43
                 (try simp only [hl197002_2] at c43b0)
                 clear c43
                 obtain ⟨y205, hy205⟩ : ∃ y_ : List Int, y_ = (x13_2.set (x6_1 : Int).toNat x9_2) := ⟨_, rfl⟩
                 replace H : (spec_l4Places.l1 k2 a1 x6_1 (wrap64 (x9_2 + 1)) y205 a0_0 a0_1 l0_2 t198 t199 t200) = some r := by first | (rw [hy205]; with_reducible exact H) | (have H2_ := (Option.bind_some _ _).symm.trans H; rw [hy205]; with_reducible exact H2_) | (have H2_ := (Option.bind_some _ _).symm.trans H; with_reducible exact H2_) | with_reducible exact H | (rw [hy205]; exact H) | exact H
                 have Ny205 := Aside0.mk hy205
                 clear hy205
                 have H' := Aside0.mk H
                 clear H
                 have hnb45 := NB203_189.out
                 have hnc45 := NB189_203.out
                 have hnb46 := NB203_196.out
                 have hnc46 := NB196_203.out
                 obtain ⟨hcz47_0, hcz47_1, hcz47_2, hfz47_0, hfz47_1, hfz47_2⟩ := bc3_ (w := wr) BK203
                 have p204 : 0 ≤ (x9_2 : Int) := of_decide_eq_true (by first | (with_reducible assumption) | assumption)
                 have q204 : x9_2 < (t200.length : Int) := of_decide_eq_true (by first | (with_reducible assumption) | assumption)
                 obtain ⟨ad204, e204, hx204_0⟩ := Kd.at_int (Kd.R_reads' HO_204002.out).2.2 x9_2 p204 q204
                 cases e204
                 replace p204 := eq_true p204
                 replace q204 := eq_true q204
                 have p44 : 0 ≤ (x6_1 : Int) := of_decide_eq_true (by first | (with_reducible assumption) | assumption)
                 have q44 : (x6_1 : Int) < ((x13_2.length : Int) : Int) := of_decide_eq_true (by first | (with_reducible assumption) | assumption)
                 obtain ⟨go44, co44, eo44, gb44, gl44, cl44, HG44⟩ := Kd.R_form HO_13.out (by omega)
                 (first | cases eo44 | (injection eo44 with ea_ en_ ec_; (first | subst ea_ | (injection ea_ with ea_; subst ea_)); subst ec_; clear en_))
                 have GB44 := Aside0.mk gb44
                 have GG44 := Aside0.mk HG44
                 clear gb44 gl44 HG44
                 obtain ⟨hx44_0, hf44_0⟩ := Kd.R_celln 0 HO_13.out (x6_1 : Int) p44 q44
                 replace p44 := eq_true p44
                 replace q44 := eq_true q44
                 have HP48 := Kd.R_putg HO_13.out (x6_1 : Int) x9_2
                 go_wp2_with (first | ((with_reducible refine gate_store (t := 3) (p := 53) rfl ?_); refine store_event (t := 3) (p := 53) (v := ?vo_w49) (w1 := (wr.setCell ⟨go44, (x6_1 : Int).toNat, none⟩ (.int .i64 x9_2))) ?hg ?ho ?hn ?hr ?_; (case ho => rfl); (case hg => rfl); (case hn => rfl); (case hr => first | (go_simp; done) | (go_simp; rfl)); intro w49 hw; have hg : wr.grownBy w49 (some go44) := (by rw [hw]; exact HP48.2); have hp_ : Kd.R (Kd.int .i64) 3 w49 w.heap.size (fun k_ => some k_ ≠ (.slice (some ⟨go14, 0, none⟩) y197.length co23 : Value).ownBlock ∧ some k_ ≠ (.slice (some ad204) t200.length co38 : Value).ownBlock) (.slice (some ⟨go44, 0, none⟩) x13_2.length co44) y205 := (by rw [hw, Ny205.out]; exact HP48.1); clear HP48; have n0_ := Aside0.mk (hp_); have n1_ := Aside0.mk (Kd.R_after (v := (.slice (some ⟨go44, 0, none⟩) x13_2.length co44)) (v1 := (.slice (some ⟨go44, 0, none⟩) x13_2.length co44)) (ok := (fun k_ => some k_ ≠ (.slice (some ad204) t200.length co38 : Value).ownBlock)) (by exact rf_ HO_197002.out (fun _ hk => ⟨hk.2, hk.1⟩)) hg (.inl rfl)); have n2_ := Aside0.mk (Kd.R_after (v := (.slice (some ⟨go44, 0, none⟩) x13_2.length co44)) (v1 := (.slice (some ⟨go44, 0, none⟩) x13_2.length co44)) (ok := (fun k_ => some k_ ≠ (.slice (some ⟨go14, 0, none⟩) y197.length co23 : Value).ownBlock)) (by exact rf_ HO_204002.out (fun _ hk => ⟨hk.2, hk.1⟩)) hg (.inl rfl)); have n3_ := Aside0.mk (blk_grown (g := gb189) (o := .cells #[.int .i64 a0_0, .int .i64 a0_1, .slice A0_2 l0_2.length c0_2] 26 (0, 0)) (bk_ BK189) hg (Kd.R_ne HO_13.out BK189.out (by decide))); have n4_ := Aside0.mk (blk_grown (g := gb196) (o := .cells #[.int .i64 a0_0, .int .i64 a0_1, .slice (some ⟨go14, 0, none⟩) y197.length co23] 26 (0, 0)) (bk_ BK196) hg (Kd.R_ne HO_13.out BK196.out (by decide))); have n5_ := Aside0.mk (blk_grown (g := gb203) (o := .cells #[.int .i64 t198, .int .i64 t199, .slice (some ad204) t200.length co38] 26 (0, 0)) (bk_ BK203) hg (Kd.R_ne HO_13.out BK203.out (by decide))); have n6_ := Aside0.mk ((by rw [hw]; exact below_set (HB.out) GB44.out : Below w.heap.size w w49)); clear HO_13; clear HO_197002; clear HO_204002; clear BK189; clear BK196; clear BK203; clear HB; have HO_13 := n0_; have HO_197002 := n1_; have HO_204002 := n2_; have BK189 := n3_; have BK196 := n4_; have BK203 := n5_; have HB := n6_; clear n0_ n1_ n2_ n3_ n4_ n5_ n6_; clear hg hw hp_))
                 (try simp only [← hl197002_2])
                 go_roundg k2
                 case measure => have := HK1.out; have := HK2.out; omega
                 case rel => exact ⟨(wrap64 (x9_2 + 1)), (y205), (by first | rfl | (simp; done) | (simp [*]; done)), H', ⟨by have := HK1.out; have := HK2.out; omega⟩, ⟨by (try simp only [hl197002_2]); (with_reducible repeat (first | apply Kd.R_alloc | apply Kd.R_drewN | apply Kd.R_drew)); exact HO_13.out⟩, ⟨by (try simp only [hl197002_2]); (with_reducible repeat (first | apply Kd.R_alloc | apply Kd.R_drewN | apply Kd.R_drew)); exact Kd.R_mono HO_197002.out (fun _ hk => ⟨hk.2, hk.1⟩)⟩, ⟨by (try simp only [hl197002_2]); (with_reducible repeat (first | apply Kd.R_alloc | apply Kd.R_drewN | apply Kd.R_drew)); exact Kd.R_mono HO_204002.out (fun _ hk => ⟨hk.2, hk.1⟩)⟩, ⟨by (try simp only [hl197002_2]); (with_reducible repeat (first | refine blk_drewN ?_ _ | refine blk_drew ?_ | refine blk_alloc ?_ _)); exact BK189.out⟩, ⟨by (try simp only [hl197002_2]); (with_reducible repeat (first | refine blk_drewN ?_ _ | refine blk_drew ?_ | refine blk_alloc ?_ _)); exact BK196.out⟩, ⟨by (try simp only [hl197002_2]); (with_reducible repeat (first | refine blk_drewN ?_ _ | refine blk_drew ?_ | refine blk_alloc ?_ _)); exact BK203.out⟩, ⟨(bw_ w)⟩⟩
                ·rw [if_neg c43] at H
                 exact absurd H (by simp)
               ·rw [if_neg c42] at H
                exact absurd H (by simp)
              ·rw [if_neg c41] at H
               have c41b0 : ((rd t200 x9_2) == 1) = false := beq_eq_false_iff_ne.mpr c41
               have c41b1 : ((rd t200 x9_2) != 1) = true := bne_iff_ne.mpr c41
               have H' := Aside0.mk H
               clear H
               have hnb50 := NB203_189.out
               have hnc50 := NB189_203.out
               have hnb51 := NB203_196.out
               have hnc51 := NB196_203.out
               obtain ⟨hcz52_0, hcz52_1, hcz52_2, hfz52_0, hfz52_1, hfz52_2⟩ := bc3_ (w := wr) BK203
               have p204 : 0 ≤ (x9_2 : Int) := of_decide_eq_true (by first | (with_reducible assumption) | assumption)
               have q204 : x9_2 < (t200.length : Int) := of_decide_eq_true (by first | (with_reducible assumption) | assumption)
               obtain ⟨ad204, e204, hx204_0⟩ := Kd.at_int (Kd.R_reads' HO_204002.out).2.2 x9_2 p204 q204
               cases e204
               replace p204 := eq_true p204
               replace q204 := eq_true q204
               go_wp2
               (try simp only [← hl197002_2])
               go_roundg k2
               case measure => have := HK1.out; have := HK2.out; omega
               case rel => exact ⟨(wrap64 (x9_2 + 1)), (x13_2), (by first | rfl | (simp; done) | (simp [*]; done)), H', ⟨by have := HK1.out; have := HK2.out; omega⟩, ⟨by (try simp only [hl197002_2]); (with_reducible repeat (first | apply Kd.R_alloc | apply Kd.R_drewN | apply Kd.R_drew)); exact HO_13.out⟩, ⟨by (try simp only [hl197002_2]); (with_reducible repeat (first | apply Kd.R_alloc | apply Kd.R_drewN | apply Kd.R_drew)); exact HO_197002.out⟩, ⟨by (try simp only [hl197002_2]); (with_reducible repeat (first | apply Kd.R_alloc | apply Kd.R_drewN | apply Kd.R_drew)); exact HO_204002.out⟩, ⟨by (try simp only [hl197002_2]); (with_reducible repeat (first | refine blk_drewN ?_ _ | refine blk_drew ?_ | refine blk_alloc ?_ _)); exact BK189.out⟩, ⟨by (try simp only [hl197002_2]); (with_reducible repeat (first | refine blk_drewN ?_ _ | refine blk_drew ?_ | refine blk_alloc ?_ _)); exact BK196.out⟩, ⟨by (try simp only [hl197002_2]); (with_reducible repeat (first | refine blk_drewN ?_ _ | refine blk_drew ?_ | refine blk_alloc ?_ _)); exact BK203.out⟩, ⟨(bw_ w)⟩⟩
             ·rw [if_neg c40] at H
              exact absurd H (by simp)
            ·rw [if_neg c39] at H
             have c39b0 : decide (x9_2 < (t200.length : Int)) = false := decide_eq_false c39
             (try simp only [hl197002_2] at c39b0)
             clear c39
             have H' := Aside0.mk H
             clear H
             have hnb53 := NB203_189.out
             have hnc53 := NB189_203.out
             have hnb54 := NB203_196.out
             have hnc54 := NB196_203.out
             obtain ⟨hcz55_0, hcz55_1, hcz55_2, hfz55_0, hfz55_1, hfz55_2⟩ := bc3_ (w := wr) BK203
             go_wp2
             (try simp only [← hl197002_2])
             go_roundg k2
             case measure => have := HK1.out; have := HK2.out; omega
             case rel => exact ⟨(wrap64 (x6_1 + 1)), (x13_2), (by first | rfl | (simp; done) | (simp [*]; done)), H', ⟨by have := HK1.out; have := HK2.out; omega⟩, ⟨by (try simp only [hl197002_2]); (with_reducible repeat (first | apply Kd.R_alloc | apply Kd.R_drewN | apply Kd.R_drew)); exact Kd.R_mono HO_13.out (fun _ hk => trivial)⟩, ⟨by (try simp only [hl197002_2]); (with_reducible repeat (first | refine blk_drewN ?_ _ | refine blk_drew ?_ | refine blk_alloc ?_ _)); exact BK189.out⟩, ⟨(bw_ w)⟩⟩
         ·rw [if_neg c13] at H
          exact absurd H (by simp)
        ·rw [if_neg c12] at H
         exact absurd H (by simp)
       ·rw [if_neg c11] at H
        exact absurd H (by simp)
      ·rw [if_neg c10] at H
       exact absurd H (by simp)
     ·rw [if_neg c9] at H
      have c9b0 : decide (x6_1 < (l0_2.length : Int)) = false := decide_eq_false c9
      clear c9
      obtain rfl := Option.some.inj H
      obtain ⟨hcz56_0, hcz56_1, hcz56_2, hfz56_0, hfz56_1, hfz56_2⟩ := bc3_ (w := wr) BK189
      go_wp2
      go_ret
      exact ⟨_, by first | rfl | (simp [errW_none, errW_some] <;> rfl) | (simp [*, errW_none, errW_some] <;> rfl), by (with_reducible repeat (first | apply Kd.R_alloc | apply Kd.R_drewN | apply Kd.R_drew)); exact HO_13.out, (bw_ w)⟩
  ·rw [if_neg c4] at H
   exact absurd H (by simp)
 ·rw [if_neg c3] at H
  exact absurd H (by simp)

end Go.Proofs.Ytijmljaemalgmaa.PFnExactCompleteChart
