-- Printed by this session's own program (wip/tool/myprint.py, over the kit's print); Lean checks it.
import Derived.Test.YteiaakppjcpgcaaPFnExactAnyWayPlacesx0
import Derived.Test.YteiaakppjcpgcaaPFnExactAnyWayPlacesx6
import Derived.Test.YteiaakppjcpgcaaPFnExactAnyWayPlacesx7
import Derived.Test.YteiaakppjcpgcaaPFnExactAnyWayPlacesx8
namespace Go.Proofs.Yteiaakppjcpgcaa.PFnExactAnyWayPlaces
open Go.RowKit Go.Proofs.YteiaakppjcpgcaaW.PrintWords Go.Proofs.YteiaakppjcpgcaaW.PrintLast Go.Proofs.YteiaakppjcpgcaaW.PrintMore
attribute [local go_sem] max2_int min2_int max_two min_two max_three min_three max_four min_four   -- for this text's walks alone
set_option linter.unusedVariables false
set_option linter.unusedSimpArgs false

/-! ### impl_AnyWayPlaces: function 52 -/
mutual
def impl_AnyWayPlaces.j0 : Nat → Bool → Int → Int → List Int → Int → Int → List Int → Option (Int × Bool)
  | 0, _, _, _, _, _, _, _ => none
  | k + 1, x17, x408000, x408001, x408002, x409000, x409001, x409002 => if x17 = true then (some (0, false)) else (impl_AnyWayPlaces.l0 k 0 (([] : List (S26))) 0 x408000 x408001 x408002 x409000 x409001 x409002)
def impl_AnyWayPlaces.l0 : Nat → Int → List (S26) → Int → Int → Int → List Int → Int → Int → List Int → Option (Int × Bool)
  | 0, _, _, _, _, _, _, _, _, _ => none
  | k + 1, x6, x7, x19, x408000, x408001, x408002, x409000, x409001, x409002 => if x19 < 8 then ((impl_Chart_moved.f k x409000 x409001 x409002 x19).bind fun bt414 => ((impl_Chart__AnyWayPlaces_1.f k x7 bt414.1 bt414.2.1 bt414.2.2).bind fun t420 => (if t420 = true then (if x7.length < 3518437208883 then ((impl_Chart_places.f k x408000 x408001 x408002 bt414.1 bt414.2.1 bt414.2.2).bind fun t425 => (impl_AnyWayPlaces.l0 k (wrap64 (x6 + (t425.length : Int))) (x7 ++ [(⟨bt414.1, bt414.2.1, bt414.2.2⟩ : S26)]) (wrap64 (x19 + 1)) x408000 x408001 x408002 x409000 x409001 x409002)) else (none)) else (impl_AnyWayPlaces.l0 k x6 x7 (wrap64 (x19 + 1)) x408000 x408001 x408002 x409000 x409001 x409002)))) else (some (x6, true))
end
def impl_AnyWayPlaces.f (k : Nat) (a0_0 : Int) (a0_1 : Int) (l0_2 : List Int) (a1_0 : Int) (a1_1 : Int) (l1_2 : List Int) : Option (Int × Bool) := (impl_IsChart.f k a0_0 a0_1 l0_2).bind fun t409 => (if t409 = true then ((impl_IsChart.f k a1_0 a1_1 l1_2).bind fun t410 => (impl_AnyWayPlaces.j0 k (!t410) a0_0 a0_1 l0_2 a1_0 a1_1 l1_2)) else (impl_AnyWayPlaces.j0 k true a0_0 a0_1 l0_2 a1_0 a1_1 l1_2))
theorem impl_AnyWayPlaces.mono_l : ∀ k, (∀ y0 y1 y2 y3 y4 y5 y6, LeO (impl_AnyWayPlaces.j0 k y0 y1 y2 y3 y4 y5 y6) (impl_AnyWayPlaces.j0 (k + 1) y0 y1 y2 y3 y4 y5 y6)) ∧ (∀ y0 y1 y2 y3 y4 y5 y6 y7 y8, LeO (impl_AnyWayPlaces.l0 k y0 y1 y2 y3 y4 y5 y6 y7 y8) (impl_AnyWayPlaces.l0 (k + 1) y0 y1 y2 y3 y4 y5 y6 y7 y8))
  | 0 => ⟨fun _ _ _ _ _ _ _ r h => by simp [impl_AnyWayPlaces.j0] at h, fun _ _ _ _ _ _ _ _ _ r h => by simp [impl_AnyWayPlaces.l0] at h⟩
  | k + 1 => by
    obtain ⟨ih0, ih1⟩ := impl_AnyWayPlaces.mono_l k
    refine ⟨?_, ?_⟩
    · intro y0 y1 y2 y3 y4 y5 y6
      unfold impl_AnyWayPlaces.j0
      repeat' first
      | (with_reducible exact ih0 _ _ _ _ _ _ _)
      | (with_reducible exact ih1 _ _ _ _ _ _ _ _ _)
      | (with_reducible exact impl_Chart__AnyWayPlaces_1.mono _ _ _ _ _)
      | (with_reducible exact impl_Chart_moved.mono _ _ _ _ _)
      | (with_reducible exact impl_Chart_places.mono _ _ _ _ _ _ _)
      | (with_reducible exact impl_IsChart.mono _ _ _ _)
      | (with_reducible exact LeO.refl _)
      | (with_reducible exact LeO.none _)
      | (with_reducible refine LeO.ite ?_ ?_)
      | (with_reducible refine LeO.bind ?_ (fun _ => ?_))
      | exact ih0 _ _ _ _ _ _ _
      | exact ih1 _ _ _ _ _ _ _ _ _
      | exact impl_Chart__AnyWayPlaces_1.mono _ _ _ _ _
      | exact impl_Chart_moved.mono _ _ _ _ _
      | exact impl_Chart_places.mono _ _ _ _ _ _ _
      | exact impl_IsChart.mono _ _ _ _
      | exact LeO.none _
      | refine LeO.ite ?_ ?_
      | refine LeO.bind ?_ (fun _ => ?_)
    · intro y0 y1 y2 y3 y4 y5 y6 y7 y8
      unfold impl_AnyWayPlaces.l0
      repeat' first
      | (with_reducible exact ih0 _ _ _ _ _ _ _)
      | (with_reducible exact ih1 _ _ _ _ _ _ _ _ _)
      | (with_reducible exact impl_Chart__AnyWayPlaces_1.mono _ _ _ _ _)
      | (with_reducible exact impl_Chart_moved.mono _ _ _ _ _)
      | (with_reducible exact impl_Chart_places.mono _ _ _ _ _ _ _)
      | (with_reducible exact impl_IsChart.mono _ _ _ _)
      | (with_reducible exact LeO.refl _)
      | (with_reducible exact LeO.none _)
      | (with_reducible refine LeO.ite ?_ ?_)
      | (with_reducible refine LeO.bind ?_ (fun _ => ?_))
      | exact ih0 _ _ _ _ _ _ _
      | exact ih1 _ _ _ _ _ _ _ _ _
      | exact impl_Chart__AnyWayPlaces_1.mono _ _ _ _ _
      | exact impl_Chart_moved.mono _ _ _ _ _
      | exact impl_Chart_places.mono _ _ _ _ _ _ _
      | exact impl_IsChart.mono _ _ _ _
      | exact LeO.none _
      | refine LeO.ite ?_ ?_
      | refine LeO.bind ?_ (fun _ => ?_)
theorem impl_AnyWayPlaces.mono : ∀ a0 a1 a2 a3 a4 a5 k, LeO (impl_AnyWayPlaces.f k a0 a1 a2 a3 a4 a5) (impl_AnyWayPlaces.f (k + 1) a0 a1 a2 a3 a4 a5) := by
  intro a0 a1 a2 a3 a4 a5 k
  obtain ⟨ih0, ih1⟩ := impl_AnyWayPlaces.mono_l k
  unfold impl_AnyWayPlaces.f
  repeat' first
      | (with_reducible exact ih0 _ _ _ _ _ _ _)
      | (with_reducible exact ih1 _ _ _ _ _ _ _ _ _)
      | (with_reducible exact impl_Chart__AnyWayPlaces_1.mono _ _ _ _ _)
      | (with_reducible exact impl_Chart_moved.mono _ _ _ _ _)
      | (with_reducible exact impl_Chart_places.mono _ _ _ _ _ _ _)
      | (with_reducible exact impl_IsChart.mono _ _ _ _)
      | (with_reducible exact LeO.refl _)
      | (with_reducible exact LeO.none _)
      | (with_reducible refine LeO.ite ?_ ?_)
      | (with_reducible refine LeO.bind ?_ (fun _ => ?_))
      | exact ih0 _ _ _ _ _ _ _
      | exact ih1 _ _ _ _ _ _ _ _ _
      | exact impl_Chart__AnyWayPlaces_1.mono _ _ _ _ _
      | exact impl_Chart_moved.mono _ _ _ _ _
      | exact impl_Chart_places.mono _ _ _ _ _ _ _
      | exact impl_IsChart.mono _ _ _ _
      | exact LeO.none _
      | refine LeO.ite ?_ ?_
      | refine LeO.bind ?_ (fun _ => ?_)
set_option maxHeartbeats 8000000 in
set_option maxRecDepth 100000 in
theorem impl_AnyWayPlaces.calls (k : Nat) (a0_0 : Int) (a0_1 : Int) (A0_2 : Option Addr) (c0_2 : Nat) (l0_2 : List Int) (a1_0 : Int) (a1_1 : Int) (A1_2 : Option Addr) (c1_2 : Nat) (l1_2 : List Int) (r1 : Int) (r2 : Bool) (w : World) (hr0_2 : Kd.C (Kd.int .i64) w A0_2 l0_2.length l0_2) (hc0_2 : l0_2.length ≤ c0_2) (hr1_2 : Kd.C (Kd.int .i64) w A1_2 l1_2.length l1_2) (hc1_2 : l1_2.length ≤ c1_2) (h : impl_AnyWayPlaces.f k a0_0 a0_1 l0_2 a1_0 a1_1 l1_2 = some (r1, r2)) :
  Calls Try.prog 52 #[.agg #[.int .i64 a0_0, .int .i64 a0_1, .slice A0_2 l0_2.length c0_2], .agg #[.int .i64 a1_0, .int .i64 a1_1, .slice A1_2 l1_2.length c1_2]] w fun e w' => e = .returned (.tuple #[.int .i64 r1, .bool r2]) ∧ Below w.heap.size w w' := by
 have hu26 := Try.underlying26
 have hmf_ : ∀ (f_ : Fn) (a_ b_ : Array Value) (W_ : World), (Instr.makeFunc f_ a_ b_).run Try.prog W_ = .ok (.func f_ a_ b_) W_ := fun _ _ _ _ => rfl
 have HR0_2 := Aside0.mk hr0_2
 have HC0_2 := Aside0.mk hc0_2
 clear hr0_2 hc0_2
 have HR1_2 := Aside0.mk hr1_2
 have HC1_2 := Aside0.mk hc1_2
 clear hr1_2 hc1_2
 have HB := Aside0.mk (Below.refl w.heap.size w)
 have H : ((impl_IsChart.f k a0_0 a0_1 l0_2).bind fun t409 => (if t409 = true then ((impl_IsChart.f k a1_0 a1_1 l1_2).bind fun t410 => (impl_AnyWayPlaces.j0 k (!t410) a0_0 a0_1 l0_2 a1_0 a1_1 l1_2)) else (impl_AnyWayPlaces.j0 k true a0_0 a0_1 l0_2 a1_0 a1_1 l1_2))) = some (r1, r2) := h
 clear h
 have HC3 := Aside0.mk H
 clear H
 go_enter Try.func52, Try.ntmps52
 go_upto_region 1 with (first | ((with_reducible refine gate_dst (N := 2) rfl ?_); refine box_ (N := 2) (cs := #[.int .i64 a0_0, .int .i64 a0_1, .slice A0_2 l0_2.length c0_2]) (t := 26) ?_; intro gb407 hg w4 hbox hb; have BK407 := Aside0.mk (hbox); have GW407 := gz_ w hg; have GE407 := gz_ w hg; replace HB := Aside0.mk (below_step (bw_ w) hb); clear hb hbox hg) | ((with_reducible refine gate_dst (N := 3) rfl ?_); refine box_ (N := 3) (cs := #[.int .i64 a1_0, .int .i64 a1_1, .slice A1_2 l1_2.length c1_2]) (t := 26) ?_; intro gb408 hg w5 hbox hb; have n0_ := bb_ BK407 hb; have n1_ := Aside0.mk (below_step (bw_ w) hb); have n2_ := Aside0.mk (hbox); have n3_ := gz_ w hg; have n4_ := gz_ w hg; have n5_ := ne_ hg BK407; have n6_ := en_ hg BK407; clear BK407; clear HB; have BK407 := n0_; have HB := n1_; have BK408 := n2_; have GW408 := n3_; have GE408 := n4_; have NB407_408 := n5_; have NB408_407 := n6_; clear n0_ n1_ n2_ n3_ n4_ n5_ n6_; clear hb hbox hg))
 (try simp only [Act.put, List.setIfInBounds_toArray, List.set_cons_zero, List.set_cons_succ])
 go_cut [17] (fun v17 wc => ∃ (kq : Nat) (x17_2 : Bool), v17 = .bool x17_2 ∧ Aside0 (impl_AnyWayPlaces.j0 kq x17_2 a0_0 a0_1 l0_2 a1_0 a1_1 l1_2 = some (r1, r2)) ∧ Aside0 (kq ≤ k) ∧ Aside0 (wc.heap[gb407]? = some (.cells #[.int .i64 a0_0, .int .i64 a0_1, (.slice A0_2 l0_2.length c0_2)] 26 (0, 0))) ∧ Aside0 (wc.heap[gb408]? = some (.cells #[.int .i64 a1_0, .int .i64 a1_1, (.slice A1_2 l1_2.length c1_2)] 26 (0, 0))) ∧ Aside0 (Below w.heap.size w wc))
 case first =>
  have H := HC3.out
  clear HC3
  replace H := Option.bind_eq_some_iff.mp H
  obtain ⟨t409, A60, H⟩ := H
  replace H : (if t409 = true then ((impl_IsChart.f k a1_0 a1_1 l1_2).bind fun t410 => (impl_AnyWayPlaces.j0 k (!t410) a0_0 a0_1 l0_2 a1_0 a1_1 l1_2)) else (impl_AnyWayPlaces.j0 k true a0_0 a0_1 l0_2 a1_0 a1_1 l1_2)) = some (r1, r2) := H
  have A6 := Aside0.mk A60
  clear A60
  by_cases c7 : t409 = true
  ·subst c7
   have H1 : ((impl_IsChart.f k a1_0 a1_1 l1_2).bind fun t410 => (impl_AnyWayPlaces.j0 k (!t410) a0_0 a0_1 l0_2 a1_0 a1_1 l1_2)) = some (r1, r2) := by rw [if_pos rfl] at H; exact H
   clear H
   have H := H1
   clear H1
   replace H := Option.bind_eq_some_iff.mp H
   obtain ⟨t410, A80, H⟩ := H
   replace H : (impl_AnyWayPlaces.j0 k (!t410) a0_0 a0_1 l0_2 a1_0 a1_1 l1_2) = some (r1, r2) := H
   have A8 := Aside0.mk A80
   clear A80
   have H' := Aside0.mk H
   clear H
   have hnb9 := NB407_408.out
   have hnc9 := NB408_407.out
   obtain ⟨hcz10_0, hcz10_1, hcz10_2, hfz10_0, hfz10_1, hfz10_2⟩ := bc3_ (w := w5) BK407
   go_wp2_with (first | ((with_reducible refine gate_callee (f := 57) rfl ?_); refine goesB (some 11) Try.func57 #[.agg #[.int .i64 a0_0, .int .i64 a0_1, .slice A0_2 l0_2.length c0_2]] ?_; (with_reducible refine (impl_IsChart.calls k a0_0 a0_1 _ _ l0_2 true _ ?side1 ?side2 A6.out).mono ?_); (case side1 => exact cb_ HR0_2 HB); (case side2 => exact HC0_2.out); rintro e w11 ⟨rfl, hb⟩; refine ⟨_, rfl, ?_⟩; replace BK407 := bb_ BK407 hb; replace BK408 := bb_ BK408 hb; replace HB := Aside0.mk (below_step (bw_ w) hb); (try clear hb); (try clear hb2); (try clear hk); (try clear hi); obtain ⟨hcz12_0, hcz12_1, hcz12_2, hfz12_0, hfz12_1, hfz12_2⟩ := bc3_ (w := w11) BK408) | (go_at_call 57; (with_reducible refine (impl_IsChart.calls k a1_0 a1_1 _ _ l1_2 t410 _ ?side1 ?side2 A8.out).mono ?_); (case side1 => exact cb_ HR1_2 HB); (case side2 => exact HC1_2.out); rintro e w13 ⟨rfl, hb⟩; replace BK407 := bb_ BK407 hb; replace BK408 := bb_ BK408 hb; replace HB := Aside0.mk (below_step (bw_ w) hb); (try clear hb); (try clear hb2); (try clear hk); (try clear hi)))
   go_meet
   case rel => exact ⟨_, (!t410), (by first | rfl | (simp; done) | (simp [*]; done)), H', ⟨by first | omega | exact Nat.le_refl _⟩, ⟨bk_ BK407⟩, ⟨bk_ BK408⟩, ⟨(bw_ w)⟩⟩
  ·replace c7 := Bool.eq_false_iff.mpr c7
   subst c7
   have H1 : (impl_AnyWayPlaces.j0 k true a0_0 a0_1 l0_2 a1_0 a1_1 l1_2) = some (r1, r2) := by rw [if_neg (show ¬ (false = true) by decide)] at H; exact H
   clear H
   have H := H1
   clear H1
   have H' := Aside0.mk H
   clear H
   have hnb14 := NB407_408.out
   have hnc14 := NB408_407.out
   obtain ⟨hcz15_0, hcz15_1, hcz15_2, hfz15_0, hfz15_1, hfz15_2⟩ := bc3_ (w := w5) BK407
   go_wp2_with (first | ((with_reducible refine gate_callee (f := 57) rfl ?_); refine goesB (some 11) Try.func57 #[.agg #[.int .i64 a0_0, .int .i64 a0_1, .slice A0_2 l0_2.length c0_2]] ?_; (with_reducible refine (impl_IsChart.calls k a0_0 a0_1 _ _ l0_2 false _ ?side1 ?side2 A6.out).mono ?_); (case side1 => exact cb_ HR0_2 HB); (case side2 => exact HC0_2.out); rintro e w16 ⟨rfl, hb⟩; refine ⟨_, rfl, ?_⟩; replace BK407 := bb_ BK407 hb; replace BK408 := bb_ BK408 hb; replace HB := Aside0.mk (below_step (bw_ w) hb); (try clear hb); (try clear hb2); (try clear hk); (try clear hi)))
   go_meet
   case rel => exact ⟨_, (true), (by first | rfl | (simp; done) | (simp [*]; done)), H', ⟨by first | omega | exact Nat.le_refl _⟩, ⟨bk_ BK407⟩, ⟨bk_ BK408⟩, ⟨(bw_ w)⟩⟩
 case rest =>
  clear HC3
  try clear c1
  try clear p2
  try clear c5
  try clear c7
  try clear c9
  try clear c14
  try clear hcz10_0
  try clear hcz10_1
  try clear hcz10_2
  try clear hcz12_0
  try clear hcz12_1
  try clear hcz12_2
  try clear hcz15_0
  try clear hcz15_1
  try clear hcz15_2
  try clear hfz10_0
  try clear hfz10_1
  try clear hfz10_2
  try clear hfz12_0
  try clear hfz12_1
  try clear hfz12_2
  try clear hfz15_0
  try clear hfz15_1
  try clear hfz15_2
  obtain ⟨kq, x17_2, rfl, HA, HJ2, BK407, BK408, HB⟩ := hcut
  cases kq with
  | zero => exact absurd HA.out (by simp [impl_AnyWayPlaces.j0])
  | succ kj2 =>
   have H := HA.out
   clear HA
   simp only [impl_AnyWayPlaces.j0] at H
   by_cases c17 : x17_2 = true
   ·subst c17
    have H1 : (some (0, false)) = some (r1, r2) := by rw [if_pos rfl] at H; exact H
    clear H
    have H := H1
    clear H1
    simp only [Option.some.injEq, Prod.mk.injEq] at H
    obtain ⟨rfl, rfl⟩ := H
    go_wp2
    go_ret2
    exact ⟨by first | rfl | (simp [errW_none, errW_some] <;> rfl) | (simp [*, errW_none, errW_some] <;> rfl), (bw_ w)⟩
   ·replace c17 := Bool.eq_false_iff.mpr c17
    subst c17
    have H1 : (impl_AnyWayPlaces.l0 kj2 0 (([] : List (S26))) 0 a0_0 a0_1 l0_2 a1_0 a1_1 l1_2) = some (r1, r2) := by rw [if_neg (show ¬ (false = true) by decide)] at H; exact H
    clear H
    have H := H1
    clear H1
    obtain ⟨y411, hy411⟩ : ∃ y_ : List (S26), y_ = (([] : List (S26))) := ⟨_, rfl⟩
    replace H : (impl_AnyWayPlaces.l0 kj2 0 y411 0 a0_0 a0_1 l0_2 a1_0 a1_1 l1_2) = some (r1, r2) := by first | (rw [hy411]; with_reducible exact H) | (have H2_ := (Option.bind_some _ _).symm.trans H; rw [hy411]; with_reducible exact H2_) | (have H2_ := (Option.bind_some _ _).symm.trans H; with_reducible exact H2_) | with_reducible exact H | (rw [hy411]; exact H) | exact H
    have Ny411 := Aside0.mk hy411
    clear hy411
    have H' := Aside0.mk H
    clear H
    go_wp2_with (first | ((with_reducible refine gate_dst (N := 18) rfl ?_); refine Kd.S_lit k26 _ 26 ?hg (N := 18) ?hd (xs := ([] : List (S26))) (inner := []) (ok := fun _ => True) (okp := fun _ => True) ?hr ?hp (fun _ hk => hk) trivial (Below.refl _ _) (Nat.le_refl _) (by simp) ?_; (case hd => rfl); (case hg => rfl); (case hr => first | (go_simp; done) | (go_simp; rfl)); (case hp => exact (Reps.none _ _)); intro v412 w18 ho19 hb hg_ hnew_; clear hg_ hnew_; (first | rw [← Ny411.out] at ho19 | (simp only [Int.reduceToNat] at ho19; rw [← Ny411.out] at ho19)); have HO413 := Aside0.mk (Kd.S_lower (Kd.S_newB (Kd.S_newB ho19 (g := gb407) (o := .cells #[.int .i64 a0_0, .int .i64 a0_1, .slice A0_2 l0_2.length c0_2] 26 (0, 0)) (bk_ BK407)) (g := gb408) (o := .cells #[.int .i64 a1_0, .int .i64 a1_1, .slice A1_2 l1_2.length c1_2] 26 (0, 0)) (bk_ BK408)) (below_size (bw_ w))); replace BK407 := bb_ BK407 hb; replace BK408 := bb_ BK408 hb; replace HB := Aside0.mk (below_step (bw_ w) hb); clear hb ho19))
    go_loopg [6, 7, 19] kj2 (fun kq v6 v7 v19 w' => ∃ (x6_2 : Int) (x7_2 : List (S26)) (x19_2 : Int), v6 = .int .i64 x6_2 ∧ v19 = .int .i64 x19_2 ∧ Aside0 (impl_AnyWayPlaces.l0 kq x6_2 x7_2 x19_2 a0_0 a0_1 l0_2 a1_0 a1_1 l1_2 = some (r1, r2)) ∧ Aside0 (kq ≤ kj2) ∧ Aside0 (Kd.S k26 26 w' w.heap.size (fun k_ => k_ ≠ gb407 ∧ k_ ≠ gb408) v7 x7_2) ∧ Aside0 (w'.heap[gb407]? = some (.cells #[.int .i64 a0_0, .int .i64 a0_1, (.slice A0_2 l0_2.length c0_2)] 26 (0, 0))) ∧ Aside0 (w'.heap[gb408]? = some (.cells #[.int .i64 a1_0, .int .i64 a1_1, (.slice A1_2 l1_2.length c1_2)] 26 (0, 0))) ∧ Aside0 (Below w.heap.size w w'))
    case atStart => exact ⟨(0), (y411), (0), (by first | rfl | (simp; done) | (simp [*]; done)), (by first | rfl | (simp; done) | (simp [*]; done)), H', ⟨Nat.le_refl _⟩, ⟨by (with_reducible repeat (first | apply Kd.S_alloc | apply Kd.S_drewN | apply Kd.S_drew)); exact Kd.S_mono HO413.out (fun _ hk => ⟨hk.1.2, hk.2⟩)⟩, ⟨bk_ BK407⟩, ⟨bk_ BK408⟩, ⟨(bw_ w)⟩⟩
    case round =>
     clear H'
     try clear c1
     try clear p2
     try clear c5
     try clear c7
     try clear c9
     try clear c14
     try clear c17
     try clear hcz10_0
     try clear hcz10_1
     try clear hcz10_2
     try clear hcz12_0
     try clear hcz12_1
     try clear hcz12_2
     try clear hcz15_0
     try clear hcz15_1
     try clear hcz15_2
     try clear hfz10_0
     try clear hfz10_1
     try clear hfz10_2
     try clear hfz12_0
     try clear hfz12_1
     try clear hfz12_2
     try clear hfz15_0
     try clear hfz15_1
     try clear hfz15_2
     try clear p2
     obtain ⟨x6_2, x7_2, x19_2, rfl, rfl, HA, HK2, HO_7, BK407, BK408, HB⟩ := hrel
     cases gk with
     | zero => exact absurd HA.out (by simp [impl_AnyWayPlaces.l0])
     | succ k2 =>
      have H := HA.out
      clear HA
      simp only [impl_AnyWayPlaces.l0] at H
      by_cases c20 : x19_2 < 8
      ·rw [if_pos c20] at H
       have c20b0 : decide (x19_2 < 8) = true := decide_eq_true c20
       clear c20
       replace H := Option.bind_eq_some_iff.mp H
       obtain ⟨⟨t414, t415, t416⟩, A210, H⟩ := H
       replace H : ((impl_Chart__AnyWayPlaces_1.f k2 x7_2 t414 t415 t416).bind fun t420 => (if t420 = true then (if x7_2.length < 3518437208883 then ((impl_Chart_places.f k2 a0_0 a0_1 l0_2 t414 t415 t416).bind fun t425 => (impl_AnyWayPlaces.l0 k2 (wrap64 (x6_2 + (t425.length : Int))) (x7_2 ++ [(⟨t414, t415, t416⟩ : S26)]) (wrap64 (x19_2 + 1)) a0_0 a0_1 l0_2 a1_0 a1_1 l1_2)) else (none)) else (impl_AnyWayPlaces.l0 k2 x6_2 x7_2 (wrap64 (x19_2 + 1)) a0_0 a0_1 l0_2 a1_0 a1_1 l1_2))) = some (r1, r2) := H
       have A21 := Aside0.mk A210
       clear A210
       replace H := Option.bind_eq_some_iff.mp H
       obtain ⟨t420, A220, H⟩ := H
       replace H : (if t420 = true then (if x7_2.length < 3518437208883 then ((impl_Chart_places.f k2 a0_0 a0_1 l0_2 t414 t415 t416).bind fun t425 => (impl_AnyWayPlaces.l0 k2 (wrap64 (x6_2 + (t425.length : Int))) (x7_2 ++ [(⟨t414, t415, t416⟩ : S26)]) (wrap64 (x19_2 + 1)) a0_0 a0_1 l0_2 a1_0 a1_1 l1_2)) else (none)) else (impl_AnyWayPlaces.l0 k2 x6_2 x7_2 (wrap64 (x19_2 + 1)) a0_0 a0_1 l0_2 a1_0 a1_1 l1_2)) = some (r1, r2) := H
       have A22 := Aside0.mk A220
       clear A220
       by_cases c23 : t420 = true
       ·subst c23
        have H1 : (if x7_2.length < 3518437208883 then ((impl_Chart_places.f k2 a0_0 a0_1 l0_2 t414 t415 t416).bind fun t425 => (impl_AnyWayPlaces.l0 k2 (wrap64 (x6_2 + (t425.length : Int))) (x7_2 ++ [(⟨t414, t415, t416⟩ : S26)]) (wrap64 (x19_2 + 1)) a0_0 a0_1 l0_2 a1_0 a1_1 l1_2)) else (none)) = some (r1, r2) := by rw [if_pos rfl] at H; exact H
        clear H
        have H := H1
        clear H1
        by_cases c24 : x7_2.length < 3518437208883
        ·rw [if_pos c24] at H
         have LMc24 := Aside0.mk c24
         clear c24
         obtain ⟨y421, hy421⟩ : ∃ y_ : List (S26), y_ = (x7_2 ++ [(⟨t414, t415, t416⟩ : S26)]) := ⟨_, rfl⟩
         replace H : ((impl_Chart_places.f k2 a0_0 a0_1 l0_2 t414 t415 t416).bind fun t425 => (impl_AnyWayPlaces.l0 k2 (wrap64 (x6_2 + (t425.length : Int))) y421 (wrap64 (x19_2 + 1)) a0_0 a0_1 l0_2 a1_0 a1_1 l1_2)) = some (r1, r2) := by first | (rw [hy421]; with_reducible exact H) | (have H2_ := (Option.bind_some _ _).symm.trans H; rw [hy421]; with_reducible exact H2_) | (have H2_ := (Option.bind_some _ _).symm.trans H; with_reducible exact H2_) | with_reducible exact H | (rw [hy421]; exact H) | exact H
         have Ny421 := Aside0.mk hy421
         clear hy421
         replace H := Option.bind_eq_some_iff.mp H
         obtain ⟨t425, A250, H⟩ := H
         replace H : (impl_AnyWayPlaces.l0 k2 (wrap64 (x6_2 + (t425.length : Int))) y421 (wrap64 (x19_2 + 1)) a0_0 a0_1 l0_2 a1_0 a1_1 l1_2) = some (r1, r2) := H
         have A25 := Aside0.mk A250
         clear A250
         have H' := Aside0.mk H
         clear H
         have hnb26 := NB408_407.out
         have hnc26 := NB407_408.out
         obtain ⟨hcz27_0, hcz27_1, hcz27_2, hfz27_0, hfz27_1, hfz27_2⟩ := bc3_ (w := wr) BK408
         go_wp2_with (first | ((with_reducible refine gate_callee (f := 81) rfl ?_); refine goesB (some 24) Try.func81 #[.agg #[.int .i64 a1_0, .int .i64 a1_1, .slice A1_2 l1_2.length c1_2], .int .i64 x19_2] ?_; (with_reducible refine (impl_Chart_moved.calls k2 a1_0 a1_1 _ _ l1_2 x19_2 t414 t415 t416 _ ?side1 ?side2 A21.out).mono ?_); (case side1 => exact cb_ HR1_2 HB); (case side2 => exact HC1_2.out); rintro e w28 ⟨v417, rfl, ho0, hb⟩; refine ⟨_, rfl, ?_⟩; have n0_ := Aside0.mk (Kd.S_elder' (by (with_reducible repeat (first | apply Kd.S_alloc | apply Kd.S_drewN | apply Kd.S_drew)); exact HO_7.out) (Kd.R_base ho0) hb); have n1_ := Aside0.mk (Kd.R_lower ho0 (below_size (bw_ w))); have n2_ := bb_ BK407 hb; have n3_ := bb_ BK408 hb; have n4_ := Aside0.mk (below_step (bw_ w) hb); clear HO_7; clear BK407; clear BK408; clear HB; have HO_7 := n0_; have HO418 := n1_; have BK407 := n2_; have BK408 := n3_; have HB := n4_; clear n0_ n1_ n2_ n3_ n4_; (try clear hb); (try clear hb2); (try clear hk); (try clear hi); (try clear ho0)) | ((with_reducible refine gate_dst (N := 9) rfl ?_); refine box_ (N := 9) (cs := #[.int .i64 0, .int .i64 0, .slice none 0 0]) (t := 26) ?_; intro gb419 hg w29 hbox hb; have n0_ := Aside0.mk (Kd.S_below (Kd.S_elderB (by (with_reducible repeat (first | apply Kd.S_alloc | apply Kd.S_drewN | apply Kd.S_drew)); exact HO_7.out) gb419 (Nat.le_of_eq hg.symm)) hb); have n1_ := Aside0.mk (Kd.R_below (ra_ HO418) hb); have n2_ := bb_ BK407 hb; have n3_ := bb_ BK408 hb; have n4_ := Aside0.mk (below_step (bw_ w) hb); have n5_ := Aside0.mk (hbox); have n6_ := gz_ w hg; have n7_ := gz_ w hg; have n8_ := ne_ hg BK407; have n9_ := en_ hg BK407; have n10_ := ne_ hg BK408; have n11_ := en_ hg BK408; clear HO_7; clear HO418; clear BK407; clear BK408; clear HB; have HO_7 := n0_; have HO418 := n1_; have BK407 := n2_; have BK408 := n3_; have HB := n4_; have BK419 := n5_; have GW419 := n6_; have GE419 := n7_; have NB407_419 := n8_; have NB419_407 := n9_; have NB408_419 := n10_; have NB419_408 := n11_; clear n0_ n1_ n2_ n3_ n4_ n5_ n6_ n7_ n8_ n9_ n10_ n11_; clear hb hbox hg; have hnb30 := NB419_407.out; have hnc30 := NB407_419.out; have hnb31 := NB419_408.out; have hnc31 := NB408_419.out; obtain ⟨hcz32_0, hcz32_1, hcz32_2, hfz32_0, hfz32_1, hfz32_2⟩ := bc3_ (w := w29) BK419; obtain ⟨Ao33, co33, eo33⟩ := Kd.R_slice HO418.out; subst eo33; obtain ⟨Ao34, co34, eo34⟩ := Kd.S_slice HO_7.out; subst eo34) | ((with_reducible refine gate_callee (f := 97) rfl ?_); refine goesB (some 27) Try.func97 #[.slice Ao34 x7_2.length co34, (.func (.func 98) #[] #[.pointer (some ⟨gb419, 0, none⟩)])] ?_; (with_reducible refine (impl_Chart__AnyWayPlaces_1.calls k2 _ _ x7_2 gb419 t414 t415 Ao33 co33 t416 true _ ?side1 ?side2 ?side3 ?side4 ?side5 A22.out).mono ?_); (case side1 => refine (Kd.S_reads' (e := 26) (base := w.heap.size) (ok := fun k_ => (((k_ ≠ gb407 ∧ k_ ≠ gb408) ∧ some k_ ≠ (.slice Ao33 t416.length co33 : Value).ownBlock) ∧ k_ ≠ gb419)) (n := x7_2.length) (c := co34) ?_).2.2; exact (by (with_reducible repeat (first | apply Kd.S_alloc | apply Kd.S_drewN | apply Kd.S_drew)); exact (Kd.S_mono (Kd.S_far (p := ⟨gb419, 2, none⟩) (Kd.S_far (p := ⟨gb419, 1, none⟩) (Kd.S_far (p := ⟨gb419, 0, none⟩) (Kd.S_mono HO_7.out (fun k_ hk => (⟨hk, hk.2⟩ : _ ∧ k_ ≠ gb419))) (fun _ hk => hk.2) (.int .i64 t414)) (fun _ hk => hk.2) (.int .i64 t415)) (fun _ hk => hk.2) (.slice Ao33 t416.length co33)) (fun _ h_ => h_.1)))); (case side2 => exact (Kd.S_reads' HO_7.out).2.1); (case side3 => (with_reducible repeat (first | refine blk_drewN ?_ _ | refine blk_drew ?_ | refine blk_alloc ?_ _)); refine blk_put (cs := #[.int .i64 t414, .int .i64 t415, .slice none 0 0]) ?_ 2 _ rfl; (with_reducible repeat (first | refine blk_drewN ?_ _ | refine blk_drew ?_ | refine blk_alloc ?_ _)); refine blk_put (cs := #[.int .i64 t414, .int .i64 0, .slice none 0 0]) ?_ 1 _ rfl; (with_reducible repeat (first | refine blk_drewN ?_ _ | refine blk_drew ?_ | refine blk_alloc ?_ _)); refine blk_put (cs := #[.int .i64 0, .int .i64 0, .slice none 0 0]) ?_ 0 _ rfl; (with_reducible repeat (first | refine blk_drewN ?_ _ | refine blk_drew ?_ | refine blk_alloc ?_ _)); exact BK419.out); (case side4 => refine (Kd.R_reads' (e := 3) (base := w.heap.size) (ok := fun k_ => True) (n := t416.length) (c := co33) ?_).2.2; exact (by exact rf_ (Kd.R_types HO418.out BK419.out (by decide)) (fun _ h_ => h_.1))); (case side5 => exact (Kd.R_reads' HO418.out).2.1); rintro e w35 ⟨rfl, hb⟩; refine ⟨_, rfl, ?_⟩; have n0_ := Aside0.mk (Kd.S_below (by (with_reducible repeat (first | apply Kd.S_alloc | apply Kd.S_drewN | apply Kd.S_drew)); exact (Kd.S_mono (Kd.S_far (p := ⟨gb419, 2, none⟩) (Kd.S_far (p := ⟨gb419, 1, none⟩) (Kd.S_far (p := ⟨gb419, 0, none⟩) (Kd.S_mono HO_7.out (fun k_ hk => (⟨hk, hk.2⟩ : _ ∧ k_ ≠ gb419))) (fun _ hk => hk.2) (.int .i64 t414)) (fun _ hk => hk.2) (.int .i64 t415)) (fun _ hk => hk.2) (.slice Ao33 t416.length co33)) (fun _ h_ => h_.1))) hb); have n1_ := Aside0.mk (Kd.R_below (by exact rf_ (Kd.R_types HO418.out BK419.out (by decide)) (fun _ h_ => h_.1)) hb); have n2_ := bb_ BK407 hb; have n3_ := bb_ BK408 hb; have n4_ := Aside0.mk (blk_below (g := gb419) (o := .cells #[.int .i64 t414, .int .i64 t415, .slice Ao33 t416.length co33] 26 (0, 0)) (bq_ BK419) hb); have n5_ := Aside0.mk (below_step (bw_ w) hb); clear HO_7; clear HO418; clear BK407; clear BK408; clear BK419; clear HB; have HO_7 := n0_; have HO418 := n1_; have BK407 := n2_; have BK408 := n3_; have BK419 := n4_; have HB := n5_; clear n0_ n1_ n2_ n3_ n4_ n5_; (try clear hb); (try clear hb2); (try clear hk); (try clear hi); obtain ⟨hcz36_0, hcz36_1, hcz36_2, hfz36_0, hfz36_1, hfz36_2⟩ := bc3_ (w := w35) BK419) | ((with_reducible refine gate_builtin (b := .append) (xs := #[.tmp 28, .tmp 30]) rfl ?_); at_builtin; refine Kd.S_append k26 (w0 := w) w.heap.size rfl (.tmp 28) (.tmp 30) 94 26 (.agg #[(.int .i64 0), (.int .i64 0), (.slice none 0 0)]) 40 rfl Try.underlying94 info26 rfl (by decide) (by omega) (.slice Ao34 x7_2.length co34) x7_2 (⟨t414, t415, t416⟩ : S26) [.int .i64 t414, .int .i64 t415, .slice Ao33 t416.length co33] (fun k_ => k_ ≠ gb407 ∧ k_ ≠ gb408 ∧ k_ ≠ gb419) (fun k_ => some k_ = (.slice Ao33 t416.length co33 : Value).ownBlock) rfl rfl ?aP (fun k_ hk_ => ((Kd.R_mono (ok' := fun k_ => ((fun k_ => k_ ≠ gb407 ∧ k_ ≠ gb408 ∧ k_ ≠ gb419)) k_ ∧ some k_ ≠ (.slice Ao34 x7_2.length co34 : Value).ownBlock) (Kd.R_types (Kd.R_types (Kd.R_types (Kd.R_apart' (HO418.out) (Kd.S_typed HO_7.out) (by decide)) BK407.out (by decide)) BK408.out (by decide)) BK419.out (by decide)) (fun k_ hk => ⟨⟨hk.1.1.2, ⟨hk.1.2, hk.2⟩⟩, hk.1.1.1.2⟩))).1 k_ hk_.symm) ?aF ?aO ?aB ?aS ?aL ?_; (case aP => exact k26_mkM _ _ _ (⟨t414, t415, t416⟩ : S26) (Kd.R_mono (Kd.R_tight rfl (Kd.R_mono (ok' := fun k_ => ((fun k_ => k_ ≠ gb407 ∧ k_ ≠ gb408 ∧ k_ ≠ gb419)) k_ ∧ some k_ ≠ (.slice Ao34 x7_2.length co34 : Value).ownBlock) (Kd.R_types (Kd.R_types (Kd.R_types (Kd.R_apart' (HO418.out) (Kd.S_typed HO_7.out) (by decide)) BK407.out (by decide)) BK408.out (by decide)) BK419.out (by decide)) (fun k_ hk => ⟨⟨hk.1.1.2, ⟨hk.1.2, hk.2⟩⟩, hk.1.1.1.2⟩))) (fun _ h_ => h_))); (case aB => exact (bw_ w)); (case aF => exact (fun k_ hk => ⟨Kd.freshB (g := gb407) (o := .cells #[.int .i64 a0_0, .int .i64 a0_1, .slice A0_2 l0_2.length c0_2] 26 (0, 0)) (bk_ BK407) k_ hk, Kd.freshB (g := gb408) (o := .cells #[.int .i64 a1_0, .int .i64 a1_1, .slice A1_2 l1_2.length c1_2] 26 (0, 0)) (bk_ BK408) k_ hk, Kd.freshB (g := gb419) (o := .cells #[.int .i64 t414, .int .i64 t415, .slice Ao33 t416.length co33] 26 (0, 0)) (bk_ BK419) k_ hk⟩)); (case aO => exact (by (with_reducible repeat (first | apply Kd.S_alloc | apply Kd.S_drewN | apply Kd.S_drew)); exact Kd.S_mono HO_7.out (fun k_ hk => ⟨⟨hk.1.1.1, ⟨hk.1.1.2, hk.2⟩⟩, fun e_ => hk.1.2 e_⟩))); (case aS => exact (below_size (bw_ w))); (case aL => have := LMc24.out; omega); intro v422 w37 ho hb hg hat; rw [← Ny421.out] at ho; have n0_ := Aside0.mk ((Kd.R_reads' (Kd.R_over' (ra_ HO418) (Kd.S_typed (by (with_reducible repeat (first | apply Kd.S_alloc | apply Kd.S_drewN | apply Kd.S_drew)); exact HO_7.out)) (by decide) hg)).2.2); have n1_ := Aside0.mk ((Kd.R_reads' (Kd.R_over' (ra_ HO418) (Kd.S_typed (by (with_reducible repeat (first | apply Kd.S_alloc | apply Kd.S_drewN | apply Kd.S_drew)); exact HO_7.out)) (by decide) hg)).2.1); have n2_ := Aside0.mk (blk_grown (g := gb407) (o := .cells #[.int .i64 a0_0, .int .i64 a0_1, .slice A0_2 l0_2.length c0_2] 26 (0, 0)) (bk_ BK407) hg (Kd.S_away HO_7.out (fun _ hk => hk.1.1.1))); have n3_ := Aside0.mk (blk_grown (g := gb408) (o := .cells #[.int .i64 a1_0, .int .i64 a1_1, .slice A1_2 l1_2.length c1_2] 26 (0, 0)) (bk_ BK408) hg (Kd.S_away HO_7.out (fun _ hk => hk.1.1.2))); have n4_ := Aside0.mk (blk_grown (g := gb419) (o := .cells #[.int .i64 t414, .int .i64 t415, .slice Ao33 t416.length co33] 26 (0, 0)) (bk_ BK419) hg (Kd.S_away HO_7.out (fun _ hk => hk.2))); have n5_ := Aside0.mk (hb); have n6_ := Aside0.mk (ho); clear BK407; clear BK408; clear BK419; clear HB; clear HO_7; clear HO418; have HRg424 := n0_; have HCg424 := n1_; have BK407 := n2_; have BK408 := n3_; have BK419 := n4_; have HB := n5_; have HO423 := n6_; clear n0_ n1_ n2_ n3_ n4_ n5_ n6_; clear ho hb hg hat; obtain ⟨hcz38_0, hcz38_1, hcz38_2, hfz38_0, hfz38_1, hfz38_2⟩ := bc3_ (w := w37) BK407; obtain ⟨hcz39_0, hcz39_1, hcz39_2, hfz39_0, hfz39_1, hfz39_2⟩ := bc3_ (w := w37) BK419) | ((with_reducible refine gate_callee (f := 99) rfl ?_); refine goesB (some 35) Try.func99 #[.agg #[.int .i64 a0_0, .int .i64 a0_1, .slice A0_2 l0_2.length c0_2], .agg #[.int .i64 t414, .int .i64 t415, .slice Ao33 t416.length co33]] ?_; (with_reducible refine (impl_Chart_places.calls k2 a0_0 a0_1 _ _ l0_2 t414 t415 _ _ t416 t425 _ ?side1 ?side2 ?side3 ?side4 A25.out).mono ?_); (case side1 => exact cb_ HR0_2 HB); (case side2 => exact HC0_2.out); (case side3 => repeat (first | exact (by repeat (first | (with_reducible exact HRg424.out) | (with_reducible refine Kd.C_alloc ?_ _) | (with_reducible refine Kd.C_drewN ?_ _) | (with_reducible refine Kd.C_drew ?_) | exact HRg424.out)) | (with_reducible refine Kd.C_alloc ?_ _) | (with_reducible refine Kd.C_drewN ?_ _) | (with_reducible refine Kd.C_drew ?_))); (case side4 => exact HCg424.out); rintro e w40 ⟨v426, rfl, ho0, hb⟩; refine ⟨_, rfl, ?_⟩; have n0_ := Aside0.mk (Kd.S_below (by (with_reducible repeat (first | apply Kd.S_alloc | apply Kd.S_drewN | apply Kd.S_drew)); exact HO423.out) hb); have n1_ := Aside0.mk (Kd.R_lower ho0 (below_size (bw_ w))); have n2_ := Aside0.mk (Kd.C_below (by repeat (first | (with_reducible exact HRg424.out) | (with_reducible refine Kd.C_alloc ?_ _) | (with_reducible refine Kd.C_drewN ?_ _) | (with_reducible refine Kd.C_drew ?_) | exact HRg424.out)) hb); have n3_ := bb_ BK407 hb; have n4_ := bb_ BK408 hb; have n5_ := bb_ BK419 hb; have n6_ := Aside0.mk (below_step (bw_ w) hb); clear HO423; clear HRg424; clear BK407; clear BK408; clear BK419; clear HB; have HO423 := n0_; have HO427 := n1_; have HRg424 := n2_; have BK407 := n3_; have BK408 := n4_; have BK419 := n5_; have HB := n6_; clear n0_ n1_ n2_ n3_ n4_ n5_ n6_; (try clear hb); (try clear hb2); (try clear hk); (try clear hi); (try clear ho0); obtain ⟨Ao41, co41, eo41⟩ := Kd.R_slice HO427.out; subst eo41))
         go_roundg k2
         case measure => have := HJ2.out; have := HK2.out; omega
         case rel => exact ⟨(wrap64 (x6_2 + (t425.length : Int))), (y421), (wrap64 (x19_2 + 1)), (by first | rfl | (simp; done) | (simp [*]; done)), (by first | rfl | (simp; done) | (simp [*]; done)), H', ⟨by have := HJ2.out; have := HK2.out; omega⟩, ⟨by (with_reducible repeat (first | apply Kd.S_alloc | apply Kd.S_drewN | apply Kd.S_drew)); exact Kd.S_mono HO423.out (fun _ hk => ⟨hk.1, hk.2.1⟩)⟩, ⟨bk_ BK407⟩, ⟨bk_ BK408⟩, ⟨(bw_ w)⟩⟩
        ·rw [if_neg c24] at H
         exact absurd H (by simp)
       ·replace c23 := Bool.eq_false_iff.mpr c23
        subst c23
        have H1 : (impl_AnyWayPlaces.l0 k2 x6_2 x7_2 (wrap64 (x19_2 + 1)) a0_0 a0_1 l0_2 a1_0 a1_1 l1_2) = some (r1, r2) := by rw [if_neg (show ¬ (false = true) by decide)] at H; exact H
        clear H
        have H := H1
        clear H1
        have H' := Aside0.mk H
        clear H
        have hnb42 := NB408_407.out
        have hnc42 := NB407_408.out
        obtain ⟨hcz43_0, hcz43_1, hcz43_2, hfz43_0, hfz43_1, hfz43_2⟩ := bc3_ (w := wr) BK408
        go_wp2_with (first | ((with_reducible refine gate_callee (f := 81) rfl ?_); refine goesB (some 24) Try.func81 #[.agg #[.int .i64 a1_0, .int .i64 a1_1, .slice A1_2 l1_2.length c1_2], .int .i64 x19_2] ?_; (with_reducible refine (impl_Chart_moved.calls k2 a1_0 a1_1 _ _ l1_2 x19_2 t414 t415 t416 _ ?side1 ?side2 A21.out).mono ?_); (case side1 => exact cb_ HR1_2 HB); (case side2 => exact HC1_2.out); rintro e w44 ⟨v417, rfl, ho0, hb⟩; refine ⟨_, rfl, ?_⟩; have n0_ := Aside0.mk (Kd.S_elder' (by (with_reducible repeat (first | apply Kd.S_alloc | apply Kd.S_drewN | apply Kd.S_drew)); exact HO_7.out) (Kd.R_base ho0) hb); have n1_ := Aside0.mk (Kd.R_lower ho0 (below_size (bw_ w))); have n2_ := bb_ BK407 hb; have n3_ := bb_ BK408 hb; have n4_ := Aside0.mk (below_step (bw_ w) hb); clear HO_7; clear BK407; clear BK408; clear HB; have HO_7 := n0_; have HO418 := n1_; have BK407 := n2_; have BK408 := n3_; have HB := n4_; clear n0_ n1_ n2_ n3_ n4_; (try clear hb); (try clear hb2); (try clear hk); (try clear hi); (try clear ho0)) | ((with_reducible refine gate_dst (N := 9) rfl ?_); refine box_ (N := 9) (cs := #[.int .i64 0, .int .i64 0, .slice none 0 0]) (t := 26) ?_; intro gb419 hg w45 hbox hb; have n0_ := Aside0.mk (Kd.S_below (Kd.S_elderB (by (with_reducible repeat (first | apply Kd.S_alloc | apply Kd.S_drewN | apply Kd.S_drew)); exact HO_7.out) gb419 (Nat.le_of_eq hg.symm)) hb); have n1_ := Aside0.mk (Kd.R_below (ra_ HO418) hb); have n2_ := bb_ BK407 hb; have n3_ := bb_ BK408 hb; have n4_ := Aside0.mk (below_step (bw_ w) hb); have n5_ := Aside0.mk (hbox); have n6_ := gz_ w hg; have n7_ := gz_ w hg; have n8_ := ne_ hg BK407; have n9_ := en_ hg BK407; have n10_ := ne_ hg BK408; have n11_ := en_ hg BK408; clear HO_7; clear HO418; clear BK407; clear BK408; clear HB; have HO_7 := n0_; have HO418 := n1_; have BK407 := n2_; have BK408 := n3_; have HB := n4_; have BK419 := n5_; have GW419 := n6_; have GE419 := n7_; have NB407_419 := n8_; have NB419_407 := n9_; have NB408_419 := n10_; have NB419_408 := n11_; clear n0_ n1_ n2_ n3_ n4_ n5_ n6_ n7_ n8_ n9_ n10_ n11_; clear hb hbox hg; have hnb46 := NB419_407.out; have hnc46 := NB407_419.out; have hnb47 := NB419_408.out; have hnc47 := NB408_419.out; obtain ⟨hcz48_0, hcz48_1, hcz48_2, hfz48_0, hfz48_1, hfz48_2⟩ := bc3_ (w := w45) BK419; obtain ⟨Ao49, co49, eo49⟩ := Kd.R_slice HO418.out; subst eo49; obtain ⟨Ao50, co50, eo50⟩ := Kd.S_slice HO_7.out; subst eo50) | ((with_reducible refine gate_callee (f := 97) rfl ?_); refine goesB (some 27) Try.func97 #[.slice Ao50 x7_2.length co50, (.func (.func 98) #[] #[.pointer (some ⟨gb419, 0, none⟩)])] ?_; (with_reducible refine (impl_Chart__AnyWayPlaces_1.calls k2 _ _ x7_2 gb419 t414 t415 Ao49 co49 t416 false _ ?side1 ?side2 ?side3 ?side4 ?side5 A22.out).mono ?_); (case side1 => refine (Kd.S_reads' (e := 26) (base := w.heap.size) (ok := fun k_ => (((k_ ≠ gb407 ∧ k_ ≠ gb408) ∧ some k_ ≠ (.slice Ao49 t416.length co49 : Value).ownBlock) ∧ k_ ≠ gb419)) (n := x7_2.length) (c := co50) ?_).2.2; exact (by (with_reducible repeat (first | apply Kd.S_alloc | apply Kd.S_drewN | apply Kd.S_drew)); exact (Kd.S_mono (Kd.S_far (p := ⟨gb419, 2, none⟩) (Kd.S_far (p := ⟨gb419, 1, none⟩) (Kd.S_far (p := ⟨gb419, 0, none⟩) (Kd.S_mono HO_7.out (fun k_ hk => (⟨hk, hk.2⟩ : _ ∧ k_ ≠ gb419))) (fun _ hk => hk.2) (.int .i64 t414)) (fun _ hk => hk.2) (.int .i64 t415)) (fun _ hk => hk.2) (.slice Ao49 t416.length co49)) (fun _ h_ => h_.1)))); (case side2 => exact (Kd.S_reads' HO_7.out).2.1); (case side3 => (with_reducible repeat (first | refine blk_drewN ?_ _ | refine blk_drew ?_ | refine blk_alloc ?_ _)); refine blk_put (cs := #[.int .i64 t414, .int .i64 t415, .slice none 0 0]) ?_ 2 _ rfl; (with_reducible repeat (first | refine blk_drewN ?_ _ | refine blk_drew ?_ | refine blk_alloc ?_ _)); refine blk_put (cs := #[.int .i64 t414, .int .i64 0, .slice none 0 0]) ?_ 1 _ rfl; (with_reducible repeat (first | refine blk_drewN ?_ _ | refine blk_drew ?_ | refine blk_alloc ?_ _)); refine blk_put (cs := #[.int .i64 0, .int .i64 0, .slice none 0 0]) ?_ 0 _ rfl; (with_reducible repeat (first | refine blk_drewN ?_ _ | refine blk_drew ?_ | refine blk_alloc ?_ _)); exact BK419.out); (case side4 => refine (Kd.R_reads' (e := 3) (base := w.heap.size) (ok := fun k_ => True) (n := t416.length) (c := co49) ?_).2.2; exact (by exact rf_ (Kd.R_types HO418.out BK419.out (by decide)) (fun _ h_ => h_.1))); (case side5 => exact (Kd.R_reads' HO418.out).2.1); rintro e w51 ⟨rfl, hb⟩; refine ⟨_, rfl, ?_⟩; have n0_ := Aside0.mk (Kd.S_below (by (with_reducible repeat (first | apply Kd.S_alloc | apply Kd.S_drewN | apply Kd.S_drew)); exact (Kd.S_mono (Kd.S_far (p := ⟨gb419, 2, none⟩) (Kd.S_far (p := ⟨gb419, 1, none⟩) (Kd.S_far (p := ⟨gb419, 0, none⟩) (Kd.S_mono HO_7.out (fun k_ hk => (⟨hk, hk.2⟩ : _ ∧ k_ ≠ gb419))) (fun _ hk => hk.2) (.int .i64 t414)) (fun _ hk => hk.2) (.int .i64 t415)) (fun _ hk => hk.2) (.slice Ao49 t416.length co49)) (fun _ h_ => h_.1))) hb); have n1_ := Aside0.mk (Kd.R_below (by exact rf_ (Kd.R_types HO418.out BK419.out (by decide)) (fun _ h_ => h_.1)) hb); have n2_ := bb_ BK407 hb; have n3_ := bb_ BK408 hb; have n4_ := Aside0.mk (blk_below (g := gb419) (o := .cells #[.int .i64 t414, .int .i64 t415, .slice Ao49 t416.length co49] 26 (0, 0)) (bq_ BK419) hb); have n5_ := Aside0.mk (below_step (bw_ w) hb); clear HO_7; clear HO418; clear BK407; clear BK408; clear BK419; clear HB; have HO_7 := n0_; have HO418 := n1_; have BK407 := n2_; have BK408 := n3_; have BK419 := n4_; have HB := n5_; clear n0_ n1_ n2_ n3_ n4_ n5_; (try clear hb); (try clear hb2); (try clear hk); (try clear hi)))
        go_roundg k2
        case measure => have := HJ2.out; have := HK2.out; omega
        case rel => exact ⟨(x6_2), (x7_2), (wrap64 (x19_2 + 1)), (by first | rfl | (simp; done) | (simp [*]; done)), (by first | rfl | (simp; done) | (simp [*]; done)), H', ⟨by have := HJ2.out; have := HK2.out; omega⟩, ⟨by (with_reducible repeat (first | apply Kd.S_alloc | apply Kd.S_drewN | apply Kd.S_drew)); exact Kd.S_mono HO_7.out (fun _ hk => ⟨hk.1.1.1, hk.1.1.2⟩)⟩, ⟨bk_ BK407⟩, ⟨bk_ BK408⟩, ⟨(bw_ w)⟩⟩
      ·rw [if_neg c20] at H
       have c20b0 : decide (x19_2 < 8) = false := decide_eq_false c20
       clear c20
       simp only [Option.some.injEq, Prod.mk.injEq] at H
       obtain ⟨rfl, rfl⟩ := H
       go_wp2
       go_ret2
       exact ⟨by first | rfl | (simp [errW_none, errW_some] <;> rfl) | (simp [*, errW_none, errW_some] <;> rfl), (bw_ w)⟩

end Go.Proofs.Yteiaakppjcpgcaa.PFnExactAnyWayPlaces
