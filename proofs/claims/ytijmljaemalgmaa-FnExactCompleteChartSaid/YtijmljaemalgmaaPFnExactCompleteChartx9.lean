-- Printed by this session's own program (wip/tool/myprint.py, over the kit's print); Lean checks it.
import Derived.Test.YtijmljaemalgmaaPFnExactCompleteChartx0
import Derived.Test.YtijmljaemalgmaaPFnExactCompleteChartx6
import Derived.Test.YtijmljaemalgmaaPFnExactCompleteChartx8
namespace Go.Proofs.Ytijmljaemalgmaa.PFnExactCompleteChart
open Go.RowKit Go.Proofs.YtijmljaemalgmaaW.PrintWords Go.Proofs.YtijmljaemalgmaaW.PrintLast Go.Proofs.YtijmljaemalgmaaW.PrintMore
attribute [local go_sem] max2_int min2_int max_two min_two max_three min_three max_four min_four   -- for this text's walks alone
set_option linter.unusedVariables false
set_option linter.unusedSimpArgs false

/-! ### impl_Chart_complete: function 147 -/
mutual
def impl_Chart_complete.l0 : Nat → Bool → Int → List (List Int) → Int → Int → Int → Int → List Int → Int → Int → List Int → Option (Int × Int × List Int × Int × Bool)
  | 0, _, _, _, _, _, _, _, _, _, _, _ => none
  | k + 1, x8, x10, x30, x31, x32, x383000, x383001, x383002, x394000, x394001, x394002 => if x32 < x31 then (if 0 ≤ x32 then (if x32 < (x30.length : Int) then (if 6 ≤ 35184372088832 then (impl_Chart_complete.l1 k x8 x10 (rd_L1 x30 x32) x30 x31 x32 (List.replicate 6 0) (rd_L1 x30 x32) ((rd_L1 x30 x32).length : Int) 0 x383000 x383001 x383002 x394000 x394001 x394002) else (none)) else (none)) else (none)) else (some (x394000, x394001, x394002, x10, x8))
def impl_Chart_complete.l1 : Nat → Bool → Int → List Int → List (List Int) → Int → Int → List Int → List Int → Int → Int → Int → Int → List Int → Int → Int → List Int → Option (Int × Int × List Int × Int × Bool)
  | 0, _, _, _, _, _, _, _, _, _, _, _, _, _, _, _, _ => none
  | k + 1, x8, x10, x12, x30, x31, x32, x36, x37, x38, x39, x383000, x383001, x383002, x394000, x394001, x394002 => if x39 < x38 then (if 0 ≤ x39 then (if x39 < (x37.length : Int) then (if 0 ≤ (rd x37 x39) then (if (rd x37 x39) < (x383002.length : Int) then (if 0 ≤ (rd x383002 (rd x37 x39)) then (if (rd x383002 (rd x37 x39)) < (x36.length : Int) then (impl_Chart_complete.l1 k x8 x10 x12 x30 x31 x32 (x36.set ((rd x383002 (rd x37 x39)) : Int).toNat (wrap64 ((rd x36 (rd x383002 (rd x37 x39))) + 1))) x37 x38 (wrap64 (x39 + 1)) x383000 x383001 x383002 x394000 x394001 x394002) else (none)) else (none)) else (none)) else (none)) else (none)) else (none)) else ((slices_Max_int_int.f k x36).bind fun t402 => (impl_Chart_complete.l2 k x8 (wrap64 (x10 + (wrap64 ((x12.length : Int) - t402)))) t402 x30 x31 x32 x36 x12 (x12.length : Int) 0 x383000 x383001 x383002 x394000 x394001 x394002))
def impl_Chart_complete.l2 : Nat → Bool → Int → Int → List (List Int) → Int → Int → List Int → List Int → Int → Int → Int → Int → List Int → Int → Int → List Int → Option (Int × Int × List Int × Int × Bool)
  | 0, _, _, _, _, _, _, _, _, _, _, _, _, _, _, _, _ => none
  | k + 1, x8, x10, x16, x30, x31, x32, x54, x62, x63, x64, x383000, x383001, x383002, x394000, x394001, x394002 => if x64 < x63 then (if 0 ≤ x64 then (if x64 < (x62.length : Int) then ((slices_Index_int_int.f k x54 x16).bind fun t404 => (if 0 ≤ (rd x62 x64) then (if (rd x62 x64) < (x394002.length : Int) then (impl_Chart_complete.l2 k x8 x10 x16 x30 x31 x32 x54 x62 x63 (wrap64 (x64 + 1)) x383000 x383001 x383002 x394000 x394001 (x394002.set ((rd x62 x64) : Int).toNat t404)) else (none)) else (none))) else (none)) else (none)) else (impl_Chart_complete.l0 k x8 x10 x30 x31 (wrap64 (x32 + 1)) x383000 x383001 x383002 x394000 x394001 x394002)
end
def impl_Chart_complete.f (k : Nat) (a0_0 : Int) (a0_1 : Int) (l0_2 : List Int) (a1 : Int) : Option (Int × Int × List Int × Int × Bool) := (impl_orbits.f k a0_0 a0_1 a1).bind fun bt384 => ((impl_Chart_copied.f a0_0 a0_1 l0_2).bind fun bt388 => (impl_Chart_complete.l0 k bt384.2 0 bt384.1 (bt384.1.length : Int) 0 a0_0 a0_1 l0_2 bt388.1 bt388.2.1 bt388.2.2))
theorem impl_Chart_complete.mono_l : ∀ k, (∀ y0 y1 y2 y3 y4 y5 y6 y7 y8 y9 y10, LeO (impl_Chart_complete.l0 k y0 y1 y2 y3 y4 y5 y6 y7 y8 y9 y10) (impl_Chart_complete.l0 (k + 1) y0 y1 y2 y3 y4 y5 y6 y7 y8 y9 y10)) ∧ (∀ y0 y1 y2 y3 y4 y5 y6 y7 y8 y9 y10 y11 y12 y13 y14 y15, LeO (impl_Chart_complete.l1 k y0 y1 y2 y3 y4 y5 y6 y7 y8 y9 y10 y11 y12 y13 y14 y15) (impl_Chart_complete.l1 (k + 1) y0 y1 y2 y3 y4 y5 y6 y7 y8 y9 y10 y11 y12 y13 y14 y15)) ∧ (∀ y0 y1 y2 y3 y4 y5 y6 y7 y8 y9 y10 y11 y12 y13 y14 y15, LeO (impl_Chart_complete.l2 k y0 y1 y2 y3 y4 y5 y6 y7 y8 y9 y10 y11 y12 y13 y14 y15) (impl_Chart_complete.l2 (k + 1) y0 y1 y2 y3 y4 y5 y6 y7 y8 y9 y10 y11 y12 y13 y14 y15))
  | 0 => ⟨fun _ _ _ _ _ _ _ _ _ _ _ r h => by simp [impl_Chart_complete.l0] at h, fun _ _ _ _ _ _ _ _ _ _ _ _ _ _ _ _ r h => by simp [impl_Chart_complete.l1] at h, fun _ _ _ _ _ _ _ _ _ _ _ _ _ _ _ _ r h => by simp [impl_Chart_complete.l2] at h⟩
  | k + 1 => by
    obtain ⟨ih0, ih1, ih2⟩ := impl_Chart_complete.mono_l k
    refine ⟨?_, ?_, ?_⟩
    · intro y0 y1 y2 y3 y4 y5 y6 y7 y8 y9 y10
      unfold impl_Chart_complete.l0
      repeat' first
      | (with_reducible exact ih0 _ _ _ _ _ _ _ _ _ _ _)
      | (with_reducible exact ih1 _ _ _ _ _ _ _ _ _ _ _ _ _ _ _ _)
      | (with_reducible exact ih2 _ _ _ _ _ _ _ _ _ _ _ _ _ _ _ _)
      | (with_reducible exact impl_orbits.mono _ _ _ _)
      | (with_reducible exact slices_Index_int_int.mono _ _ _)
      | (with_reducible exact slices_Max_int_int.mono _ _)
      | (with_reducible exact LeO.refl _)
      | (with_reducible exact LeO.none _)
      | (with_reducible refine LeO.ite ?_ ?_)
      | (with_reducible refine LeO.bind ?_ (fun _ => ?_))
      | exact ih0 _ _ _ _ _ _ _ _ _ _ _
      | exact ih1 _ _ _ _ _ _ _ _ _ _ _ _ _ _ _ _
      | exact ih2 _ _ _ _ _ _ _ _ _ _ _ _ _ _ _ _
      | exact impl_orbits.mono _ _ _ _
      | exact slices_Index_int_int.mono _ _ _
      | exact slices_Max_int_int.mono _ _
      | exact LeO.none _
      | refine LeO.ite ?_ ?_
      | refine LeO.bind ?_ (fun _ => ?_)
    · intro y0 y1 y2 y3 y4 y5 y6 y7 y8 y9 y10 y11 y12 y13 y14 y15
      unfold impl_Chart_complete.l1
      repeat' first
      | (with_reducible exact ih0 _ _ _ _ _ _ _ _ _ _ _)
      | (with_reducible exact ih1 _ _ _ _ _ _ _ _ _ _ _ _ _ _ _ _)
      | (with_reducible exact ih2 _ _ _ _ _ _ _ _ _ _ _ _ _ _ _ _)
      | (with_reducible exact impl_orbits.mono _ _ _ _)
      | (with_reducible exact slices_Index_int_int.mono _ _ _)
      | (with_reducible exact slices_Max_int_int.mono _ _)
      | (with_reducible exact LeO.refl _)
      | (with_reducible exact LeO.none _)
      | (with_reducible refine LeO.ite ?_ ?_)
      | (with_reducible refine LeO.bind ?_ (fun _ => ?_))
      | exact ih0 _ _ _ _ _ _ _ _ _ _ _
      | exact ih1 _ _ _ _ _ _ _ _ _ _ _ _ _ _ _ _
      | exact ih2 _ _ _ _ _ _ _ _ _ _ _ _ _ _ _ _
      | exact impl_orbits.mono _ _ _ _
      | exact slices_Index_int_int.mono _ _ _
      | exact slices_Max_int_int.mono _ _
      | exact LeO.none _
      | refine LeO.ite ?_ ?_
      | refine LeO.bind ?_ (fun _ => ?_)
    · intro y0 y1 y2 y3 y4 y5 y6 y7 y8 y9 y10 y11 y12 y13 y14 y15
      unfold impl_Chart_complete.l2
      repeat' first
      | (with_reducible exact ih0 _ _ _ _ _ _ _ _ _ _ _)
      | (with_reducible exact ih1 _ _ _ _ _ _ _ _ _ _ _ _ _ _ _ _)
      | (with_reducible exact ih2 _ _ _ _ _ _ _ _ _ _ _ _ _ _ _ _)
      | (with_reducible exact impl_orbits.mono _ _ _ _)
      | (with_reducible exact slices_Index_int_int.mono _ _ _)
      | (with_reducible exact slices_Max_int_int.mono _ _)
      | (with_reducible exact LeO.refl _)
      | (with_reducible exact LeO.none _)
      | (with_reducible refine LeO.ite ?_ ?_)
      | (with_reducible refine LeO.bind ?_ (fun _ => ?_))
      | exact ih0 _ _ _ _ _ _ _ _ _ _ _
      | exact ih1 _ _ _ _ _ _ _ _ _ _ _ _ _ _ _ _
      | exact ih2 _ _ _ _ _ _ _ _ _ _ _ _ _ _ _ _
      | exact impl_orbits.mono _ _ _ _
      | exact slices_Index_int_int.mono _ _ _
      | exact slices_Max_int_int.mono _ _
      | exact LeO.none _
      | refine LeO.ite ?_ ?_
      | refine LeO.bind ?_ (fun _ => ?_)
theorem impl_Chart_complete.mono : ∀ a0 a1 a2 a3 k, LeO (impl_Chart_complete.f k a0 a1 a2 a3) (impl_Chart_complete.f (k + 1) a0 a1 a2 a3) := by
  intro a0 a1 a2 a3 k
  obtain ⟨ih0, ih1, ih2⟩ := impl_Chart_complete.mono_l k
  unfold impl_Chart_complete.f
  repeat' first
      | (with_reducible exact ih0 _ _ _ _ _ _ _ _ _ _ _)
      | (with_reducible exact ih1 _ _ _ _ _ _ _ _ _ _ _ _ _ _ _ _)
      | (with_reducible exact ih2 _ _ _ _ _ _ _ _ _ _ _ _ _ _ _ _)
      | (with_reducible exact impl_orbits.mono _ _ _ _)
      | (with_reducible exact slices_Index_int_int.mono _ _ _)
      | (with_reducible exact slices_Max_int_int.mono _ _)
      | (with_reducible exact LeO.refl _)
      | (with_reducible exact LeO.none _)
      | (with_reducible refine LeO.ite ?_ ?_)
      | (with_reducible refine LeO.bind ?_ (fun _ => ?_))
      | exact ih0 _ _ _ _ _ _ _ _ _ _ _
      | exact ih1 _ _ _ _ _ _ _ _ _ _ _ _ _ _ _ _
      | exact ih2 _ _ _ _ _ _ _ _ _ _ _ _ _ _ _ _
      | exact impl_orbits.mono _ _ _ _
      | exact slices_Index_int_int.mono _ _ _
      | exact slices_Max_int_int.mono _ _
      | exact LeO.none _
      | refine LeO.ite ?_ ?_
      | refine LeO.bind ?_ (fun _ => ?_)
def impl_Chart_complete.T17 : Bool × List (List Nat × List Nat) := (true, [([], []), ([0], [0]), ([], []), ([], []), ([], []), ([3, 4], [3, 4]), ([1, 2, 0, 1, 2, 3, 4, 5], [1, 2]), ([6, 5, 5, 0, 1, 2, 3, 4, 5], [5, 6])])
def impl_Chart_complete.B17 : List Nat := [0, 1, 0, 0, 0, 24, 63, 127]
theorem impl_Chart_complete.tab17 : rtab .any (opsOf Try.f147 17) = impl_Chart_complete.T17 := by kernel_rfl
theorem impl_Chart_complete.bits17 : waitsOk impl_Chart_complete.T17.2 impl_Chart_complete.B17 = true := by kernel_rfl
set_option maxHeartbeats 8000000 in
set_option maxRecDepth 100000 in
theorem impl_Chart_complete.calls (k : Nat) (a0_0 : Int) (a0_1 : Int) (A0_2 : Option Addr) (c0_2 : Nat) (l0_2 : List Int) (a1 : Int) (r1 : Int) (r2 : Int) (r3 : List Int) (r4 : Int) (r5 : Bool) (w : World) (hr0_2 : Kd.C (Kd.int .i64) w A0_2 l0_2.length l0_2) (hc0_2 : l0_2.length ≤ c0_2) (h : impl_Chart_complete.f k a0_0 a0_1 l0_2 a1 = some (r1, r2, r3, r4, r5)) :
  Calls Try.prog 147 #[.agg #[.int .i64 a0_0, .int .i64 a0_1, .slice A0_2 l0_2.length c0_2], .int .i64 a1] w fun e w' => ∃ v2_ : Value, e = .returned (.tuple #[.agg #[.int .i64 r1, .int .i64 r2, v2_], .int .i64 r4, .bool r5]) ∧ Kd.R (Kd.int .i64) 3 w' w.heap.size (fun _ => True) v2_ r3 ∧ Below w.heap.size w w' := by
 have hu26 := Try.underlying26
 have HR0_2 := Aside0.mk hr0_2
 have HC0_2 := Aside0.mk hc0_2
 clear hr0_2 hc0_2
 have HB := Aside0.mk (Below.refl w.heap.size w)
 have H : ((impl_orbits.f k a0_0 a0_1 a1).bind fun bt384 => ((impl_Chart_copied.f a0_0 a0_1 l0_2).bind fun bt388 => (impl_Chart_complete.l0 k bt384.2 0 bt384.1 (bt384.1.length : Int) 0 a0_0 a0_1 l0_2 bt388.1 bt388.2.1 bt388.2.2))) = some (r1, r2, r3, r4, r5) := h
 clear h
 replace H := Option.bind_eq_some_iff.mp H
 obtain ⟨⟨t384, t385⟩, A30, H⟩ := H
 replace H : ((impl_Chart_copied.f a0_0 a0_1 l0_2).bind fun bt388 => (impl_Chart_complete.l0 k t385 0 t384 (t384.length : Int) 0 a0_0 a0_1 l0_2 bt388.1 bt388.2.1 bt388.2.2)) = some (r1, r2, r3, r4, r5) := H
 have A3 := Aside0.mk A30
 clear A30
 replace H := Option.bind_eq_some_iff.mp H
 obtain ⟨⟨t388, t389, t390⟩, A40, H⟩ := H
 replace H : (impl_Chart_complete.l0 k t385 0 t384 (t384.length : Int) 0 a0_0 a0_1 l0_2 t388 t389 t390) = some (r1, r2, r3, r4, r5) := H
 have A4 := Aside0.mk A40
 clear A40
 have H' := Aside0.mk H
 clear H
 go_enter Try.func147, Try.ntmps147
 go_wp2_with (first | ((with_reducible refine gate_dst (N := 2) rfl ?_); refine box_ (N := 2) (cs := #[.int .i64 a0_0, .int .i64 a0_1, .slice A0_2 l0_2.length c0_2]) (t := 26) ?_; intro gb382 hg w5 hbox hb; have BK382 := Aside0.mk (hbox); have GW382 := gz_ w hg; have GE382 := gz_ w hg; replace HB := Aside0.mk (below_step (bw_ w) hb); clear hb hbox hg) | ((with_reducible refine gate_dst (N := 4) rfl ?_); refine box_ (N := 4) (cs := #[.int .i64 0, .int .i64 0, .slice none 0 0]) (t := 26) ?_; intro gb383 hg w6 hbox hb; have n0_ := bb_ BK382 hb; have n1_ := Aside0.mk (below_step (bw_ w) hb); have n2_ := Aside0.mk (hbox); have n3_ := gz_ w hg; have n4_ := gz_ w hg; have n5_ := ne_ hg BK382; have n6_ := en_ hg BK382; clear BK382; clear HB; have BK382 := n0_; have HB := n1_; have BK383 := n2_; have GW383 := n3_; have GE383 := n4_; have NB382_383 := n5_; have NB383_382 := n6_; clear n0_ n1_ n2_ n3_ n4_ n5_ n6_; clear hb hbox hg; have hnb7 := NB382_383.out; have hnc7 := NB383_382.out; obtain ⟨hcz8_0, hcz8_1, hcz8_2, hfz8_0, hfz8_1, hfz8_2⟩ := bc3_ (w := w6) BK382) | ((with_reducible refine gate_callee (f := 236) rfl ?_); refine goesB (some 25) Try.func236 #[.int .i64 a0_0, .int .i64 a0_1, .int .i64 a1] ?_; (with_reducible refine (impl_orbits.calls k a0_0 a0_1 a1 t384 t385 _ A3.out).mono ?_); rintro e w9 ⟨v386, rfl, ho0, hb⟩; refine ⟨_, rfl, ?_⟩; have HO387 := Aside0.mk (Kd.S_lower ho0 (below_size (bw_ w))); replace BK382 := bb_ BK382 hb; replace BK383 := bb_ BK383 hb; replace HB := Aside0.mk (below_step (bw_ w) hb); (try clear hb); (try clear hb2); (try clear hk); (try clear hi); (try clear ho0); obtain ⟨hcz10_0, hcz10_1, hcz10_2, hfz10_0, hfz10_1, hfz10_2⟩ := bc3_ (w := w9) BK382) | ((with_reducible refine gate_callee (f := 140) rfl ?_); refine goesB (some 29) Try.func140 #[.agg #[.int .i64 a0_0, .int .i64 a0_1, .slice A0_2 l0_2.length c0_2]] ?_; (with_reducible refine (impl_Chart_copied.calls a0_0 a0_1 _ _ l0_2 t388 t389 t390 _ ?side1 ?side2 A4.out).mono ?_); (case side1 => exact cb_ HR0_2 HB); (case side2 => exact HC0_2.out); rintro e w11 ⟨v391, rfl, ho0, hb⟩; refine ⟨_, rfl, ?_⟩; have n0_ := Aside0.mk (Kd.S_elder' (by (with_reducible repeat (first | apply Kd.S_alloc | apply Kd.S_drewN | apply Kd.S_drew)); exact HO387.out) (Kd.R_base ho0) hb); have n1_ := Aside0.mk (Kd.R_lower ho0 (below_size (bw_ w))); have n2_ := bb_ BK382 hb; have n3_ := bb_ BK383 hb; have n4_ := Aside0.mk (below_step (bw_ w) hb); clear HO387; clear BK382; clear BK383; clear HB; have HO387 := n0_; have HO392 := n1_; have BK382 := n2_; have BK383 := n3_; have HB := n4_; clear n0_ n1_ n2_ n3_ n4_; (try clear hb); (try clear hb2); (try clear hk); (try clear hi); (try clear ho0)) | ((with_reducible refine gate_dst (N := 9) rfl ?_); refine box_ (N := 9) (cs := #[.int .i64 0, .int .i64 0, .slice none 0 0]) (t := 26) ?_; intro gb393 hg w12 hbox hb; have n0_ := Aside0.mk (Kd.S_below (by (with_reducible repeat (first | apply Kd.S_alloc | apply Kd.S_drewN | apply Kd.S_drew)); exact HO387.out) hb); have n1_ := Aside0.mk (Kd.R_below (ra_ HO392) hb); have n2_ := bb_ BK382 hb; have n3_ := bb_ BK383 hb; have n4_ := Aside0.mk (below_step (bw_ w) hb); have n5_ := Aside0.mk (hbox); have n6_ := gz_ w hg; have n7_ := gz_ w hg; have n8_ := ne_ hg BK382; have n9_ := en_ hg BK382; have n10_ := ne_ hg BK383; have n11_ := en_ hg BK383; clear HO387; clear HO392; clear BK382; clear BK383; clear HB; have HO387 := n0_; have HO392 := n1_; have BK382 := n2_; have BK383 := n3_; have HB := n4_; have BK393 := n5_; have GW393 := n6_; have GE393 := n7_; have NB382_393 := n8_; have NB393_382 := n9_; have NB383_393 := n10_; have NB393_383 := n11_; clear n0_ n1_ n2_ n3_ n4_ n5_ n6_ n7_ n8_ n9_ n10_ n11_; clear hb hbox hg; have hnb13 := NB393_382.out; have hnc13 := NB382_393.out; have hnb14 := NB393_383.out; have hnc14 := NB383_393.out; obtain ⟨hcz15_0, hcz15_1, hcz15_2, hfz15_0, hfz15_1, hfz15_2⟩ := bc3_ (w := w12) BK393; obtain ⟨Ao16, co16, eo16⟩ := Kd.R_slice HO392.out; subst eo16; obtain ⟨Ao17, co17, eo17⟩ := Kd.S_slice HO387.out; subst eo17))
 go_loopg [10, 32] k (fun kq v10 v32 w' => ∃ (x10_1 : Int) (x32_1 : Int) (x394002_1 : List Int) (u394002 : Value), v10 = .int .i64 x10_1 ∧ v32 = .int .i64 x32_1 ∧ Aside0 (impl_Chart_complete.l0 kq t385 x10_1 t384 (t384.length : Int) x32_1 a0_0 a0_1 l0_2 t388 t389 x394002_1 = some (r1, r2, r3, r4, r5)) ∧ Aside0 (kq ≤ k) ∧ Aside0 (Kd.S (Kd.slice 3 (Kd.int .i64)) 22 w' w.heap.size (fun k_ => some k_ ≠ (u394002 : Value).ownBlock) (.slice Ao17 t384.length co17) t384) ∧ Aside0 (Kd.R (Kd.int .i64) 3 w' w.heap.size (fun _ => True) u394002 x394002_1) ∧ Aside0 (w'.heap[gb382]? = some (.cells #[.int .i64 a0_0, .int .i64 a0_1, (.slice A0_2 l0_2.length c0_2)] 26 (0, 0))) ∧ Aside0 (w'.heap[gb383]? = some (.cells #[.int .i64 0, .int .i64 0, (.slice none 0 0)] 26 (0, 0))) ∧ Aside0 (w'.heap[gb393]? = some (.cells #[.int .i64 t388, .int .i64 t389, u394002] 26 (0, 0))) ∧ Aside0 (Below w.heap.size w w'))
 case atStart => exact ⟨(0), (0), (t390), (.slice Ao16 t390.length co16), (by first | rfl | (simp; done) | (simp [*]; done)), (by first | rfl | (simp; done) | (simp [*]; done)), H', ⟨Nat.le_refl _⟩, ⟨by (with_reducible repeat (first | apply Kd.S_alloc | apply Kd.S_drewN | apply Kd.S_drew)); exact Kd.S_mono (Kd.S_far (p := ⟨gb393, 2, none⟩) (Kd.S_far (p := ⟨gb393, 1, none⟩) (Kd.S_far (p := ⟨gb393, 0, none⟩) (Kd.S_types HO387.out BK393.out (by decide)) (fun _ hk => hk.2) (.int .i64 t388)) (fun _ hk => hk.2) (.int .i64 t389)) (fun _ hk => hk.2) (.slice Ao16 t390.length co16)) (fun _ hk => hk.1.2)⟩, ⟨by exact rf_ (Kd.R_types HO392.out BK393.out (by decide)) (fun _ hk => trivial)⟩, ⟨bk_ BK382⟩, ⟨bk_ BK383⟩, ⟨bq_ BK393⟩, ⟨(bw_ w)⟩⟩
 case round =>
  clear H'
  try clear c1
  try clear c2
  try clear p2
  try clear c7
  try clear c13
  try clear c14
  try clear hcz10_0
  try clear hcz10_1
  try clear hcz10_2
  try clear hcz15_0
  try clear hcz15_1
  try clear hcz15_2
  try clear hcz8_0
  try clear hcz8_1
  try clear hcz8_2
  try clear hfz10_0
  try clear hfz10_1
  try clear hfz10_2
  try clear hfz15_0
  try clear hfz15_1
  try clear hfz15_2
  try clear hfz8_0
  try clear hfz8_1
  try clear hfz8_2
  obtain ⟨x10_1, x32_1, x394002_1, u394002, rfl, rfl, HA, HK1, HO_30, HO_394002, BK382, BK383, BK393, HB⟩ := hrel
  cases gk with
  | zero => exact absurd HA.out (by simp [impl_Chart_complete.l0])
  | succ k1 =>
   have H := HA.out
   clear HA
   simp only [impl_Chart_complete.l0] at H
   by_cases c18 : x32_1 < (t384.length : Int)
   ·rw [if_pos c18] at H
    have c18b0 : decide (x32_1 < (t384.length : Int)) = true := decide_eq_true c18
    clear c18
    by_cases c19 : 0 ≤ x32_1
    ·rw [if_pos c19] at H
     have c19b0 : decide (0 ≤ x32_1) = true := decide_eq_true c19
     clear c19
     by_cases c20 : x32_1 < (t384.length : Int)
     ·rw [if_pos c20] at H
      have c20b0 : decide (x32_1 < (t384.length : Int)) = true := decide_eq_true c20
      clear c20
      by_cases c21 : 6 ≤ 35184372088832
      ·rw [if_pos c21] at H
       have c21b0 := eq_true c21
       have c21b1 : decide (6 ≤ 35184372088832) = true := decide_eq_true c21
       clear c21
       obtain ⟨y395, hy395⟩ : ∃ y_ : List Int, y_ = (List.replicate 6 0) := ⟨_, rfl⟩
       replace H : (impl_Chart_complete.l1 k1 t385 x10_1 (rd_L1 t384 x32_1) t384 (t384.length : Int) x32_1 y395 (rd_L1 t384 x32_1) ((rd_L1 t384 x32_1).length : Int) 0 a0_0 a0_1 l0_2 t388 t389 x394002_1) = some (r1, r2, r3, r4, r5) := by first | (rw [hy395]; with_reducible exact H) | (have H2_ := (Option.bind_some _ _).symm.trans H; rw [hy395]; with_reducible exact H2_) | (have H2_ := (Option.bind_some _ _).symm.trans H; with_reducible exact H2_) | with_reducible exact H | (rw [hy395]; exact H) | exact H
       have Ny395 := Aside0.mk hy395
       clear hy395
       have H' := Aside0.mk H
       clear H
       have p394 : 0 ≤ (x32_1 : Int) := of_decide_eq_true (by first | (with_reducible assumption) | assumption)
       have q394 : x32_1 < (t384.length : Int) := of_decide_eq_true (by first | (with_reducible assumption) | assumption)
       obtain ⟨ad394, A394_0, c394_0, e394, hx394_0, hl394_0, hi394_0⟩ := at_L1 (Kd.S_reads' HO_30.out).2.2 x32_1 p394 q394
       cases e394
       obtain ⟨ce394, hce394, hMe394, hcc394⟩ := Kd.S_get HO_30.out [] x32_1 p394 (by first | exact q394 | exact of_decide_eq_true (by first | (with_reducible assumption) | assumption) | (have e_ := (Kd.S_reads' HO_30.out).1; omega))
       obtain ⟨ve394_0, rfl, ge394_0⟩ := hMe394
       have hv394_0 := hcc394 0 _ rfl
       rw [Nat.add_zero, show ((Kd.slice 3 (Kd.int .i64))).sz = 1 from rfl, Nat.mul_one] at hv394_0
       replace hv394_0 := Option.some.inj (hv394_0.symm.trans hx394_0)
       rw [hv394_0] at ge394_0
       have HL394_0 := Aside0.mk (show Kd.R (Kd.int .i64) 3 _ _ _ _ (rd_L1 t384 x32_1) from ge394_0)
       clear hv394_0 ge394_0
       clear hcc394 hce394
       have HR394_0 := Aside0.mk hi394_0
       have HC394_0 := Aside0.mk hl394_0
       clear hi394_0 hl394_0
       replace p394 := eq_true p394
       replace q394 := eq_true q394
       go_wp2_with (first | ((with_reducible refine gate_dst (N := 36) rfl ?_); refine Kd.R_make (Kd.int .i64) _ 3 rfl (N := 36) rfl 22 _ _ rfl 6 rfl rfl Try.underlying22 (.int .i64 0) 8 info3 rfl (by decide) (by omega) 0 (ok := fun _ => True) (okp := fun _ => True) rfl (fun _ hk => hk) trivial (by omega) (by omega) (Below.refl _ _) (Nat.le_refl _) ?_; intro v396 w22 ho23 hb hg_ hnew_; clear hg_ hnew_; (first | rw [← Ny395.out] at ho23 | (simp only [Int.reduceToNat] at ho23; rw [← Ny395.out] at ho23)); have n0_ := Aside0.mk (Kd.S_elder' (by (with_reducible repeat (first | apply Kd.S_alloc | apply Kd.S_drewN | apply Kd.S_drew)); exact HO_30.out) (Kd.R_base ho23) hb); have n1_ := Aside0.mk (Kd.R_elder' (ra_ HO_394002) (Kd.R_base ho23) hb); have n2_ := Aside0.mk (Kd.R_elder' (by (with_reducible repeat (first | apply Kd.R_alloc | apply Kd.R_drewN | apply Kd.R_drew)); exact HL394_0.out) (Kd.R_base ho23) hb); have n3_ := Aside0.mk (Kd.R_lower (Kd.R_new' (Kd.R_new' ho23 (Kd.R_lt (ra_ HO_394002))) (Kd.R_lt (by (with_reducible repeat (first | apply Kd.R_alloc | apply Kd.R_drewN | apply Kd.R_drew)); exact HL394_0.out))) (below_size (bw_ w))); have n4_ := bb_ BK382 hb; have n5_ := bb_ BK383 hb; have n6_ := bb_ BK393 hb; have n7_ := Aside0.mk (Kd.C_below (by repeat (first | (with_reducible exact HR394_0.out) | (with_reducible refine Kd.C_alloc ?_ _) | (with_reducible refine Kd.C_drewN ?_ _) | (with_reducible refine Kd.C_drew ?_) | exact HR394_0.out)) hb); have n8_ := Aside0.mk (below_step (bw_ w) hb); clear HO_30; clear HO_394002; clear HL394_0; clear BK382; clear BK383; clear BK393; clear HR394_0; clear HB; have HO_30 := n0_; have HO_394002 := n1_; have HL394_0 := n2_; have HO397 := n3_; have BK382 := n4_; have BK383 := n5_; have BK393 := n6_; have HR394_0 := n7_; have HB := n8_; clear n0_ n1_ n2_ n3_ n4_ n5_ n6_ n7_ n8_; clear hb ho23))
       go_loopg [39] k1 (fun kq v39 w' => ∃ (x36_2 : List Int) (x39_2 : Int), v39 = .int .i64 x39_2 ∧ Aside0 (impl_Chart_complete.l1 kq t385 x10_1 (rd_L1 t384 x32_1) t384 (t384.length : Int) x32_1 x36_2 (rd_L1 t384 x32_1) ((rd_L1 t384 x32_1).length : Int) x39_2 a0_0 a0_1 l0_2 t388 t389 x394002_1 = some (r1, r2, r3, r4, r5)) ∧ Aside0 (kq ≤ k1) ∧ Aside0 (Kd.R (Kd.int .i64) 3 w' w.heap.size (fun k_ => some k_ ≠ (v396 : Value).ownBlock ∧ some k_ ≠ (u394002 : Value).ownBlock) (.slice A394_0 (rd_L1 t384 x32_1).length c394_0) (rd_L1 t384 x32_1)) ∧ Aside0 (Kd.S (Kd.slice 3 (Kd.int .i64)) 22 w' w.heap.size (fun k_ => some k_ ≠ (v396 : Value).ownBlock ∧ some k_ ≠ (u394002 : Value).ownBlock) (.slice (some ad394) t384.length co17) t384) ∧ Aside0 (Kd.R (Kd.int .i64) 3 w' w.heap.size (fun k_ => some k_ ≠ ((.slice A394_0 (rd_L1 t384 x32_1).length c394_0) : Value).ownBlock ∧ some k_ ≠ ((.slice A394_0 (rd_L1 t384 x32_1).length c394_0) : Value).ownBlock ∧ some k_ ≠ (u394002 : Value).ownBlock) v396 x36_2) ∧ Aside0 (Kd.R (Kd.int .i64) 3 w' w.heap.size (fun k_ => some k_ ≠ (v396 : Value).ownBlock ∧ some k_ ≠ (u394002 : Value).ownBlock) (.slice A394_0 (rd_L1 t384 x32_1).length c394_0) (rd_L1 t384 x32_1)) ∧ Aside0 (Kd.R (Kd.int .i64) 3 w' w.heap.size (fun k_ => some k_ ≠ ((.slice A394_0 (rd_L1 t384 x32_1).length c394_0) : Value).ownBlock ∧ some k_ ≠ (v396 : Value).ownBlock ∧ some k_ ≠ ((.slice A394_0 (rd_L1 t384 x32_1).length c394_0) : Value).ownBlock) u394002 x394002_1) ∧ Aside0 (w'.heap[gb382]? = some (.cells #[.int .i64 a0_0, .int .i64 a0_1, (.slice A0_2 l0_2.length c0_2)] 26 (0, 0))) ∧ Aside0 (w'.heap[gb383]? = some (.cells #[.int .i64 0, .int .i64 0, (.slice none 0 0)] 26 (0, 0))) ∧ Aside0 (w'.heap[gb393]? = some (.cells #[.int .i64 t388, .int .i64 t389, u394002] 26 (0, 0))) ∧ Aside0 (Below w.heap.size w w'))
       case atStart => exact ⟨(y395), (0), (by first | rfl | (simp; done) | (simp [*]; done)), H', ⟨Nat.le_refl _⟩, ⟨by (with_reducible repeat (first | apply Kd.R_alloc | apply Kd.R_drewN | apply Kd.R_drew)); exact Kd.R_mono HL394_0.out (fun _ hk => ⟨hk.2, hk.1.1⟩)⟩, ⟨by (with_reducible repeat (first | apply Kd.S_alloc | apply Kd.S_drewN | apply Kd.S_drew)); exact Kd.S_mono HO_30.out (fun _ hk => ⟨hk.2, hk.1⟩)⟩, ⟨by exact rf_ HO397.out (fun _ hk => ⟨hk.2, ⟨hk.2, hk.1.2⟩⟩)⟩, ⟨by (with_reducible repeat (first | apply Kd.R_alloc | apply Kd.R_drewN | apply Kd.R_drew)); exact Kd.R_mono HL394_0.out (fun _ hk => ⟨hk.2, hk.1.1⟩)⟩, ⟨by (with_reducible repeat (first | apply Kd.R_alloc | apply Kd.R_drewN | apply Kd.R_drew)); exact Kd.R_mono (Kd.R_mono (Kd.R_tight2 rfl HO_394002.out) (fun k_ hk => (⟨hk.2, fun e_ => ((HL394_0.out.1 k_ e_.symm).1.1) hk.1⟩ : _ ∧ some k_ ≠ (.slice A394_0 (rd_L1 t384 x32_1).length c394_0 : Value).ownBlock))) (fun _ hk => ⟨hk.2, ⟨hk.1.2, hk.2⟩⟩)⟩, ⟨bk_ BK382⟩, ⟨bk_ BK383⟩, ⟨bk_ BK393⟩, ⟨(bw_ w)⟩⟩
       case round =>
        clear H'
        try clear c1
        try clear c2
        try clear p2
        try clear c3
        try clear p3
        try clear q3
        try clear hx3
        try clear c7
        try clear c13
        try clear c14
        try clear c18
        try clear c18b0
        try clear c19
        try clear c19b0
        try clear c20
        try clear c20b0
        try clear c21
        try clear c21b0
        try clear c21b1
        try clear c23
        try clear hcz10_0
        try clear hcz10_1
        try clear hcz10_2
        try clear hcz15_0
        try clear hcz15_1
        try clear hcz15_2
        try clear hcz8_0
        try clear hcz8_1
        try clear hcz8_2
        try clear hfz10_0
        try clear hfz10_1
        try clear hfz10_2
        try clear hfz15_0
        try clear hfz15_1
        try clear hfz15_2
        try clear hfz8_0
        try clear hfz8_1
        try clear hfz8_2
        try clear hx394_0
        try clear p2
        try clear p394
        try clear q394
        obtain ⟨x36_2, x39_2, rfl, HA, HK2, HO_12, HO_30, HO_36, HO_37, HO_394002, BK382, BK383, BK393, HB⟩ := hrel
        cases gk with
        | zero => exact absurd HA.out (by simp [impl_Chart_complete.l1])
        | succ k2 =>
         have H := HA.out
         clear HA
         simp only [impl_Chart_complete.l1] at H
         by_cases c24 : x39_2 < ((rd_L1 t384 x32_1).length : Int)
         ·rw [if_pos c24] at H
          have c24b0 : decide (x39_2 < ((rd_L1 t384 x32_1).length : Int)) = true := decide_eq_true c24
          clear c24
          by_cases c25 : 0 ≤ x39_2
          ·rw [if_pos c25] at H
           have c25b0 : decide (0 ≤ x39_2) = true := decide_eq_true c25
           clear c25
           by_cases c26 : x39_2 < ((rd_L1 t384 x32_1).length : Int)
           ·rw [if_pos c26] at H
            have c26b0 : decide (x39_2 < ((rd_L1 t384 x32_1).length : Int)) = true := decide_eq_true c26
            clear c26
            by_cases c27 : 0 ≤ (rd (rd_L1 t384 x32_1) x39_2)
            ·rw [if_pos c27] at H
             have c27b0 : decide (0 ≤ (rd (rd_L1 t384 x32_1) x39_2)) = true := decide_eq_true c27
             clear c27
             by_cases c28 : (rd (rd_L1 t384 x32_1) x39_2) < (l0_2.length : Int)
             ·rw [if_pos c28] at H
              have c28b0 : decide ((rd (rd_L1 t384 x32_1) x39_2) < (l0_2.length : Int)) = true := decide_eq_true c28
              clear c28
              by_cases c29 : 0 ≤ (rd l0_2 (rd (rd_L1 t384 x32_1) x39_2))
              ·rw [if_pos c29] at H
               have c29b0 : decide (0 ≤ (rd l0_2 (rd (rd_L1 t384 x32_1) x39_2))) = true := decide_eq_true c29
               clear c29
               by_cases c30 : (rd l0_2 (rd (rd_L1 t384 x32_1) x39_2)) < (x36_2.length : Int)
               ·rw [if_pos c30] at H
                have c30b0 : decide ((rd l0_2 (rd (rd_L1 t384 x32_1) x39_2)) < (x36_2.length : Int)) = true := decide_eq_true c30
                clear c30
                obtain ⟨y401, hy401⟩ : ∃ y_ : List Int, y_ = (x36_2.set ((rd l0_2 (rd (rd_L1 t384 x32_1) x39_2)) : Int).toNat (wrap64 ((rd x36_2 (rd l0_2 (rd (rd_L1 t384 x32_1) x39_2))) + 1))) := ⟨_, rfl⟩
                replace H : (impl_Chart_complete.l1 k2 t385 x10_1 (rd_L1 t384 x32_1) t384 (t384.length : Int) x32_1 y401 (rd_L1 t384 x32_1) ((rd_L1 t384 x32_1).length : Int) (wrap64 (x39_2 + 1)) a0_0 a0_1 l0_2 t388 t389 x394002_1) = some (r1, r2, r3, r4, r5) := by first | (rw [hy401]; with_reducible exact H) | (have H2_ := (Option.bind_some _ _).symm.trans H; rw [hy401]; with_reducible exact H2_) | (have H2_ := (Option.bind_some _ _).symm.trans H; with_reducible exact H2_) | with_reducible exact H | (rw [hy401]; exact H) | exact H
                have Ny401 := Aside0.mk hy401
                clear hy401
                have H' := Aside0.mk H
                clear H
                have p398 : 0 ≤ (x39_2 : Int) := of_decide_eq_true (by first | (with_reducible assumption) | assumption)
                have q398 : x39_2 < ((rd_L1 t384 x32_1).length : Int) := of_decide_eq_true (by first | (with_reducible assumption) | assumption)
                obtain ⟨ad398, e398, hx398_0⟩ := Kd.at_int (Kd.R_reads' HO_37.out).2.2 x39_2 p398 q398
                cases e398
                replace p398 := eq_true p398
                replace q398 := eq_true q398
                have hnb32 := NB382_383.out
                have hnc32 := NB383_382.out
                have hnb33 := NB382_393.out
                have hnc33 := NB393_382.out
                obtain ⟨hcz34_0, hcz34_1, hcz34_2, hfz34_0, hfz34_1, hfz34_2⟩ := bc3_ (w := wr) BK382
                have p399 : 0 ≤ ((rd (rd_L1 t384 x32_1) x39_2) : Int) := of_decide_eq_true (by first | (with_reducible assumption) | assumption)
                have q399 : (rd (rd_L1 t384 x32_1) x39_2) < (l0_2.length : Int) := of_decide_eq_true (by first | (with_reducible assumption) | assumption)
                obtain ⟨ad399, e399, hx399_0⟩ := Kd.at_int HR0_2.out (rd (rd_L1 t384 x32_1) x39_2) p399 q399
                cases e399
                replace hx399_0 := (HB.out.cell (World.block_lt_of_cell? w _ hx399_0)).trans hx399_0
                replace p399 := eq_true p399
                replace q399 := eq_true q399
                obtain ⟨Ao35, co35, eo35⟩ := Kd.R_slice HO_36.out
                subst eo35
                have p400 : 0 ≤ ((rd l0_2 (rd (rd_L1 t384 x32_1) x39_2)) : Int) := of_decide_eq_true (by first | (with_reducible assumption) | assumption)
                have q400 : (rd l0_2 (rd (rd_L1 t384 x32_1) x39_2)) < (x36_2.length : Int) := of_decide_eq_true (by first | (with_reducible assumption) | assumption)
                obtain ⟨ad400, e400, hx400_0⟩ := Kd.at_int (Kd.R_reads' HO_36.out).2.2 (rd l0_2 (rd (rd_L1 t384 x32_1) x39_2)) p400 q400
                cases e400
                replace p400 := eq_true p400
                replace q400 := eq_true q400
                have p31 : 0 ≤ ((rd l0_2 (rd (rd_L1 t384 x32_1) x39_2)) : Int) := of_decide_eq_true (by first | (with_reducible assumption) | assumption)
                have q31 : ((rd l0_2 (rd (rd_L1 t384 x32_1) x39_2)) : Int) < ((x36_2.length : Int) : Int) := of_decide_eq_true (by first | (with_reducible assumption) | assumption)
                obtain ⟨go31, co31, eo31, gb31, gl31, cl31, HG31⟩ := Kd.R_form HO_36.out (by omega)
                (first | cases eo31 | (injection eo31 with ea_ en_ ec_; (first | subst ea_ | (injection ea_ with ea_; subst ea_)); subst ec_; clear en_))
                have GB31 := Aside0.mk gb31
                have GG31 := Aside0.mk HG31
                clear gb31 gl31 HG31
                (first | simp only [add_plain] at hx400_0 | skip)
                obtain ⟨hx31_0, hf31_0⟩ := Kd.R_celln 0 HO_36.out ((rd l0_2 (rd (rd_L1 t384 x32_1) x39_2)) : Int) p31 q31
                replace p31 := eq_true p31
                replace q31 := eq_true q31
                have HP36 := Kd.R_putg HO_36.out ((rd l0_2 (rd (rd_L1 t384 x32_1) x39_2)) : Int) (wrap64 ((rd x36_2 (rd l0_2 (rd (rd_L1 t384 x32_1) x39_2))) + 1))
                go_wp2_with (first | ((with_reducible refine gate_store (t := 3) (p := 52) rfl ?_); refine store_event (t := 3) (p := 52) (v := ?vo_w37) (w1 := (wr.setCell ⟨go31, ((rd l0_2 (rd (rd_L1 t384 x32_1) x39_2)) : Int).toNat, none⟩ (.int .i64 (wrap64 ((rd x36_2 (rd l0_2 (rd (rd_L1 t384 x32_1) x39_2))) + 1))))) ?hg ?ho ?hn ?hr ?_; (case ho => rfl); (case hg => rfl); (case hn => rfl); (case hr => first | (go_simp; done) | (go_simp; rfl)); intro w37 hw; have hg : wr.grownBy w37 (some go31) := (by rw [hw]; exact HP36.2); have hp_ : Kd.R (Kd.int .i64) 3 w37 w.heap.size (fun k_ => some k_ ≠ (.slice (some ad398) (rd_L1 t384 x32_1).length c394_0 : Value).ownBlock ∧ some k_ ≠ (.slice (some ad398) (rd_L1 t384 x32_1).length c394_0 : Value).ownBlock ∧ some k_ ≠ (u394002 : Value).ownBlock) (.slice (some ⟨go31, 0, none⟩) x36_2.length co35) y401 := (by rw [hw, Ny401.out]; exact HP36.1); clear HP36; have n0_ := Aside0.mk (Kd.R_after (v := (.slice (some ⟨go31, 0, none⟩) x36_2.length co35)) (v1 := (.slice (some ⟨go31, 0, none⟩) x36_2.length co35)) (ok := (fun k_ => some k_ ≠ (u394002 : Value).ownBlock)) (by exact rf_ HO_12.out (fun _ hk => ⟨hk.2, hk.1⟩)) hg (.inl rfl)); have n1_ := Aside0.mk (Kd.S_after (v := (.slice (some ⟨go31, 0, none⟩) x36_2.length co35)) (v1 := (.slice (some ⟨go31, 0, none⟩) x36_2.length co35)) (ok := (fun k_ => some k_ ≠ (u394002 : Value).ownBlock)) (by (with_reducible repeat (first | apply Kd.S_alloc | apply Kd.S_drewN | apply Kd.S_drew)); exact Kd.S_mono HO_30.out (fun _ hk => ⟨hk.2, hk.1⟩)) hg (.inl rfl)); have n2_ := Aside0.mk (hp_); have n3_ := Aside0.mk (Kd.R_after (v := (.slice (some ⟨go31, 0, none⟩) x36_2.length co35)) (v1 := (.slice (some ⟨go31, 0, none⟩) x36_2.length co35)) (ok := (fun k_ => some k_ ≠ (u394002 : Value).ownBlock)) (by exact rf_ HO_37.out (fun _ hk => ⟨hk.2, hk.1⟩)) hg (.inl rfl)); have n4_ := Aside0.mk (Kd.R_after (v := (.slice (some ⟨go31, 0, none⟩) x36_2.length co35)) (v1 := (.slice (some ⟨go31, 0, none⟩) x36_2.length co35)) (ok := (fun k_ => some k_ ≠ (.slice (some ad398) (rd_L1 t384 x32_1).length c394_0 : Value).ownBlock ∧ some k_ ≠ (.slice (some ad398) (rd_L1 t384 x32_1).length c394_0 : Value).ownBlock)) (by exact rf_ HO_394002.out (fun _ hk => ⟨⟨hk.1, hk.2.2⟩, hk.2.1⟩)) hg (.inl rfl)); have n5_ := Aside0.mk (blk_grown (g := gb382) (o := .cells #[.int .i64 a0_0, .int .i64 a0_1, .slice (some ad399) l0_2.length c0_2] 26 (0, 0)) (bk_ BK382) hg (Kd.R_ne HO_36.out BK382.out (by decide))); have n6_ := Aside0.mk (blk_grown (g := gb383) (o := .cells #[.int .i64 0, .int .i64 0, .slice none 0 0] 26 (0, 0)) (bk_ BK383) hg (Kd.R_ne HO_36.out BK383.out (by decide))); have n7_ := Aside0.mk (blk_grown (g := gb393) (o := .cells #[.int .i64 t388, .int .i64 t389, u394002] 26 (0, 0)) (bk_ BK393) hg (Kd.R_ne HO_36.out BK393.out (by decide))); have n8_ := Aside0.mk ((by rw [hw]; exact below_set (HB.out) GB31.out : Below w.heap.size w w37)); clear HO_12; clear HO_30; clear HO_36; clear HO_37; clear HO_394002; clear BK382; clear BK383; clear BK393; clear HB; have HO_12 := n0_; have HO_30 := n1_; have HO_36 := n2_; have HO_37 := n3_; have HO_394002 := n4_; have BK382 := n5_; have BK383 := n6_; have BK393 := n7_; have HB := n8_; clear n0_ n1_ n2_ n3_ n4_ n5_ n6_ n7_ n8_; clear hg hw hp_))
                go_roundg k2
                case measure => have := HK1.out; have := HK2.out; omega
                case rel => exact ⟨(y401), (wrap64 (x39_2 + 1)), (by first | rfl | (simp; done) | (simp [*]; done)), H', ⟨by have := HK1.out; have := HK2.out; omega⟩, ⟨by exact rf_ HO_12.out (fun _ hk => ⟨hk.2, hk.1⟩)⟩, ⟨by (with_reducible repeat (first | apply Kd.S_alloc | apply Kd.S_drewN | apply Kd.S_drew)); exact Kd.S_mono HO_30.out (fun _ hk => ⟨hk.2, hk.1⟩)⟩, ⟨ra_ HO_36⟩, ⟨by exact rf_ HO_37.out (fun _ hk => ⟨hk.2, hk.1⟩)⟩, ⟨by exact rf_ HO_394002.out (fun _ hk => ⟨hk.1.1, ⟨hk.2, hk.1.2⟩⟩)⟩, ⟨bk_ BK382⟩, ⟨bk_ BK383⟩, ⟨bk_ BK393⟩, ⟨(bw_ w)⟩⟩
               ·rw [if_neg c30] at H
                exact absurd H (by simp)
              ·rw [if_neg c29] at H
               exact absurd H (by simp)
             ·rw [if_neg c28] at H
              exact absurd H (by simp)
            ·rw [if_neg c27] at H
             exact absurd H (by simp)
           ·rw [if_neg c26] at H
            exact absurd H (by simp)
          ·rw [if_neg c25] at H
           exact absurd H (by simp)
         ·rw [if_neg c24] at H
          have c24b0 : decide (x39_2 < ((rd_L1 t384 x32_1).length : Int)) = false := decide_eq_false c24
          clear c24
          replace H := Option.bind_eq_some_iff.mp H
          obtain ⟨t402, A380, H⟩ := H
          replace H : (impl_Chart_complete.l2 k2 t385 (wrap64 (x10_1 + (wrap64 (((rd_L1 t384 x32_1).length : Int) - t402)))) t402 t384 (t384.length : Int) x32_1 x36_2 (rd_L1 t384 x32_1) ((rd_L1 t384 x32_1).length : Int) 0 a0_0 a0_1 l0_2 t388 t389 x394002_1) = some (r1, r2, r3, r4, r5) := H
          have A38 := Aside0.mk A380
          clear A380
          have H' := Aside0.mk H
          clear H
          obtain ⟨Ao39, co39, eo39⟩ := Kd.R_slice HO_36.out
          subst eo39
          go_wp2_with (first | ((with_reducible refine gate_callee (f := 221) rfl ?_); refine goesB (some 55) Try.func221 #[.slice Ao39 x36_2.length co39] ?_; (with_reducible refine (slices_Max_int_int.calls k2 _ _ x36_2 t402 _ ?side1 ?side2 A38.out).mono ?_); (case side1 => exact co_ (Kd.R_reads' HO_36.out).2.2); (case side2 => exact (Kd.R_reads' HO_36.out).2.1); rintro e w40 ⟨rfl, hb⟩; refine ⟨_, rfl, ?_⟩; have n0_ := Aside0.mk (Kd.R_below (ra_ HO_12) hb); have n1_ := Aside0.mk (Kd.S_below (by (with_reducible repeat (first | apply Kd.S_alloc | apply Kd.S_drewN | apply Kd.S_drew)); exact HO_30.out) hb); have n2_ := Aside0.mk (Kd.R_below (ra_ HO_36) hb); have n3_ := Aside0.mk (Kd.R_below (ra_ HO_37) hb); have n4_ := Aside0.mk (Kd.R_below (ra_ HO_394002) hb); have n5_ := bb_ BK382 hb; have n6_ := bb_ BK383 hb; have n7_ := bb_ BK393 hb; have n8_ := Aside0.mk (below_step (bw_ w) hb); clear HO_12; clear HO_30; clear HO_36; clear HO_37; clear HO_394002; clear BK382; clear BK383; clear BK393; clear HB; have HO_12 := n0_; have HO_30 := n1_; have HO_36 := n2_; have HO_37 := n3_; have HO_394002 := n4_; have BK382 := n5_; have BK383 := n6_; have BK393 := n7_; have HB := n8_; clear n0_ n1_ n2_ n3_ n4_ n5_ n6_ n7_ n8_; (try clear hb); (try clear hb2); (try clear hk); (try clear hi)))
          go_loopg [64] k2 (fun kq v64 w' => ∃ (x54_3 : List Int) (x62_3 : List Int) (x64_3 : Int) (x394002_3 : List Int) (u394002 : Value), v64 = .int .i64 x64_3 ∧ Aside0 (impl_Chart_complete.l2 kq t385 (wrap64 (x10_1 + (wrap64 (((rd_L1 t384 x32_1).length : Int) - t402)))) t402 t384 (t384.length : Int) x32_1 x54_3 x62_3 ((rd_L1 t384 x32_1).length : Int) x64_3 a0_0 a0_1 l0_2 t388 t389 x394002_3 = some (r1, r2, r3, r4, r5)) ∧ Aside0 (kq ≤ k2) ∧ Aside0 (Kd.S (Kd.slice 3 (Kd.int .i64)) 22 w' w.heap.size (fun k_ => some k_ ≠ ((.slice Ao39 x36_2.length co39) : Value).ownBlock ∧ some k_ ≠ (u394002 : Value).ownBlock) (.slice (some ad394) t384.length co17) t384) ∧ Aside0 (Kd.R (Kd.int .i64) 3 w' w.heap.size (fun k_ => some k_ ≠ ((.slice A394_0 (rd_L1 t384 x32_1).length c394_0) : Value).ownBlock ∧ some k_ ≠ (u394002 : Value).ownBlock) (.slice Ao39 x36_2.length co39) x54_3) ∧ Aside0 (Kd.R (Kd.int .i64) 3 w' w.heap.size (fun k_ => some k_ ≠ ((.slice Ao39 x36_2.length co39) : Value).ownBlock ∧ some k_ ≠ (u394002 : Value).ownBlock) (.slice A394_0 (rd_L1 t384 x32_1).length c394_0) x62_3) ∧ Aside0 (Kd.R (Kd.int .i64) 3 w' w.heap.size (fun k_ => some k_ ≠ ((.slice Ao39 x36_2.length co39) : Value).ownBlock ∧ some k_ ≠ ((.slice A394_0 (rd_L1 t384 x32_1).length c394_0) : Value).ownBlock) u394002 x394002_3) ∧ Aside0 (w'.heap[gb382]? = some (.cells #[.int .i64 a0_0, .int .i64 a0_1, (.slice A0_2 l0_2.length c0_2)] 26 (0, 0))) ∧ Aside0 (w'.heap[gb383]? = some (.cells #[.int .i64 0, .int .i64 0, (.slice none 0 0)] 26 (0, 0))) ∧ Aside0 (w'.heap[gb393]? = some (.cells #[.int .i64 t388, .int .i64 t389, u394002] 26 (0, 0))) ∧ Aside0 (Below w.heap.size w w'))
          case atStart => exact ⟨(x36_2), ((rd_L1 t384 x32_1)), (0), (x394002_1), (u394002), (by first | rfl | (simp; done) | (simp [*]; done)), H', ⟨Nat.le_refl _⟩, ⟨by (with_reducible repeat (first | apply Kd.S_alloc | apply Kd.S_drewN | apply Kd.S_drew)); exact HO_30.out⟩, ⟨by exact rf_ HO_36.out (fun _ hk => ⟨hk.1, hk.2.2⟩)⟩, ⟨ra_ HO_12⟩, ⟨by exact rf_ HO_394002.out (fun _ hk => ⟨hk.2.1, hk.1⟩)⟩, ⟨bk_ BK382⟩, ⟨bk_ BK383⟩, ⟨bk_ BK393⟩, ⟨(bw_ w)⟩⟩
          case round =>
           clear H'
           try clear c1
           try clear c2
           try clear p2
           try clear c3
           try clear p3
           try clear q3
           try clear hx3
           try clear hf3
           try clear p4
           try clear q4
           try clear hx4
           try clear p6
           try clear c7
           try clear c13
           try clear c14
           try clear c18
           try clear c18b0
           try clear c19
           try clear c19b0
           try clear c20
           try clear c20b0
           try clear c21
           try clear c21b0
           try clear c21b1
           try clear c22
           try clear c23
           try clear c24
           try clear c24b0
           try clear c25
           try clear c25b0
           try clear c26
           try clear c26b0
           try clear c27
           try clear c27b0
           try clear c28
           try clear c28b0
           try clear c29
           try clear c29b0
           try clear c30
           try clear c30b0
           try clear p31
           try clear q31
           try clear hx31
           try clear hf31
           try clear c32
           try clear c33
           try clear c39
           try clear p39
           try clear q39
           try clear hx39
           try clear p40
           try clear q40
           try clear hx40
           try clear hcz10_0
           try clear hcz10_1
           try clear hcz10_2
           try clear hcz15_0
           try clear hcz15_1
           try clear hcz15_2
           try clear hcz34_0
           try clear hcz34_1
           try clear hcz34_2
           try clear hcz8_0
           try clear hcz8_1
           try clear hcz8_2
           try clear hfz10_0
           try clear hfz10_1
           try clear hfz10_2
           try clear hfz15_0
           try clear hfz15_1
           try clear hfz15_2
           try clear hfz34_0
           try clear hfz34_1
           try clear hfz34_2
           try clear hfz8_0
           try clear hfz8_1
           try clear hfz8_2
           try clear hx31_0
           try clear hx394_0
           try clear hx398_0
           try clear hx399_0
           try clear hx400_0
           try clear p2
           try clear p3
           try clear p31
           try clear p394
           try clear p398
           try clear p399
           try clear p400
           try clear q3
           try clear q31
           try clear q394
           try clear q398
           try clear q399
           try clear q400
           obtain ⟨x54_3, x62_3, x64_3, x394002_3, u394002, rfl, HA, HK3, HO_30, HO_54, HO_62, HO_394002, BK382, BK383, BK393, HB⟩ := hrel
           have hl54_3 := (Kd.R_reads' HO_54.out).1
           rw [hl54_3] at HO_54
           (try simp only [hl54_3])
           (try simp only [hl54_3] at BK382)
           (try simp only [hl54_3] at BK383)
           (try simp only [hl54_3] at BK393)
           (try simp only [hl54_3] at HO_30)
           (try simp only [hl54_3] at HO_62)
           (try simp only [hl54_3] at HO_394002)
           have hl62_3 := (Kd.R_reads' HO_62.out).1
           rw [hl62_3] at HO_62
           (try simp only [hl62_3])
           (try simp only [hl62_3] at BK382)
           (try simp only [hl62_3] at BK383)
           (try simp only [hl62_3] at BK393)
           (try simp only [hl62_3] at HO_30)
           (try simp only [hl62_3] at HO_54)
           (try simp only [hl62_3] at HO_394002)
           cases gk with
           | zero => exact absurd HA.out (by simp [impl_Chart_complete.l2])
           | succ k3 =>
            have H := HA.out
            clear HA
            simp only [impl_Chart_complete.l2] at H
            by_cases c41 : x64_3 < ((rd_L1 t384 x32_1).length : Int)
            ·rw [if_pos c41] at H
             have c41b0 : decide (x64_3 < ((rd_L1 t384 x32_1).length : Int)) = true := decide_eq_true c41
             (try simp only [hl54_3, hl62_3] at c41b0)
             clear c41
             by_cases c42 : 0 ≤ x64_3
             ·rw [if_pos c42] at H
              have c42b0 : decide (0 ≤ x64_3) = true := decide_eq_true c42
              clear c42
              by_cases c43 : x64_3 < (x62_3.length : Int)
              ·rw [if_pos c43] at H
               have c43b0 : decide (x64_3 < (x62_3.length : Int)) = true := decide_eq_true c43
               (try simp only [hl54_3, hl62_3] at c43b0)
               clear c43
               replace H := Option.bind_eq_some_iff.mp H
               obtain ⟨t404, A440, H⟩ := H
               replace H : (if 0 ≤ (rd x62_3 x64_3) then (if (rd x62_3 x64_3) < (x394002_3.length : Int) then (impl_Chart_complete.l2 k3 t385 (wrap64 (x10_1 + (wrap64 (((rd_L1 t384 x32_1).length : Int) - t402)))) t402 t384 (t384.length : Int) x32_1 x54_3 x62_3 ((rd_L1 t384 x32_1).length : Int) (wrap64 (x64_3 + 1)) a0_0 a0_1 l0_2 t388 t389 (x394002_3.set ((rd x62_3 x64_3) : Int).toNat t404)) else (none)) else (none)) = some (r1, r2, r3, r4, r5) := H
               have A44 := Aside0.mk A440
               clear A440
               by_cases c45 : 0 ≤ (rd x62_3 x64_3)
               ·rw [if_pos c45] at H
                have c45b0 : decide (0 ≤ (rd x62_3 x64_3)) = true := decide_eq_true c45
                clear c45
                by_cases c46 : (rd x62_3 x64_3) < (x394002_3.length : Int)
                ·rw [if_pos c46] at H
                 have c46b0 : decide ((rd x62_3 x64_3) < (x394002_3.length : Int)) = true := decide_eq_true c46
                 (try simp only [hl54_3, hl62_3] at c46b0)
                 clear c46
                 obtain ⟨y405, hy405⟩ : ∃ y_ : List Int, y_ = (x394002_3.set ((rd x62_3 x64_3) : Int).toNat t404) := ⟨_, rfl⟩
                 replace H : (impl_Chart_complete.l2 k3 t385 (wrap64 (x10_1 + (wrap64 (((rd_L1 t384 x32_1).length : Int) - t402)))) t402 t384 (t384.length : Int) x32_1 x54_3 x62_3 ((rd_L1 t384 x32_1).length : Int) (wrap64 (x64_3 + 1)) a0_0 a0_1 l0_2 t388 t389 y405) = some (r1, r2, r3, r4, r5) := by first | (rw [hy405]; with_reducible exact H) | (have H2_ := (Option.bind_some _ _).symm.trans H; rw [hy405]; with_reducible exact H2_) | (have H2_ := (Option.bind_some _ _).symm.trans H; with_reducible exact H2_) | with_reducible exact H | (rw [hy405]; exact H) | exact H
                 have Ny405 := Aside0.mk hy405
                 clear hy405
                 have H' := Aside0.mk H
                 clear H
                 have p403 : 0 ≤ (x64_3 : Int) := of_decide_eq_true (by first | (with_reducible assumption) | assumption)
                 have q403 : x64_3 < (x62_3.length : Int) := of_decide_eq_true (by first | (with_reducible assumption) | assumption)
                 obtain ⟨ad403, e403, hx403_0⟩ := Kd.at_int (Kd.R_reads' HO_62.out).2.2 x64_3 p403 q403
                 cases e403
                 replace p403 := eq_true p403
                 replace q403 := eq_true q403
                 try go_wp2
                 replace HO_30 := Aside0.mk (Kd.S_drew HO_30.out)
                 replace HO_54 := Aside0.mk (Kd.R_drew HO_54.out)
                 replace HO_62 := Aside0.mk (Kd.R_drew HO_62.out)
                 replace HO_394002 := Aside0.mk (Kd.R_drew HO_394002.out)
                 replace BK382 := Aside0.mk (blk_drew BK382.out)
                 replace BK383 := Aside0.mk (blk_drew BK383.out)
                 replace BK393 := Aside0.mk (blk_drew BK393.out)
                 replace HB := Aside0.mk (below_drew1 HB.out)
                 refine start_ (n := 8) (S := fun w' => w'.cell? ⟨gb393, 0, none⟩ = some (.int .i64 t388) ∧ w'.cell? ⟨gb393, 1, none⟩ = some (.int .i64 t389) ∧ w'.cell? ⟨gb393, 2, none⟩ = some (u394002)) (ds := []) #[false, false, false, false, false, false, false, false] (by kernel_rfl) rfl rfl ⟨bc_ BK393 0, bc_ BK393 1, bc_ BK393 2⟩ (fun hHeld => ?_); refine with_tabW impl_Chart_complete.tab17 impl_Chart_complete.bits17 (fun HT_ HW_ => ?_)
                 generalize wr.drew = w48 at HO_30 HO_54 HO_62 HO_394002 BK382 BK383 BK393 HB hHeld ⊢
                 refine pureA (N := some 68) 0 HT_ ?_
                 refine pureA (N := some 70) 2 HT_ ?_
                 refine pureA (N := some 71) 3 HT_ ?_
                 refine pureA (N := some 72) 4 HT_ ?_
                 refine takeA (N := some 69) 1 HT_ HW_ hHeld ?_
                 refine oneA (N := some 73) 5 HT_ (fun K hK => ?_)
                 refine goesA Try.func222 #[.slice Ao39 x54_3.length co39, .int .i64 t402] ?_
                 with_reducible refine (slices_Index_int_int.calls k3 _ _ x54_3 t402 t404 _ ?side1 ?side2 A44.out).mono ?_
                 (case side1 => exact co_ (Kd.R_reads' HO_54.out).2.2)
                 (case side2 => exact (Kd.R_reads' HO_54.out).2.1)
                 rintro e w' ⟨rfl, ⟨nd, rfl⟩⟩
                 refine ⟨_, rfl, ?_⟩
                 have p47 : 0 ≤ ((rd x62_3 x64_3) : Int) := of_decide_eq_true (by first | (with_reducible assumption) | assumption)
                 have q47 : ((rd x62_3 x64_3) : Int) < ((x394002_3.length : Int) : Int) := of_decide_eq_true (by first | (with_reducible assumption) | assumption)
                 obtain ⟨go47, co47, eo47, gb47, gl47, cl47, HG47⟩ := Kd.R_form HO_394002.out (by omega)
                 (first | cases eo47 | (injection eo47 with ea_ en_ ec_; (first | subst ea_ | (injection ea_ with ea_; subst ea_)); subst ec_; clear en_))
                 have GB47 := Aside0.mk gb47
                 have GG47 := Aside0.mk HG47
                 clear gb47 gl47 HG47
                 obtain ⟨hx47_0, hf47_0⟩ := Kd.R_celln 0 HO_394002.out ((rd x62_3 x64_3) : Int) p47 q47
                 replace p47 := eq_true p47
                 replace q47 := eq_true q47
                 have HP49 := Kd.R_putn HO_394002.out ((rd x62_3 x64_3) : Int) t404
                 rw [← Ny405.out] at HP49
                 have HQ49 := Aside0.mk HP49
                 clear HP49
                 refine hK.out _ _ ⟨bc_ BK393 0, bc_ BK393 1, bc_ BK393 2⟩ (fun hHeld => ?_)
                 clear hK K
                 refine normA (N := some 73) ?_
                 refine pureA (N := some 74) 6 HT_ ?_
                 refine oneA (N := none) 7 HT_ (fun K hK => ?_)
                 refine skip_ (w1 := ?_) (by rfl) rfl ?_ ?_
                 rotate_left
                 ·go_simp
                  rfl
                 refine hK.out _ _ ⟨((cell_far (p := ⟨go47, _, none⟩) (show (gb393 : Nat) ≠ go47 from (by have h_ := Kd.R_ne HO_394002.out BK393.out (by decide); intro e_; exact h_ (by rw [e_]; rfl))) _).trans (hHeld.1)), ((cell_far (p := ⟨go47, _, none⟩) (show (gb393 : Nat) ≠ go47 from (by have h_ := Kd.R_ne HO_394002.out BK393.out (by decide); intro e_; exact h_ (by rw [e_]; rfl))) _).trans (hHeld.2.1)), ((cell_far (p := ⟨go47, _, none⟩) (show (gb393 : Nat) ≠ go47 from (by have h_ := Kd.R_ne HO_394002.out BK393.out (by decide); intro e_; exact h_ (by rw [e_]; rfl))) _).trans (hHeld.2.2))⟩ (fun hHeld => ?_)
                 clear hK K
                 refine done_ (done_of HT_.out (by kernel_rfl)) ?_
                 try go_wp2
                 (try simp only [← hl54_3, ← hl62_3])
                 go_roundg k3
                 case measure => have := HK1.out; have := HK2.out; have := HK3.out; omega
                 case rel => exact ⟨(x54_3), (x62_3), (wrap64 (x64_3 + 1)), (y405), (.slice (some ⟨go47, 0, none⟩) x394002_3.length co47), (by first | rfl | (simp; done) | (simp [*]; done)), H', ⟨by have := HK1.out; have := HK2.out; have := HK3.out; omega⟩, ⟨by (try simp only [hl54_3]); (try simp only [hl62_3]); (with_reducible repeat (first | apply Kd.S_alloc | apply Kd.S_drewN | apply Kd.S_drew)); exact Kd.S_mono (Kd.S_far (p := ⟨go47, ((rd x62_3 x64_3) : Int).toNat, none⟩) (Kd.S_mono HO_30.out (fun k_ hk => (⟨hk, fun e_ => hk.2 (by rw [e_]; rfl)⟩ : _ ∧ k_ ≠ go47))) (fun _ hk => hk.2) (.int .i64 t404)) (fun _ hk => ⟨hk.1.1, hk.1.2⟩)⟩, ⟨by (try simp only [hl54_3]); (try simp only [hl62_3]); (with_reducible repeat (first | apply Kd.R_alloc | apply Kd.R_drewN | apply Kd.R_drew)); exact Kd.R_mono (Kd.R_far (p := ⟨go47, ((rd x62_3 x64_3) : Int).toNat, none⟩) (Kd.R_mono HO_54.out (fun k_ hk => (⟨hk, fun e_ => hk.2 (by rw [e_]; rfl)⟩ : _ ∧ k_ ≠ go47))) (fun _ hk => hk.2) (.int .i64 t404)) (fun _ hk => ⟨hk.1.1, hk.1.2⟩)⟩, ⟨by (try simp only [hl54_3]); (try simp only [hl62_3]); (with_reducible repeat (first | apply Kd.R_alloc | apply Kd.R_drewN | apply Kd.R_drew)); exact Kd.R_mono (Kd.R_far (p := ⟨go47, ((rd x62_3 x64_3) : Int).toNat, none⟩) (Kd.R_mono HO_62.out (fun k_ hk => (⟨hk, fun e_ => hk.2 (by rw [e_]; rfl)⟩ : _ ∧ k_ ≠ go47))) (fun _ hk => hk.2) (.int .i64 t404)) (fun _ hk => ⟨hk.1.1, hk.1.2⟩)⟩, ⟨by (try simp only [hl54_3]); (try simp only [hl62_3]); (with_reducible repeat (first | apply Kd.R_alloc | apply Kd.R_drewN | apply Kd.R_drew)); exact HQ49.out⟩, ⟨by (try simp only [hl54_3]); (try simp only [hl62_3]); (with_reducible repeat (first | refine blk_drewN ?_ _ | refine blk_drew ?_ | refine blk_alloc ?_ _)); refine blk_far ?_ (by have h_ := Kd.R_ne HO_394002.out BK382.out (by decide); intro e_; exact h_ (by rw [e_]; rfl)) _; (with_reducible repeat (first | refine blk_drewN ?_ _ | refine blk_drew ?_ | refine blk_alloc ?_ _)); exact BK382.out⟩, ⟨by (try simp only [hl54_3]); (try simp only [hl62_3]); (with_reducible repeat (first | refine blk_drewN ?_ _ | refine blk_drew ?_ | refine blk_alloc ?_ _)); refine blk_far ?_ (by have h_ := Kd.R_ne HO_394002.out BK383.out (by decide); intro e_; exact h_ (by rw [e_]; rfl)) _; (with_reducible repeat (first | refine blk_drewN ?_ _ | refine blk_drew ?_ | refine blk_alloc ?_ _)); exact BK383.out⟩, ⟨by (try simp only [hl54_3]); (try simp only [hl62_3]); (with_reducible repeat (first | refine blk_drewN ?_ _ | refine blk_drew ?_ | refine blk_alloc ?_ _)); refine blk_far ?_ (by have h_ := Kd.R_ne HO_394002.out BK393.out (by decide); intro e_; exact h_ (by rw [e_]; rfl)) _; (with_reducible repeat (first | refine blk_drewN ?_ _ | refine blk_drew ?_ | refine blk_alloc ?_ _)); exact BK393.out⟩, ⟨by repeat (first | (with_reducible first | exact HB.out | apply below_alloc | apply pw_below_drewN | apply below_drew1 | refine below_set ?_ GB47.out | refine below_set ?_ GE382.out | refine below_set ?_ GE383.out | refine below_set ?_ GE393.out) | exact HB.out)⟩⟩
                ·rw [if_neg c46] at H
                 exact absurd H (by simp)
               ·rw [if_neg c45] at H
                exact absurd H (by simp)
              ·rw [if_neg c43] at H
               exact absurd H (by simp)
             ·rw [if_neg c42] at H
              exact absurd H (by simp)
            ·rw [if_neg c41] at H
             have c41b0 : decide (x64_3 < ((rd_L1 t384 x32_1).length : Int)) = false := decide_eq_false c41
             (try simp only [hl54_3, hl62_3] at c41b0)
             clear c41
             have H' := Aside0.mk H
             clear H
             go_wp2
             (try simp only [← hl54_3, ← hl62_3])
             go_roundg k3
             case measure => have := HK1.out; have := HK2.out; have := HK3.out; omega
             case rel => exact ⟨((wrap64 (x10_1 + (wrap64 (((rd_L1 t384 x32_1).length : Int) - t402))))), (wrap64 (x32_1 + 1)), (x394002_3), (u394002), (by first | rfl | (simp; done) | (simp [*]; done)), (by first | rfl | (simp; done) | (simp [*]; done)), H', ⟨by have := HK1.out; have := HK2.out; have := HK3.out; omega⟩, ⟨by (try simp only [hl54_3]); (try simp only [hl62_3]); (with_reducible repeat (first | apply Kd.S_alloc | apply Kd.S_drewN | apply Kd.S_drew)); exact Kd.S_mono HO_30.out (fun _ hk => hk.2)⟩, ⟨by (try simp only [hl54_3]); (try simp only [hl62_3]); (with_reducible repeat (first | apply Kd.R_alloc | apply Kd.R_drewN | apply Kd.R_drew)); exact Kd.R_mono HO_394002.out (fun _ hk => trivial)⟩, ⟨by (try simp only [hl54_3]); (try simp only [hl62_3]); (with_reducible repeat (first | refine blk_drewN ?_ _ | refine blk_drew ?_ | refine blk_alloc ?_ _)); exact BK382.out⟩, ⟨by (try simp only [hl54_3]); (try simp only [hl62_3]); (with_reducible repeat (first | refine blk_drewN ?_ _ | refine blk_drew ?_ | refine blk_alloc ?_ _)); exact BK383.out⟩, ⟨by (try simp only [hl54_3]); (try simp only [hl62_3]); (with_reducible repeat (first | refine blk_drewN ?_ _ | refine blk_drew ?_ | refine blk_alloc ?_ _)); exact BK393.out⟩, ⟨(bw_ w)⟩⟩
      ·rw [if_neg c21] at H
       exact absurd H (by simp)
     ·rw [if_neg c20] at H
      exact absurd H (by simp)
    ·rw [if_neg c19] at H
     exact absurd H (by simp)
   ·rw [if_neg c18] at H
    have c18b0 : decide (x32_1 < (t384.length : Int)) = false := decide_eq_false c18
    clear c18
    simp only [Option.some.injEq, Prod.mk.injEq] at H
    obtain ⟨rfl, rfl, rfl, rfl, rfl⟩ := H
    have hnb50 := NB393_382.out
    have hnc50 := NB382_393.out
    have hnb51 := NB393_383.out
    have hnc51 := NB383_393.out
    obtain ⟨hcz52_0, hcz52_1, hcz52_2, hfz52_0, hfz52_1, hfz52_2⟩ := bc3_ (w := wr) BK393
    have hnb53 := NB383_382.out
    have hnc53 := NB382_383.out
    obtain ⟨hcz54_0, hcz54_1, hcz54_2, hfz54_0, hfz54_1, hfz54_2⟩ := bc3_ (w := wr) BK383
    obtain ⟨Ao55, co55, eo55⟩ := Kd.R_slice HO_394002.out
    subst eo55
    go_wp2
    refine bodyPost_ret (results_ctt rfl _ _ gb383 26 #[.int .i64 t388, .int .i64 t389, .slice Ao55 x394002_1.length co55] (0, 0) _ rfl (bq_ BK383) Try.underlying26 rfl (by kernel_rfl)) rfl ?_
    exact ⟨_, by first | rfl | (simp [errW_none, errW_some] <;> rfl) | (simp [*, errW_none, errW_some] <;> rfl), by exact rf_ (Kd.R_types HO_394002.out BK383.out (by decide)) (fun _ hk => trivial), (bw_ w)⟩

/-! ### impl_CompleteChart: function 24 -/
def impl_CompleteChart.j0 : Nat → Int → Bool → Int → Int → List Int → Option (Int × Int × List Int × Bool)
  | 0, _, _, _, _, _ => none
  | k + 1, x1, x16, x407000, x407001, x407002 => if x16 = true then (some (0, 0, ([] : List Int), false)) else ((impl_Chart_complete.f k x407000 x407001 x407002 x1).bind fun bt410 => (if bt410.2.2.2.2 = true then (some (bt410.1, bt410.2.1, bt410.2.2.1, true)) else (some (0, 0, ([] : List Int), false))))
def impl_CompleteChart.f (k : Nat) (a0_0 : Int) (a0_1 : Int) (l0_2 : List Int) (a1 : Int) : Option (Int × Int × List Int × Bool) := (impl_IsChart.f k a0_0 a0_1 l0_2).bind fun t408 => (if t408 = true then ((impl_isSymmetry.f a1).bind fun t409 => (impl_CompleteChart.j0 k a1 (!t409) a0_0 a0_1 l0_2)) else (impl_CompleteChart.j0 k a1 true a0_0 a0_1 l0_2))
theorem impl_CompleteChart.mono_l : ∀ k, (∀ y0 y1 y2 y3 y4, LeO (impl_CompleteChart.j0 k y0 y1 y2 y3 y4) (impl_CompleteChart.j0 (k + 1) y0 y1 y2 y3 y4))
  | 0 => fun _ _ _ _ _ r h => by simp [impl_CompleteChart.j0] at h
  | k + 1 => by
    have ih0 := impl_CompleteChart.mono_l k
    · intro y0 y1 y2 y3 y4
      unfold impl_CompleteChart.j0
      repeat' first
      | (with_reducible exact ih0 _ _ _ _ _)
      | (with_reducible exact impl_Chart_complete.mono _ _ _ _ _)
      | (with_reducible exact impl_IsChart.mono _ _ _ _)
      | (with_reducible exact LeO.refl _)
      | (with_reducible exact LeO.none _)
      | (with_reducible refine LeO.ite ?_ ?_)
      | (with_reducible refine LeO.bind ?_ (fun _ => ?_))
      | exact ih0 _ _ _ _ _
      | exact impl_Chart_complete.mono _ _ _ _ _
      | exact impl_IsChart.mono _ _ _ _
      | exact LeO.none _
      | refine LeO.ite ?_ ?_
      | refine LeO.bind ?_ (fun _ => ?_)
theorem impl_CompleteChart.mono : ∀ a0 a1 a2 a3 k, LeO (impl_CompleteChart.f k a0 a1 a2 a3) (impl_CompleteChart.f (k + 1) a0 a1 a2 a3) := by
  intro a0 a1 a2 a3 k
  have ih0 := impl_CompleteChart.mono_l k
  unfold impl_CompleteChart.f
  repeat' first
      | (with_reducible exact ih0 _ _ _ _ _)
      | (with_reducible exact impl_Chart_complete.mono _ _ _ _ _)
      | (with_reducible exact impl_IsChart.mono _ _ _ _)
      | (with_reducible exact LeO.refl _)
      | (with_reducible exact LeO.none _)
      | (with_reducible refine LeO.ite ?_ ?_)
      | (with_reducible refine LeO.bind ?_ (fun _ => ?_))
      | exact ih0 _ _ _ _ _
      | exact impl_Chart_complete.mono _ _ _ _ _
      | exact impl_IsChart.mono _ _ _ _
      | exact LeO.none _
      | refine LeO.ite ?_ ?_
      | refine LeO.bind ?_ (fun _ => ?_)
set_option maxHeartbeats 8000000 in
set_option maxRecDepth 100000 in
theorem impl_CompleteChart.calls (k : Nat) (a0_0 : Int) (a0_1 : Int) (A0_2 : Option Addr) (c0_2 : Nat) (l0_2 : List Int) (a1 : Int) (r1 : Int) (r2 : Int) (r3 : List Int) (r4 : Bool) (w : World) (hr0_2 : Kd.C (Kd.int .i64) w A0_2 l0_2.length l0_2) (hc0_2 : l0_2.length ≤ c0_2) (h : impl_CompleteChart.f k a0_0 a0_1 l0_2 a1 = some (r1, r2, r3, r4)) :
  Calls Try.prog 24 #[.agg #[.int .i64 a0_0, .int .i64 a0_1, .slice A0_2 l0_2.length c0_2], .int .i64 a1] w fun e w' => ∃ v2_ : Value, e = .returned (.tuple #[.agg #[.int .i64 r1, .int .i64 r2, v2_], .bool r4]) ∧ Kd.R (Kd.int .i64) 3 w' w.heap.size (fun _ => True) v2_ r3 ∧ Below w.heap.size w w' := by
 have hu26 := Try.underlying26
 have HR0_2 := Aside0.mk hr0_2
 have HC0_2 := Aside0.mk hc0_2
 clear hr0_2 hc0_2
 have HB := Aside0.mk (Below.refl w.heap.size w)
 have H : ((impl_IsChart.f k a0_0 a0_1 l0_2).bind fun t408 => (if t408 = true then ((impl_isSymmetry.f a1).bind fun t409 => (impl_CompleteChart.j0 k a1 (!t409) a0_0 a0_1 l0_2)) else (impl_CompleteChart.j0 k a1 true a0_0 a0_1 l0_2))) = some (r1, r2, r3, r4) := h
 clear h
 have HC3 := Aside0.mk H
 clear H
 go_enter Try.func24, Try.ntmps24
 go_upto_region 1 with (first | ((with_reducible refine gate_dst (N := 2) rfl ?_); refine box_ (N := 2) (cs := #[.int .i64 a0_0, .int .i64 a0_1, .slice A0_2 l0_2.length c0_2]) (t := 26) ?_; intro gb406 hg w4 hbox hb; have BK406 := Aside0.mk (hbox); have GW406 := gz_ w hg; have GE406 := gz_ w hg; replace HB := Aside0.mk (below_step (bw_ w) hb); clear hb hbox hg) | ((with_reducible refine gate_dst (N := 4) rfl ?_); refine box_ (N := 4) (cs := #[.int .i64 0, .int .i64 0, .slice none 0 0]) (t := 26) ?_; intro gb407 hg w5 hbox hb; have n0_ := bb_ BK406 hb; have n1_ := Aside0.mk (below_step (bw_ w) hb); have n2_ := Aside0.mk (hbox); have n3_ := gz_ w hg; have n4_ := gz_ w hg; have n5_ := ne_ hg BK406; have n6_ := en_ hg BK406; clear BK406; clear HB; have BK406 := n0_; have HB := n1_; have BK407 := n2_; have GW407 := n3_; have GE407 := n4_; have NB406_407 := n5_; have NB407_406 := n6_; clear n0_ n1_ n2_ n3_ n4_ n5_ n6_; clear hb hbox hg))
 (try simp only [Act.put, List.setIfInBounds_toArray, List.set_cons_zero, List.set_cons_succ])
 go_cut [16] (fun v16 wc => ∃ (kq : Nat) (x16_2 : Bool), v16 = .bool x16_2 ∧ Aside0 (impl_CompleteChart.j0 kq a1 x16_2 a0_0 a0_1 l0_2 = some (r1, r2, r3, r4)) ∧ Aside0 (kq ≤ k) ∧ Aside0 (wc.heap[gb406]? = some (.cells #[.int .i64 a0_0, .int .i64 a0_1, (.slice A0_2 l0_2.length c0_2)] 26 (0, 0))) ∧ Aside0 (wc.heap[gb407]? = some (.cells #[.int .i64 0, .int .i64 0, (.slice none 0 0)] 26 (0, 0))) ∧ Aside0 (Below w.heap.size w wc))
 case first =>
  have H := HC3.out
  clear HC3
  replace H := Option.bind_eq_some_iff.mp H
  obtain ⟨t408, A60, H⟩ := H
  replace H : (if t408 = true then ((impl_isSymmetry.f a1).bind fun t409 => (impl_CompleteChart.j0 k a1 (!t409) a0_0 a0_1 l0_2)) else (impl_CompleteChart.j0 k a1 true a0_0 a0_1 l0_2)) = some (r1, r2, r3, r4) := H
  have A6 := Aside0.mk A60
  clear A60
  by_cases c7 : t408 = true
  ·subst c7
   have H1 : ((impl_isSymmetry.f a1).bind fun t409 => (impl_CompleteChart.j0 k a1 (!t409) a0_0 a0_1 l0_2)) = some (r1, r2, r3, r4) := by rw [if_pos rfl] at H; exact H
   clear H
   have H := H1
   clear H1
   replace H := Option.bind_eq_some_iff.mp H
   obtain ⟨t409, A80, H⟩ := H
   replace H : (impl_CompleteChart.j0 k a1 (!t409) a0_0 a0_1 l0_2) = some (r1, r2, r3, r4) := H
   have A8 := Aside0.mk A80
   clear A80
   have H' := Aside0.mk H
   clear H
   have hnb9 := NB406_407.out
   have hnc9 := NB407_406.out
   obtain ⟨hcz10_0, hcz10_1, hcz10_2, hfz10_0, hfz10_1, hfz10_2⟩ := bc3_ (w := w5) BK406
   go_wp2_with (first | ((with_reducible refine gate_callee (f := 39) rfl ?_); refine goesB (some 10) Try.func39 #[.agg #[.int .i64 a0_0, .int .i64 a0_1, .slice A0_2 l0_2.length c0_2]] ?_; (with_reducible refine (impl_IsChart.calls k a0_0 a0_1 _ _ l0_2 true _ ?side1 ?side2 A6.out).mono ?_); (case side1 => exact cb_ HR0_2 HB); (case side2 => exact HC0_2.out); rintro e w11 ⟨rfl, hb⟩; refine ⟨_, rfl, ?_⟩; replace BK406 := bb_ BK406 hb; replace BK407 := bb_ BK407 hb; replace HB := Aside0.mk (below_step (bw_ w) hb); (try clear hb); (try clear hb2); (try clear hk); (try clear hi)) | (go_at_call 146; (with_reducible refine (impl_isSymmetry.calls a1 t409 _ A8.out).mono ?_); rintro e w' ⟨rfl, ⟨nd, rfl⟩⟩))
   go_meet
   case rel => exact ⟨_, (!t409), (by first | rfl | (simp; done) | (simp [*]; done)), H', ⟨by first | omega | exact Nat.le_refl _⟩, ⟨bk_ BK406⟩, ⟨bk_ BK407⟩, ⟨(bw_ w)⟩⟩
  ·replace c7 := Bool.eq_false_iff.mpr c7
   subst c7
   have H1 : (impl_CompleteChart.j0 k a1 true a0_0 a0_1 l0_2) = some (r1, r2, r3, r4) := by rw [if_neg (show ¬ (false = true) by decide)] at H; exact H
   clear H
   have H := H1
   clear H1
   have H' := Aside0.mk H
   clear H
   have hnb12 := NB406_407.out
   have hnc12 := NB407_406.out
   obtain ⟨hcz13_0, hcz13_1, hcz13_2, hfz13_0, hfz13_1, hfz13_2⟩ := bc3_ (w := w5) BK406
   go_wp2_with (first | ((with_reducible refine gate_callee (f := 39) rfl ?_); refine goesB (some 10) Try.func39 #[.agg #[.int .i64 a0_0, .int .i64 a0_1, .slice A0_2 l0_2.length c0_2]] ?_; (with_reducible refine (impl_IsChart.calls k a0_0 a0_1 _ _ l0_2 false _ ?side1 ?side2 A6.out).mono ?_); (case side1 => exact cb_ HR0_2 HB); (case side2 => exact HC0_2.out); rintro e w14 ⟨rfl, hb⟩; refine ⟨_, rfl, ?_⟩; replace BK406 := bb_ BK406 hb; replace BK407 := bb_ BK407 hb; replace HB := Aside0.mk (below_step (bw_ w) hb); (try clear hb); (try clear hb2); (try clear hk); (try clear hi)))
   go_meet
   case rel => exact ⟨_, (true), (by first | rfl | (simp; done) | (simp [*]; done)), H', ⟨by first | omega | exact Nat.le_refl _⟩, ⟨bk_ BK406⟩, ⟨bk_ BK407⟩, ⟨(bw_ w)⟩⟩
 case rest =>
  clear HC3
  try clear c1
  try clear c2
  try clear p2
  try clear c3
  try clear c7
  try clear c9
  try clear c12
  try clear hcz10_0
  try clear hcz10_1
  try clear hcz10_2
  try clear hcz13_0
  try clear hcz13_1
  try clear hcz13_2
  try clear hfz10_0
  try clear hfz10_1
  try clear hfz10_2
  try clear hfz13_0
  try clear hfz13_1
  try clear hfz13_2
  obtain ⟨kq, x16_2, rfl, HA, HJ2, BK406, BK407, HB⟩ := hcut
  cases kq with
  | zero => exact absurd HA.out (by simp [impl_CompleteChart.j0])
  | succ kj2 =>
   have H := HA.out
   clear HA
   simp only [impl_CompleteChart.j0] at H
   by_cases c15 : x16_2 = true
   ·subst c15
    have H1 : (some (0, 0, ([] : List Int), false)) = some (r1, r2, r3, r4) := by rw [if_pos rfl] at H; exact H
    clear H
    have H := H1
    clear H1
    simp only [Option.some.injEq, Prod.mk.injEq] at H
    obtain ⟨rfl, rfl, rfl, rfl⟩ := H
    have hnb16 := NB407_406.out
    have hnc16 := NB406_407.out
    obtain ⟨hcz17_0, hcz17_1, hcz17_2, hfz17_0, hfz17_1, hfz17_2⟩ := bc3_ (w := wc) BK407
    go_wp2
    refine bodyPost_ret (results_ct rfl _ _ gb407 26 #[.int .i64 0, .int .i64 0, .slice none 0 0] (0, 0) _ rfl (bq_ BK407) Try.underlying26 rfl (by kernel_rfl)) rfl ?_
    exact ⟨_, by first | rfl | (simp [errW_none, errW_some] <;> rfl) | (simp [*, errW_none, errW_some] <;> rfl), by first | exact Kd.R_nil _ _ _ _ _ | exact Kd.N_nil _ _ _ _ _ | exact Kd.V_nil _ _ _ _ _ | exact Kd.Q_nil _ _ _ _ _ | exact Kd.S_nil _ _ _ _ _, (bw_ w)⟩
   ·replace c15 := Bool.eq_false_iff.mpr c15
    subst c15
    have H1 : ((impl_Chart_complete.f kj2 a0_0 a0_1 l0_2 a1).bind fun bt410 => (if bt410.2.2.2.2 = true then (some (bt410.1, bt410.2.1, bt410.2.2.1, true)) else (some (0, 0, ([] : List Int), false)))) = some (r1, r2, r3, r4) := by rw [if_neg (show ¬ (false = true) by decide)] at H; exact H
    clear H
    have H := H1
    clear H1
    replace H := Option.bind_eq_some_iff.mp H
    obtain ⟨⟨t410, t411, t412, t415, t416⟩, A180, H⟩ := H
    replace H : (if t416 = true then (some (t410, t411, t412, true)) else (some (0, 0, ([] : List Int), false))) = some (r1, r2, r3, r4) := H
    have A18 := Aside0.mk A180
    clear A180
    by_cases c19 : t416 = true
    ·subst c19
     have H1 : (some (t410, t411, t412, true)) = some (r1, r2, r3, r4) := by rw [if_pos rfl] at H; exact H
     clear H
     have H := H1
     clear H1
     simp only [Option.some.injEq, Prod.mk.injEq] at H
     obtain ⟨rfl, rfl, rfl, rfl⟩ := H
     have hnb20 := NB406_407.out
     have hnc20 := NB407_406.out
     obtain ⟨hcz21_0, hcz21_1, hcz21_2, hfz21_0, hfz21_1, hfz21_2⟩ := bc3_ (w := wc) BK406
     go_wp2_with (first | ((with_reducible refine gate_callee (f := 147) rfl ?_); refine goesB (some 21) Try.func147 #[.agg #[.int .i64 a0_0, .int .i64 a0_1, .slice A0_2 l0_2.length c0_2], .int .i64 a1] ?_; (with_reducible refine (impl_Chart_complete.calls kj2 a0_0 a0_1 _ _ l0_2 a1 t410 t411 t412 t415 true _ ?side1 ?side2 A18.out).mono ?_); (case side1 => exact cb_ HR0_2 HB); (case side2 => exact HC0_2.out); rintro e w22 ⟨v413, rfl, ho0, hb⟩; refine ⟨_, rfl, ?_⟩; have HO414 := Aside0.mk (Kd.R_lower ho0 (below_size (bw_ w))); replace BK406 := bb_ BK406 hb; replace BK407 := bb_ BK407 hb; replace HB := Aside0.mk (below_step (bw_ w) hb); (try clear hb); (try clear hb2); (try clear hk); (try clear hi); (try clear ho0)) | ((with_reducible refine gate_dst (N := 6) rfl ?_); refine box_ (N := 6) (cs := #[.int .i64 0, .int .i64 0, .slice none 0 0]) (t := 26) ?_; intro gb417 hg w23 hbox hb; have n0_ := Aside0.mk (Kd.R_below (ra_ HO414) hb); have n1_ := bb_ BK406 hb; have n2_ := bb_ BK407 hb; have n3_ := Aside0.mk (below_step (bw_ w) hb); have n4_ := Aside0.mk (hbox); have n5_ := gz_ w hg; have n6_ := gz_ w hg; have n7_ := ne_ hg BK406; have n8_ := en_ hg BK406; have n9_ := ne_ hg BK407; have n10_ := en_ hg BK407; clear HO414; clear BK406; clear BK407; clear HB; have HO414 := n0_; have BK406 := n1_; have BK407 := n2_; have HB := n3_; have BK417 := n4_; have GW417 := n5_; have GE417 := n6_; have NB406_417 := n7_; have NB417_406 := n8_; have NB407_417 := n9_; have NB417_407 := n10_; clear n0_ n1_ n2_ n3_ n4_ n5_ n6_ n7_ n8_ n9_ n10_; clear hb hbox hg; have hnb24 := NB417_406.out; have hnc24 := NB406_417.out; have hnb25 := NB417_407.out; have hnc25 := NB407_417.out; obtain ⟨hcz26_0, hcz26_1, hcz26_2, hfz26_0, hfz26_1, hfz26_2⟩ := bc3_ (w := w23) BK417; obtain ⟨Ao27, co27, eo27⟩ := Kd.R_slice HO414.out; subst eo27; obtain ⟨hcz28_0, hcz28_1, hcz28_2, hfz28_0, hfz28_1, hfz28_2⟩ := bc3_ (w := w23) BK407))
     refine bodyPost_ret (results_ct rfl _ _ gb407 26 #[.int .i64 t410, .int .i64 t411, .slice Ao27 t412.length co27] (0, 0) _ rfl (bq_ BK407) Try.underlying26 rfl (by kernel_rfl)) rfl ?_
     exact ⟨_, by first | rfl | (simp [errW_none, errW_some] <;> rfl) | (simp [*, errW_none, errW_some] <;> rfl), by exact rf_ (Kd.R_types (Kd.R_types HO414.out BK417.out (by decide)) BK407.out (by decide)) (fun _ hk => trivial), (bw_ w)⟩
    ·replace c19 := Bool.eq_false_iff.mpr c19
     subst c19
     have H1 : (some (0, 0, ([] : List Int), false)) = some (r1, r2, r3, r4) := by rw [if_neg (show ¬ (false = true) by decide)] at H; exact H
     clear H
     have H := H1
     clear H1
     simp only [Option.some.injEq, Prod.mk.injEq] at H
     obtain ⟨rfl, rfl, rfl, rfl⟩ := H
     have hnb29 := NB406_407.out
     have hnc29 := NB407_406.out
     obtain ⟨hcz30_0, hcz30_1, hcz30_2, hfz30_0, hfz30_1, hfz30_2⟩ := bc3_ (w := wc) BK406
     go_wp2_with (first | ((with_reducible refine gate_callee (f := 147) rfl ?_); refine goesB (some 21) Try.func147 #[.agg #[.int .i64 a0_0, .int .i64 a0_1, .slice A0_2 l0_2.length c0_2], .int .i64 a1] ?_; (with_reducible refine (impl_Chart_complete.calls kj2 a0_0 a0_1 _ _ l0_2 a1 t410 t411 t412 t415 false _ ?side1 ?side2 A18.out).mono ?_); (case side1 => exact cb_ HR0_2 HB); (case side2 => exact HC0_2.out); rintro e w31 ⟨v413, rfl, ho0, hb⟩; refine ⟨_, rfl, ?_⟩; have HO414 := Aside0.mk (Kd.R_lower ho0 (below_size (bw_ w))); replace BK406 := bb_ BK406 hb; replace BK407 := bb_ BK407 hb; replace HB := Aside0.mk (below_step (bw_ w) hb); (try clear hb); (try clear hb2); (try clear hk); (try clear hi); (try clear ho0)) | ((with_reducible refine gate_dst (N := 6) rfl ?_); refine box_ (N := 6) (cs := #[.int .i64 0, .int .i64 0, .slice none 0 0]) (t := 26) ?_; intro gb417 hg w32 hbox hb; have n0_ := Aside0.mk (Kd.R_below (ra_ HO414) hb); have n1_ := bb_ BK406 hb; have n2_ := bb_ BK407 hb; have n3_ := Aside0.mk (below_step (bw_ w) hb); have n4_ := Aside0.mk (hbox); have n5_ := gz_ w hg; have n6_ := gz_ w hg; have n7_ := ne_ hg BK406; have n8_ := en_ hg BK406; have n9_ := ne_ hg BK407; have n10_ := en_ hg BK407; clear HO414; clear BK406; clear BK407; clear HB; have HO414 := n0_; have BK406 := n1_; have BK407 := n2_; have HB := n3_; have BK417 := n4_; have GW417 := n5_; have GE417 := n6_; have NB406_417 := n7_; have NB417_406 := n8_; have NB407_417 := n9_; have NB417_407 := n10_; clear n0_ n1_ n2_ n3_ n4_ n5_ n6_ n7_ n8_ n9_ n10_; clear hb hbox hg; have hnb33 := NB417_406.out; have hnc33 := NB406_417.out; have hnb34 := NB417_407.out; have hnc34 := NB407_417.out; obtain ⟨hcz35_0, hcz35_1, hcz35_2, hfz35_0, hfz35_1, hfz35_2⟩ := bc3_ (w := w32) BK417; obtain ⟨Ao36, co36, eo36⟩ := Kd.R_slice HO414.out; subst eo36; obtain ⟨hcz37_0, hcz37_1, hcz37_2, hfz37_0, hfz37_1, hfz37_2⟩ := bc3_ (w := w32) BK407))
     refine bodyPost_ret (results_ct rfl _ _ gb407 26 #[.int .i64 0, .int .i64 0, .slice none 0 0] (0, 0) _ rfl (bq_ BK407) Try.underlying26 rfl (by kernel_rfl)) rfl ?_
     exact ⟨_, by first | rfl | (simp [errW_none, errW_some] <;> rfl) | (simp [*, errW_none, errW_some] <;> rfl), by first | exact Kd.R_nil _ _ _ _ _ | exact Kd.N_nil _ _ _ _ _ | exact Kd.V_nil _ _ _ _ _ | exact Kd.Q_nil _ _ _ _ _ | exact Kd.S_nil _ _ _ _ _, (bw_ w)⟩

end Go.Proofs.Ytijmljaemalgmaa.PFnExactCompleteChart
