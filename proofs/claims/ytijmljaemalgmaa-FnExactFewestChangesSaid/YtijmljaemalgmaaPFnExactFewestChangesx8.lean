-- Printed by this session's own program (wip/tool/myprint.py, over the kit's print); Lean checks it.
import Derived.Test.YtijmljaemalgmaaPFnExactFewestChangesx0
import Derived.Test.YtijmljaemalgmaaPFnExactFewestChangesx5
import Derived.Test.YtijmljaemalgmaaPFnExactFewestChangesx7
namespace Go.Proofs.Ytijmljaemalgmaa.PFnExactFewestChanges
open Go.RowKit Go.Proofs.YtijmljaemalgmaaW.PrintWords Go.Proofs.YtijmljaemalgmaaW.PrintLast Go.Proofs.YtijmljaemalgmaaW.PrintMore
attribute [local go_sem] max2_int min2_int max_two min_two max_three min_three max_four min_four   -- for this text's walks alone
set_option linter.unusedVariables false
set_option linter.unusedSimpArgs false

/-! ### impl_Chart_complete: function 147 -/
mutual
def impl_Chart_complete.l0 : Nat → Bool → Int → List (List Int) → Int → Int → Int → Int → List Int → Int → Int → List Int → Option (Int × Int × List Int × Int × Bool)
  | 0, _, _, _, _, _, _, _, _, _, _, _ => none
  | k + 1, x8, x10, x30, x31, x32, x375000, x375001, x375002, x386000, x386001, x386002 => if x32 < x31 then (if 0 ≤ x32 then (if x32 < (x30.length : Int) then (if 6 ≤ 35184372088832 then (impl_Chart_complete.l1 k x8 x10 (rd_L1 x30 x32) x30 x31 x32 (List.replicate 6 0) (rd_L1 x30 x32) ((rd_L1 x30 x32).length : Int) 0 x375000 x375001 x375002 x386000 x386001 x386002) else (none)) else (none)) else (none)) else (some (x386000, x386001, x386002, x10, x8))
def impl_Chart_complete.l1 : Nat → Bool → Int → List Int → List (List Int) → Int → Int → List Int → List Int → Int → Int → Int → Int → List Int → Int → Int → List Int → Option (Int × Int × List Int × Int × Bool)
  | 0, _, _, _, _, _, _, _, _, _, _, _, _, _, _, _, _ => none
  | k + 1, x8, x10, x12, x30, x31, x32, x36, x37, x38, x39, x375000, x375001, x375002, x386000, x386001, x386002 => if x39 < x38 then (if 0 ≤ x39 then (if x39 < (x37.length : Int) then (if 0 ≤ (rd x37 x39) then (if (rd x37 x39) < (x375002.length : Int) then (if 0 ≤ (rd x375002 (rd x37 x39)) then (if (rd x375002 (rd x37 x39)) < (x36.length : Int) then (impl_Chart_complete.l1 k x8 x10 x12 x30 x31 x32 (x36.set ((rd x375002 (rd x37 x39)) : Int).toNat (wrap64 ((rd x36 (rd x375002 (rd x37 x39))) + 1))) x37 x38 (wrap64 (x39 + 1)) x375000 x375001 x375002 x386000 x386001 x386002) else (none)) else (none)) else (none)) else (none)) else (none)) else (none)) else ((slices_Max_int_int.f k x36).bind fun t394 => (impl_Chart_complete.l2 k x8 (wrap64 (x10 + (wrap64 ((x12.length : Int) - t394)))) t394 x30 x31 x32 x36 x12 (x12.length : Int) 0 x375000 x375001 x375002 x386000 x386001 x386002))
def impl_Chart_complete.l2 : Nat → Bool → Int → Int → List (List Int) → Int → Int → List Int → List Int → Int → Int → Int → Int → List Int → Int → Int → List Int → Option (Int × Int × List Int × Int × Bool)
  | 0, _, _, _, _, _, _, _, _, _, _, _, _, _, _, _, _ => none
  | k + 1, x8, x10, x16, x30, x31, x32, x54, x62, x63, x64, x375000, x375001, x375002, x386000, x386001, x386002 => if x64 < x63 then (if 0 ≤ x64 then (if x64 < (x62.length : Int) then ((slices_Index_int_int.f k x54 x16).bind fun t396 => (if 0 ≤ (rd x62 x64) then (if (rd x62 x64) < (x386002.length : Int) then (impl_Chart_complete.l2 k x8 x10 x16 x30 x31 x32 x54 x62 x63 (wrap64 (x64 + 1)) x375000 x375001 x375002 x386000 x386001 (x386002.set ((rd x62 x64) : Int).toNat t396)) else (none)) else (none))) else (none)) else (none)) else (impl_Chart_complete.l0 k x8 x10 x30 x31 (wrap64 (x32 + 1)) x375000 x375001 x375002 x386000 x386001 x386002)
end
def impl_Chart_complete.f (k : Nat) (a0_0 : Int) (a0_1 : Int) (l0_2 : List Int) (a1 : Int) : Option (Int × Int × List Int × Int × Bool) := (impl_orbits.f k a0_0 a0_1 a1).bind fun bt376 => ((impl_Chart_copied.f a0_0 a0_1 l0_2).bind fun bt380 => (impl_Chart_complete.l0 k bt376.2 0 bt376.1 (bt376.1.length : Int) 0 a0_0 a0_1 l0_2 bt380.1 bt380.2.1 bt380.2.2))
theorem impl_Chart_complete.mono_l : ∀ k, (∀ y0 y1 y2 y3 y4 y5 y6 y7 y8 y9 y10, LeO (impl_Chart_complete.l0 k y0 y1 y2 y3 y4 y5 y6 y7 y8 y9 y10) (impl_Chart_complete.l0 (k + 1) y0 y1 y2 y3 y4 y5 y6 y7 y8 y9 y10)) ∧ (∀ y0 y1 y2 y3 y4 y5 y6 y7 y8 y9 y10 y11 y12 y13 y14 y15, LeO (impl_Chart_complete.l1 k y0 y1 y2 y3 y4 y5 y6 y7 y8 y9 y10 y11 y12 y13 y14 y15) (impl_Chart_complete.l1 (k + 1) y0 y1 y2 y3 y4 y5 y6 y7 y8 y9 y10 y11 y12 y13 y14 y15)) ∧ (∀ y0 y1 y2 y3 y4 y5 y6 y7 y8 y9 y10 y11 y12 y13 y14 y15, LeO (impl_Chart_complete.l2 k y0 y1 y2 y3 y4 y5 y6 y7 y8 y9 y10 y11 y12 y13 y14 y15) (impl_Chart_complete.l2 (k + 1) y0 y1 y2 y3 y4 y5 y6 y7 y8 y9 y10 y11 y12 y13 y14 y15))
  | 0 => ⟨fun _ _ _ _ _ _ _ _ _ _ _ r h => by simp [impl_Chart_complete.l0] at h, fun _ _ _ _ _ _ _ _ _ _ _ _ _ _ _ _ r h => by simp [impl_Chart_complete.l1] at h, fun _ _ _ _ _ _ _ _ _ _ _ _ _ _ _ _ r h => by simp [impl_Chart_complete.l2] at h⟩
  | k + 1 => by
    obtain ⟨ih0, ih1, ih2⟩ := impl_Chart_complete.mono_l k
    refine ⟨?_, ?_, ?_⟩
    · intro y0 y1 y2 y3 y4 y5 y6 y7 y8 y9 y10
      unfold impl_Chart_complete.l0
      repeat' first
      | (with_reducible exact ih0 _ _ _ _ _ _ _ _ _ _ _)
      | (with_reducible exact ih1 _ _ _ _ _ _ _ _ _ _ _ _ _ _ _ _)
      | (with_reducible exact ih2 _ _ _ _ _ _ _ _ _ _ _ _ _ _ _ _)
      | (with_reducible exact impl_orbits.mono _ _ _ _)
      | (with_reducible exact slices_Index_int_int.mono _ _ _)
      | (with_reducible exact slices_Max_int_int.mono _ _)
      | (with_reducible exact LeO.refl _)
      | (with_reducible exact LeO.none _)
      | (with_reducible refine LeO.ite ?_ ?_)
      | (with_reducible refine LeO.bind ?_ (fun _ => ?_))
      | exact ih0 _ _ _ _ _ _ _ _ _ _ _
      | exact ih1 _ _ _ _ _ _ _ _ _ _ _ _ _ _ _ _
      | exact ih2 _ _ _ _ _ _ _ _ _ _ _ _ _ _ _ _
      | exact impl_orbits.mono _ _ _ _
      | exact slices_Index_int_int.mono _ _ _
      | exact slices_Max_int_int.mono _ _
      | exact LeO.none _
      | refine LeO.ite ?_ ?_
      | refine LeO.bind ?_ (fun _ => ?_)
    · intro y0 y1 y2 y3 y4 y5 y6 y7 y8 y9 y10 y11 y12 y13 y14 y15
      unfold impl_Chart_complete.l1
      repeat' first
      | (with_reducible exact ih0 _ _ _ _ _ _ _ _ _ _ _)
      | (with_reducible exact ih1 _ _ _ _ _ _ _ _ _ _ _ _ _ _ _ _)
      | (with_reducible exact ih2 _ _ _ _ _ _ _ _ _ _ _ _ _ _ _ _)
      | (with_reducible exact impl_orbits.mono _ _ _ _)
      | (with_reducible exact slices_Index_int_int.mono _ _ _)
      | (with_reducible exact slices_Max_int_int.mono _ _)
      | (with_reducible exact LeO.refl _)
      | (with_reducible exact LeO.none _)
      | (with_reducible refine LeO.ite ?_ ?_)
      | (with_reducible refine LeO.bind ?_ (fun _ => ?_))
      | exact ih0 _ _ _ _ _ _ _ _ _ _ _
      | exact ih1 _ _ _ _ _ _ _ _ _ _ _ _ _ _ _ _
      | exact ih2 _ _ _ _ _ _ _ _ _ _ _ _ _ _ _ _
      | exact impl_orbits.mono _ _ _ _
      | exact slices_Index_int_int.mono _ _ _
      | exact slices_Max_int_int.mono _ _
      | exact LeO.none _
      | refine LeO.ite ?_ ?_
      | refine LeO.bind ?_ (fun _ => ?_)
    · intro y0 y1 y2 y3 y4 y5 y6 y7 y8 y9 y10 y11 y12 y13 y14 y15
      unfold impl_Chart_complete.l2
      repeat' first
      | (with_reducible exact ih0 _ _ _ _ _ _ _ _ _ _ _)
      | (with_reducible exact ih1 _ _ _ _ _ _ _ _ _ _ _ _ _ _ _ _)
      | (with_reducible exact ih2 _ _ _ _ _ _ _ _ _ _ _ _ _ _ _ _)
      | (with_reducible exact impl_orbits.mono _ _ _ _)
      | (with_reducible exact slices_Index_int_int.mono _ _ _)
      | (with_reducible exact slices_Max_int_int.mono _ _)
      | (with_reducible exact LeO.refl _)
      | (with_reducible exact LeO.none _)
      | (with_reducible refine LeO.ite ?_ ?_)
      | (with_reducible refine LeO.bind ?_ (fun _ => ?_))
      | exact ih0 _ _ _ _ _ _ _ _ _ _ _
      | exact ih1 _ _ _ _ _ _ _ _ _ _ _ _ _ _ _ _
      | exact ih2 _ _ _ _ _ _ _ _ _ _ _ _ _ _ _ _
      | exact impl_orbits.mono _ _ _ _
      | exact slices_Index_int_int.mono _ _ _
      | exact slices_Max_int_int.mono _ _
      | exact LeO.none _
      | refine LeO.ite ?_ ?_
      | refine LeO.bind ?_ (fun _ => ?_)
theorem impl_Chart_complete.mono : ∀ a0 a1 a2 a3 k, LeO (impl_Chart_complete.f k a0 a1 a2 a3) (impl_Chart_complete.f (k + 1) a0 a1 a2 a3) := by
  intro a0 a1 a2 a3 k
  obtain ⟨ih0, ih1, ih2⟩ := impl_Chart_complete.mono_l k
  unfold impl_Chart_complete.f
  repeat' first
      | (with_reducible exact ih0 _ _ _ _ _ _ _ _ _ _ _)
      | (with_reducible exact ih1 _ _ _ _ _ _ _ _ _ _ _ _ _ _ _ _)
      | (with_reducible exact ih2 _ _ _ _ _ _ _ _ _ _ _ _ _ _ _ _)
      | (with_reducible exact impl_orbits.mono _ _ _ _)
      | (with_reducible exact slices_Index_int_int.mono _ _ _)
      | (with_reducible exact slices_Max_int_int.mono _ _)
      | (with_reducible exact LeO.refl _)
      | (with_reducible exact LeO.none _)
      | (with_reducible refine LeO.ite ?_ ?_)
      | (with_reducible refine LeO.bind ?_ (fun _ => ?_))
      | exact ih0 _ _ _ _ _ _ _ _ _ _ _
      | exact ih1 _ _ _ _ _ _ _ _ _ _ _ _ _ _ _ _
      | exact ih2 _ _ _ _ _ _ _ _ _ _ _ _ _ _ _ _
      | exact impl_orbits.mono _ _ _ _
      | exact slices_Index_int_int.mono _ _ _
      | exact slices_Max_int_int.mono _ _
      | exact LeO.none _
      | refine LeO.ite ?_ ?_
      | refine LeO.bind ?_ (fun _ => ?_)
def impl_Chart_complete.T17 : Bool × List (List Nat × List Nat) := (true, [([], []), ([0], [0]), ([], []), ([], []), ([], []), ([3, 4], [3, 4]), ([1, 2, 0, 1, 2, 3, 4, 5], [1, 2]), ([6, 5, 5, 0, 1, 2, 3, 4, 5], [5, 6])])
def impl_Chart_complete.B17 : List Nat := [0, 1, 0, 0, 0, 24, 63, 127]
theorem impl_Chart_complete.tab17 : rtab .any (opsOf Try.f147 17) = impl_Chart_complete.T17 := by kernel_rfl
theorem impl_Chart_complete.bits17 : waitsOk impl_Chart_complete.T17.2 impl_Chart_complete.B17 = true := by kernel_rfl
set_option maxHeartbeats 8000000 in
set_option maxRecDepth 100000 in
theorem impl_Chart_complete.calls (k : Nat) (a0_0 : Int) (a0_1 : Int) (A0_2 : Option Addr) (c0_2 : Nat) (l0_2 : List Int) (a1 : Int) (r1 : Int) (r2 : Int) (r3 : List Int) (r4 : Int) (r5 : Bool) (w : World) (hr0_2 : Kd.C (Kd.int .i64) w A0_2 l0_2.length l0_2) (hc0_2 : l0_2.length ≤ c0_2) (h : impl_Chart_complete.f k a0_0 a0_1 l0_2 a1 = some (r1, r2, r3, r4, r5)) :
  Calls Try.prog 147 #[.agg #[.int .i64 a0_0, .int .i64 a0_1, .slice A0_2 l0_2.length c0_2], .int .i64 a1] w fun e w' => ∃ v2_ : Value, e = .returned (.tuple #[.agg #[.int .i64 r1, .int .i64 r2, v2_], .int .i64 r4, .bool r5]) ∧ Kd.R (Kd.int .i64) 3 w' w.heap.size (fun _ => True) v2_ r3 ∧ Below w.heap.size w w' := by
 have hu26 := Try.underlying26
 have HR0_2 := Aside0.mk hr0_2
 have HC0_2 := Aside0.mk hc0_2
 clear hr0_2 hc0_2
 have HB := Aside0.mk (Below.refl w.heap.size w)
 have H : ((impl_orbits.f k a0_0 a0_1 a1).bind fun bt376 => ((impl_Chart_copied.f a0_0 a0_1 l0_2).bind fun bt380 => (impl_Chart_complete.l0 k bt376.2 0 bt376.1 (bt376.1.length : Int) 0 a0_0 a0_1 l0_2 bt380.1 bt380.2.1 bt380.2.2))) = some (r1, r2, r3, r4, r5) := h
 clear h
 replace H := Option.bind_eq_some_iff.mp H
 obtain ⟨⟨t376, t377⟩, A30, H⟩ := H
 replace H : ((impl_Chart_copied.f a0_0 a0_1 l0_2).bind fun bt380 => (impl_Chart_complete.l0 k t377 0 t376 (t376.length : Int) 0 a0_0 a0_1 l0_2 bt380.1 bt380.2.1 bt380.2.2)) = some (r1, r2, r3, r4, r5) := H
 have A3 := Aside0.mk A30
 clear A30
 replace H := Option.bind_eq_some_iff.mp H
 obtain ⟨⟨t380, t381, t382⟩, A40, H⟩ := H
 replace H : (impl_Chart_complete.l0 k t377 0 t376 (t376.length : Int) 0 a0_0 a0_1 l0_2 t380 t381 t382) = some (r1, r2, r3, r4, r5) := H
 have A4 := Aside0.mk A40
 clear A40
 have H' := Aside0.mk H
 clear H
 go_enter Try.func147, Try.ntmps147
 go_wp2_with (first | ((with_reducible refine gate_dst (N := 2) rfl ?_); refine box_ (N := 2) (cs := #[.int .i64 a0_0, .int .i64 a0_1, .slice A0_2 l0_2.length c0_2]) (t := 26) ?_; intro gb374 hg w5 hbox hb; have BK374 := Aside0.mk (hbox); have GW374 := gz_ w hg; have GE374 := gz_ w hg; replace HB := Aside0.mk (below_step (bw_ w) hb); clear hb hbox hg) | ((with_reducible refine gate_dst (N := 4) rfl ?_); refine box_ (N := 4) (cs := #[.int .i64 0, .int .i64 0, .slice none 0 0]) (t := 26) ?_; intro gb375 hg w6 hbox hb; have n0_ := bb_ BK374 hb; have n1_ := Aside0.mk (below_step (bw_ w) hb); have n2_ := Aside0.mk (hbox); have n3_ := gz_ w hg; have n4_ := gz_ w hg; have n5_ := ne_ hg BK374; have n6_ := en_ hg BK374; clear BK374; clear HB; have BK374 := n0_; have HB := n1_; have BK375 := n2_; have GW375 := n3_; have GE375 := n4_; have NB374_375 := n5_; have NB375_374 := n6_; clear n0_ n1_ n2_ n3_ n4_ n5_ n6_; clear hb hbox hg; have hnb7 := NB374_375.out; have hnc7 := NB375_374.out; obtain ⟨hcz8_0, hcz8_1, hcz8_2, hfz8_0, hfz8_1, hfz8_2⟩ := bc3_ (w := w6) BK374) | ((with_reducible refine gate_callee (f := 236) rfl ?_); refine goesB (some 25) Try.func236 #[.int .i64 a0_0, .int .i64 a0_1, .int .i64 a1] ?_; (with_reducible refine (impl_orbits.calls k a0_0 a0_1 a1 t376 t377 _ A3.out).mono ?_); rintro e w9 ⟨v378, rfl, ho0, hb⟩; refine ⟨_, rfl, ?_⟩; have HO379 := Aside0.mk (Kd.S_lower ho0 (below_size (bw_ w))); replace BK374 := bb_ BK374 hb; replace BK375 := bb_ BK375 hb; replace HB := Aside0.mk (below_step (bw_ w) hb); (try clear hb); (try clear hb2); (try clear hk); (try clear hi); (try clear ho0); obtain ⟨hcz10_0, hcz10_1, hcz10_2, hfz10_0, hfz10_1, hfz10_2⟩ := bc3_ (w := w9) BK374) | ((with_reducible refine gate_callee (f := 140) rfl ?_); refine goesB (some 29) Try.func140 #[.agg #[.int .i64 a0_0, .int .i64 a0_1, .slice A0_2 l0_2.length c0_2]] ?_; (with_reducible refine (impl_Chart_copied.calls a0_0 a0_1 _ _ l0_2 t380 t381 t382 _ ?side1 ?side2 A4.out).mono ?_); (case side1 => exact cb_ HR0_2 HB); (case side2 => exact HC0_2.out); rintro e w11 ⟨v383, rfl, ho0, hb⟩; refine ⟨_, rfl, ?_⟩; have n0_ := Aside0.mk (Kd.S_elder' (by (with_reducible repeat (first | apply Kd.S_alloc | apply Kd.S_drewN | apply Kd.S_drew)); exact HO379.out) (Kd.R_base ho0) hb); have n1_ := Aside0.mk (Kd.R_lower ho0 (below_size (bw_ w))); have n2_ := bb_ BK374 hb; have n3_ := bb_ BK375 hb; have n4_ := Aside0.mk (below_step (bw_ w) hb); clear HO379; clear BK374; clear BK375; clear HB; have HO379 := n0_; have HO384 := n1_; have BK374 := n2_; have BK375 := n3_; have HB := n4_; clear n0_ n1_ n2_ n3_ n4_; (try clear hb); (try clear hb2); (try clear hk); (try clear hi); (try clear ho0)) | ((with_reducible refine gate_dst (N := 9) rfl ?_); refine box_ (N := 9) (cs := #[.int .i64 0, .int .i64 0, .slice none 0 0]) (t := 26) ?_; intro gb385 hg w12 hbox hb; have n0_ := Aside0.mk (Kd.S_below (by (with_reducible repeat (first | apply Kd.S_alloc | apply Kd.S_drewN | apply Kd.S_drew)); exact HO379.out) hb); have n1_ := Aside0.mk (Kd.R_below (ra_ HO384) hb); have n2_ := bb_ BK374 hb; have n3_ := bb_ BK375 hb; have n4_ := Aside0.mk (below_step (bw_ w) hb); have n5_ := Aside0.mk (hbox); have n6_ := gz_ w hg; have n7_ := gz_ w hg; have n8_ := ne_ hg BK374; have n9_ := en_ hg BK374; have n10_ := ne_ hg BK375; have n11_ := en_ hg BK375; clear HO379; clear HO384; clear BK374; clear BK375; clear HB; have HO379 := n0_; have HO384 := n1_; have BK374 := n2_; have BK375 := n3_; have HB := n4_; have BK385 := n5_; have GW385 := n6_; have GE385 := n7_; have NB374_385 := n8_; have NB385_374 := n9_; have NB375_385 := n10_; have NB385_375 := n11_; clear n0_ n1_ n2_ n3_ n4_ n5_ n6_ n7_ n8_ n9_ n10_ n11_; clear hb hbox hg; have hnb13 := NB385_374.out; have hnc13 := NB374_385.out; have hnb14 := NB385_375.out; have hnc14 := NB375_385.out; obtain ⟨hcz15_0, hcz15_1, hcz15_2, hfz15_0, hfz15_1, hfz15_2⟩ := bc3_ (w := w12) BK385; obtain ⟨Ao16, co16, eo16⟩ := Kd.R_slice HO384.out; subst eo16; obtain ⟨Ao17, co17, eo17⟩ := Kd.S_slice HO379.out; subst eo17))
 go_loopg [10, 32] k (fun kq v10 v32 w' => ∃ (x10_1 : Int) (x32_1 : Int) (x386002_1 : List Int) (u386002 : Value), v10 = .int .i64 x10_1 ∧ v32 = .int .i64 x32_1 ∧ Aside0 (impl_Chart_complete.l0 kq t377 x10_1 t376 (t376.length : Int) x32_1 a0_0 a0_1 l0_2 t380 t381 x386002_1 = some (r1, r2, r3, r4, r5)) ∧ Aside0 (kq ≤ k) ∧ Aside0 (Kd.S (Kd.slice 3 (Kd.int .i64)) 22 w' w.heap.size (fun k_ => some k_ ≠ (u386002 : Value).ownBlock) (.slice Ao17 t376.length co17) t376) ∧ Aside0 (Kd.R (Kd.int .i64) 3 w' w.heap.size (fun _ => True) u386002 x386002_1) ∧ Aside0 (w'.heap[gb374]? = some (.cells #[.int .i64 a0_0, .int .i64 a0_1, (.slice A0_2 l0_2.length c0_2)] 26 (0, 0))) ∧ Aside0 (w'.heap[gb375]? = some (.cells #[.int .i64 0, .int .i64 0, (.slice none 0 0)] 26 (0, 0))) ∧ Aside0 (w'.heap[gb385]? = some (.cells #[.int .i64 t380, .int .i64 t381, u386002] 26 (0, 0))) ∧ Aside0 (Below w.heap.size w w'))
 case atStart => exact ⟨(0), (0), (t382), (.slice Ao16 t382.length co16), (by first | rfl | (simp; done) | (simp [*]; done)), (by first | rfl | (simp; done) | (simp [*]; done)), H', ⟨Nat.le_refl _⟩, ⟨by (with_reducible repeat (first | apply Kd.S_alloc | apply Kd.S_drewN | apply Kd.S_drew)); exact Kd.S_mono (Kd.S_far (p := ⟨gb385, 2, none⟩) (Kd.S_far (p := ⟨gb385, 1, none⟩) (Kd.S_far (p := ⟨gb385, 0, none⟩) (Kd.S_types HO379.out BK385.out (by decide)) (fun _ hk => hk.2) (.int .i64 t380)) (fun _ hk => hk.2) (.int .i64 t381)) (fun _ hk => hk.2) (.slice Ao16 t382.length co16)) (fun _ hk => hk.1.2)⟩, ⟨by exact rf_ (Kd.R_types HO384.out BK385.out (by decide)) (fun _ hk => trivial)⟩, ⟨bk_ BK374⟩, ⟨bk_ BK375⟩, ⟨bq_ BK385⟩, ⟨(bw_ w)⟩⟩
 case round =>
  clear H'
  try clear c1
  try clear c2
  try clear p2
  try clear c7
  try clear c13
  try clear c14
  try clear hcz10_0
  try clear hcz10_1
  try clear hcz10_2
  try clear hcz15_0
  try clear hcz15_1
  try clear hcz15_2
  try clear hcz8_0
  try clear hcz8_1
  try clear hcz8_2
  try clear hfz10_0
  try clear hfz10_1
  try clear hfz10_2
  try clear hfz15_0
  try clear hfz15_1
  try clear hfz15_2
  try clear hfz8_0
  try clear hfz8_1
  try clear hfz8_2
  obtain ⟨x10_1, x32_1, x386002_1, u386002, rfl, rfl, HA, HK1, HO_30, HO_386002, BK374, BK375, BK385, HB⟩ := hrel
  cases gk with
  | zero => exact absurd HA.out (by simp [impl_Chart_complete.l0])
  | succ k1 =>
   have H := HA.out
   clear HA
   simp only [impl_Chart_complete.l0] at H
   by_cases c18 : x32_1 < (t376.length : Int)
   ·rw [if_pos c18] at H
    have c18b0 : decide (x32_1 < (t376.length : Int)) = true := decide_eq_true c18
    clear c18
    by_cases c19 : 0 ≤ x32_1
    ·rw [if_pos c19] at H
     have c19b0 : decide (0 ≤ x32_1) = true := decide_eq_true c19
     clear c19
     by_cases c20 : x32_1 < (t376.length : Int)
     ·rw [if_pos c20] at H
      have c20b0 : decide (x32_1 < (t376.length : Int)) = true := decide_eq_true c20
      clear c20
      by_cases c21 : 6 ≤ 35184372088832
      ·rw [if_pos c21] at H
       have c21b0 := eq_true c21
       have c21b1 : decide (6 ≤ 35184372088832) = true := decide_eq_true c21
       clear c21
       obtain ⟨y387, hy387⟩ : ∃ y_ : List Int, y_ = (List.replicate 6 0) := ⟨_, rfl⟩
       replace H : (impl_Chart_complete.l1 k1 t377 x10_1 (rd_L1 t376 x32_1) t376 (t376.length : Int) x32_1 y387 (rd_L1 t376 x32_1) ((rd_L1 t376 x32_1).length : Int) 0 a0_0 a0_1 l0_2 t380 t381 x386002_1) = some (r1, r2, r3, r4, r5) := by first | (rw [hy387]; with_reducible exact H) | (have H2_ := (Option.bind_some _ _).symm.trans H; rw [hy387]; with_reducible exact H2_) | (have H2_ := (Option.bind_some _ _).symm.trans H; with_reducible exact H2_) | with_reducible exact H | (rw [hy387]; exact H) | exact H
       have Ny387 := Aside0.mk hy387
       clear hy387
       have H' := Aside0.mk H
       clear H
       have p386 : 0 ≤ (x32_1 : Int) := of_decide_eq_true (by first | (with_reducible assumption) | assumption)
       have q386 : x32_1 < (t376.length : Int) := of_decide_eq_true (by first | (with_reducible assumption) | assumption)
       obtain ⟨ad386, A386_0, c386_0, e386, hx386_0, hl386_0, hi386_0⟩ := at_L1 (Kd.S_reads' HO_30.out).2.2 x32_1 p386 q386
       cases e386
       obtain ⟨ce386, hce386, hMe386, hcc386⟩ := Kd.S_get HO_30.out [] x32_1 p386 (by first | exact q386 | exact of_decide_eq_true (by first | (with_reducible assumption) | assumption) | (have e_ := (Kd.S_reads' HO_30.out).1; omega))
       obtain ⟨ve386_0, rfl, ge386_0⟩ := hMe386
       have hv386_0 := hcc386 0 _ rfl
       rw [Nat.add_zero, show ((Kd.slice 3 (Kd.int .i64))).sz = 1 from rfl, Nat.mul_one] at hv386_0
       replace hv386_0 := Option.some.inj (hv386_0.symm.trans hx386_0)
       rw [hv386_0] at ge386_0
       have HL386_0 := Aside0.mk (show Kd.R (Kd.int .i64) 3 _ _ _ _ (rd_L1 t376 x32_1) from ge386_0)
       clear hv386_0 ge386_0
       clear hcc386 hce386
       have HR386_0 := Aside0.mk hi386_0
       have HC386_0 := Aside0.mk hl386_0
       clear hi386_0 hl386_0
       replace p386 := eq_true p386
       replace q386 := eq_true q386
       go_wp2_with (first | ((with_reducible refine gate_dst (N := 36) rfl ?_); refine Kd.R_make (Kd.int .i64) _ 3 rfl (N := 36) rfl 22 _ _ rfl 6 rfl rfl Try.underlying22 (.int .i64 0) 8 info3 rfl (by decide) (by omega) 0 (ok := fun _ => True) (okp := fun _ => True) rfl (fun _ hk => hk) trivial (by omega) (by omega) (Below.refl _ _) (Nat.le_refl _) ?_; intro v388 w22 ho23 hb hg_ hnew_; clear hg_ hnew_; (first | rw [← Ny387.out] at ho23 | (simp only [Int.reduceToNat] at ho23; rw [← Ny387.out] at ho23)); have n0_ := Aside0.mk (Kd.S_elder' (by (with_reducible repeat (first | apply Kd.S_alloc | apply Kd.S_drewN | apply Kd.S_drew)); exact HO_30.out) (Kd.R_base ho23) hb); have n1_ := Aside0.mk (Kd.R_elder' (ra_ HO_386002) (Kd.R_base ho23) hb); have n2_ := Aside0.mk (Kd.R_elder' (by (with_reducible repeat (first | apply Kd.R_alloc | apply Kd.R_drewN | apply Kd.R_drew)); exact HL386_0.out) (Kd.R_base ho23) hb); have n3_ := Aside0.mk (Kd.R_lower (Kd.R_new' (Kd.R_new' ho23 (Kd.R_lt (ra_ HO_386002))) (Kd.R_lt (by (with_reducible repeat (first | apply Kd.R_alloc | apply Kd.R_drewN | apply Kd.R_drew)); exact HL386_0.out))) (below_size (bw_ w))); have n4_ := bb_ BK374 hb; have n5_ := bb_ BK375 hb; have n6_ := bb_ BK385 hb; have n7_ := Aside0.mk (Kd.C_below (by repeat (first | (with_reducible exact HR386_0.out) | (with_reducible refine Kd.C_alloc ?_ _) | (with_reducible refine Kd.C_drewN ?_ _) | (with_reducible refine Kd.C_drew ?_) | exact HR386_0.out)) hb); have n8_ := Aside0.mk (below_step (bw_ w) hb); clear HO_30; clear HO_386002; clear HL386_0; clear BK374; clear BK375; clear BK385; clear HR386_0; clear HB; have HO_30 := n0_; have HO_386002 := n1_; have HL386_0 := n2_; have HO389 := n3_; have BK374 := n4_; have BK375 := n5_; have BK385 := n6_; have HR386_0 := n7_; have HB := n8_; clear n0_ n1_ n2_ n3_ n4_ n5_ n6_ n7_ n8_; clear hb ho23))
       go_loopg [39] k1 (fun kq v39 w' => ∃ (x36_2 : List Int) (x39_2 : Int), v39 = .int .i64 x39_2 ∧ Aside0 (impl_Chart_complete.l1 kq t377 x10_1 (rd_L1 t376 x32_1) t376 (t376.length : Int) x32_1 x36_2 (rd_L1 t376 x32_1) ((rd_L1 t376 x32_1).length : Int) x39_2 a0_0 a0_1 l0_2 t380 t381 x386002_1 = some (r1, r2, r3, r4, r5)) ∧ Aside0 (kq ≤ k1) ∧ Aside0 (Kd.R (Kd.int .i64) 3 w' w.heap.size (fun k_ => some k_ ≠ (v388 : Value).ownBlock ∧ some k_ ≠ (u386002 : Value).ownBlock) (.slice A386_0 (rd_L1 t376 x32_1).length c386_0) (rd_L1 t376 x32_1)) ∧ Aside0 (Kd.S (Kd.slice 3 (Kd.int .i64)) 22 w' w.heap.size (fun k_ => some k_ ≠ (v388 : Value).ownBlock ∧ some k_ ≠ (u386002 : Value).ownBlock) (.slice (some ad386) t376.length co17) t376) ∧ Aside0 (Kd.R (Kd.int .i64) 3 w' w.heap.size (fun k_ => some k_ ≠ ((.slice A386_0 (rd_L1 t376 x32_1).length c386_0) : Value).ownBlock ∧ some k_ ≠ ((.slice A386_0 (rd_L1 t376 x32_1).length c386_0) : Value).ownBlock ∧ some k_ ≠ (u386002 : Value).ownBlock) v388 x36_2) ∧ Aside0 (Kd.R (Kd.int .i64) 3 w' w.heap.size (fun k_ => some k_ ≠ (v388 : Value).ownBlock ∧ some k_ ≠ (u386002 : Value).ownBlock) (.slice A386_0 (rd_L1 t376 x32_1).length c386_0) (rd_L1 t376 x32_1)) ∧ Aside0 (Kd.R (Kd.int .i64) 3 w' w.heap.size (fun k_ => some k_ ≠ ((.slice A386_0 (rd_L1 t376 x32_1).length c386_0) : Value).ownBlock ∧ some k_ ≠ (v388 : Value).ownBlock ∧ some k_ ≠ ((.slice A386_0 (rd_L1 t376 x32_1).length c386_0) : Value).ownBlock) u386002 x386002_1) ∧ Aside0 (w'.heap[gb374]? = some (.cells #[.int .i64 a0_0, .int .i64 a0_1, (.slice A0_2 l0_2.length c0_2)] 26 (0, 0))) ∧ Aside0 (w'.heap[gb375]? = some (.cells #[.int .i64 0, .int .i64 0, (.slice none 0 0)] 26 (0, 0))) ∧ Aside0 (w'.heap[gb385]? = some (.cells #[.int .i64 t380, .int .i64 t381, u386002] 26 (0, 0))) ∧ Aside0 (Below w.heap.size w w'))
       case atStart => exact ⟨(y387), (0), (by first | rfl | (simp; done) | (simp [*]; done)), H', ⟨Nat.le_refl _⟩, ⟨by (with_reducible repeat (first | apply Kd.R_alloc | apply Kd.R_drewN | apply Kd.R_drew)); exact Kd.R_mono HL386_0.out (fun _ hk => ⟨hk.2, hk.1.1⟩)⟩, ⟨by (with_reducible repeat (first | apply Kd.S_alloc | apply Kd.S_drewN | apply Kd.S_drew)); exact Kd.S_mono HO_30.out (fun _ hk => ⟨hk.2, hk.1⟩)⟩, ⟨by exact rf_ HO389.out (fun _ hk => ⟨hk.2, ⟨hk.2, hk.1.2⟩⟩)⟩, ⟨by (with_reducible repeat (first | apply Kd.R_alloc | apply Kd.R_drewN | apply Kd.R_drew)); exact Kd.R_mono HL386_0.out (fun _ hk => ⟨hk.2, hk.1.1⟩)⟩, ⟨by (with_reducible repeat (first | apply Kd.R_alloc | apply Kd.R_drewN | apply Kd.R_drew)); exact Kd.R_mono (Kd.R_mono (Kd.R_tight2 rfl HO_386002.out) (fun k_ hk => (⟨hk.2, fun e_ => ((HL386_0.out.1 k_ e_.symm).1.1) hk.1⟩ : _ ∧ some k_ ≠ (.slice A386_0 (rd_L1 t376 x32_1).length c386_0 : Value).ownBlock))) (fun _ hk => ⟨hk.2, ⟨hk.1.2, hk.2⟩⟩)⟩, ⟨bk_ BK374⟩, ⟨bk_ BK375⟩, ⟨bk_ BK385⟩, ⟨(bw_ w)⟩⟩
       case round =>
        clear H'
        try clear c1
        try clear c2
        try clear p2
        try clear c3
        try clear p3
        try clear q3
        try clear hx3
        try clear c7
        try clear c13
        try clear c14
        try clear c18
        try clear c18b0
        try clear c19
        try clear c19b0
        try clear c20
        try clear c20b0
        try clear c21
        try clear c21b0
        try clear c21b1
        try clear c23
        try clear hcz10_0
        try clear hcz10_1
        try clear hcz10_2
        try clear hcz15_0
        try clear hcz15_1
        try clear hcz15_2
        try clear hcz8_0
        try clear hcz8_1
        try clear hcz8_2
        try clear hfz10_0
        try clear hfz10_1
        try clear hfz10_2
        try clear hfz15_0
        try clear hfz15_1
        try clear hfz15_2
        try clear hfz8_0
        try clear hfz8_1
        try clear hfz8_2
        try clear hx386_0
        try clear p2
        try clear p386
        try clear q386
        obtain ⟨x36_2, x39_2, rfl, HA, HK2, HO_12, HO_30, HO_36, HO_37, HO_386002, BK374, BK375, BK385, HB⟩ := hrel
        cases gk with
        | zero => exact absurd HA.out (by simp [impl_Chart_complete.l1])
        | succ k2 =>
         have H := HA.out
         clear HA
         simp only [impl_Chart_complete.l1] at H
         by_cases c24 : x39_2 < ((rd_L1 t376 x32_1).length : Int)
         ·rw [if_pos c24] at H
          have c24b0 : decide (x39_2 < ((rd_L1 t376 x32_1).length : Int)) = true := decide_eq_true c24
          clear c24
          by_cases c25 : 0 ≤ x39_2
          ·rw [if_pos c25] at H
           have c25b0 : decide (0 ≤ x39_2) = true := decide_eq_true c25
           clear c25
           by_cases c26 : x39_2 < ((rd_L1 t376 x32_1).length : Int)
           ·rw [if_pos c26] at H
            have c26b0 : decide (x39_2 < ((rd_L1 t376 x32_1).length : Int)) = true := decide_eq_true c26
            clear c26
            by_cases c27 : 0 ≤ (rd (rd_L1 t376 x32_1) x39_2)
            ·rw [if_pos c27] at H
             have c27b0 : decide (0 ≤ (rd (rd_L1 t376 x32_1) x39_2)) = true := decide_eq_true c27
             clear c27
             by_cases c28 : (rd (rd_L1 t376 x32_1) x39_2) < (l0_2.length : Int)
             ·rw [if_pos c28] at H
              have c28b0 : decide ((rd (rd_L1 t376 x32_1) x39_2) < (l0_2.length : Int)) = true := decide_eq_true c28
              clear c28
              by_cases c29 : 0 ≤ (rd l0_2 (rd (rd_L1 t376 x32_1) x39_2))
              ·rw [if_pos c29] at H
               have c29b0 : decide (0 ≤ (rd l0_2 (rd (rd_L1 t376 x32_1) x39_2))) = true := decide_eq_true c29
               clear c29
               by_cases c30 : (rd l0_2 (rd (rd_L1 t376 x32_1) x39_2)) < (x36_2.length : Int)
               ·rw [if_pos c30] at H
                have c30b0 : decide ((rd l0_2 (rd (rd_L1 t376 x32_1) x39_2)) < (x36_2.length : Int)) = true := decide_eq_true c30
                clear c30
                obtain ⟨y393, hy393⟩ : ∃ y_ : List Int, y_ = (x36_2.set ((rd l0_2 (rd (rd_L1 t376 x32_1) x39_2)) : Int).toNat (wrap64 ((rd x36_2 (rd l0_2 (rd (rd_L1 t376 x32_1) x39_2))) + 1))) := ⟨_, rfl⟩
                replace H : (impl_Chart_complete.l1 k2 t377 x10_1 (rd_L1 t376 x32_1) t376 (t376.length : Int) x32_1 y393 (rd_L1 t376 x32_1) ((rd_L1 t376 x32_1).length : Int) (wrap64 (x39_2 + 1)) a0_0 a0_1 l0_2 t380 t381 x386002_1) = some (r1, r2, r3, r4, r5) := by first | (rw [hy393]; with_reducible exact H) | (have H2_ := (Option.bind_some _ _).symm.trans H; rw [hy393]; with_reducible exact H2_) | (have H2_ := (Option.bind_some _ _).symm.trans H; with_reducible exact H2_) | with_reducible exact H | (rw [hy393]; exact H) | exact H
                have Ny393 := Aside0.mk hy393
                clear hy393
                have H' := Aside0.mk H
                clear H
                have p390 : 0 ≤ (x39_2 : Int) := of_decide_eq_true (by first | (with_reducible assumption) | assumption)
                have q390 : x39_2 < ((rd_L1 t376 x32_1).length : Int) := of_decide_eq_true (by first | (with_reducible assumption) | assumption)
                obtain ⟨ad390, e390, hx390_0⟩ := Kd.at_int (Kd.R_reads' HO_37.out).2.2 x39_2 p390 q390
                cases e390
                replace p390 := eq_true p390
                replace q390 := eq_true q390
                have hnb32 := NB374_375.out
                have hnc32 := NB375_374.out
                have hnb33 := NB374_385.out
                have hnc33 := NB385_374.out
                obtain ⟨hcz34_0, hcz34_1, hcz34_2, hfz34_0, hfz34_1, hfz34_2⟩ := bc3_ (w := wr) BK374
                have p391 : 0 ≤ ((rd (rd_L1 t376 x32_1) x39_2) : Int) := of_decide_eq_true (by first | (with_reducible assumption) | assumption)
                have q391 : (rd (rd_L1 t376 x32_1) x39_2) < (l0_2.length : Int) := of_decide_eq_true (by first | (with_reducible assumption) | assumption)
                obtain ⟨ad391, e391, hx391_0⟩ := Kd.at_int HR0_2.out (rd (rd_L1 t376 x32_1) x39_2) p391 q391
                cases e391
                replace hx391_0 := (HB.out.cell (World.block_lt_of_cell? w _ hx391_0)).trans hx391_0
                replace p391 := eq_true p391
                replace q391 := eq_true q391
                obtain ⟨Ao35, co35, eo35⟩ := Kd.R_slice HO_36.out
                subst eo35
                have p392 : 0 ≤ ((rd l0_2 (rd (rd_L1 t376 x32_1) x39_2)) : Int) := of_decide_eq_true (by first | (with_reducible assumption) | assumption)
                have q392 : (rd l0_2 (rd (rd_L1 t376 x32_1) x39_2)) < (x36_2.length : Int) := of_decide_eq_true (by first | (with_reducible assumption) | assumption)
                obtain ⟨ad392, e392, hx392_0⟩ := Kd.at_int (Kd.R_reads' HO_36.out).2.2 (rd l0_2 (rd (rd_L1 t376 x32_1) x39_2)) p392 q392
                cases e392
                replace p392 := eq_true p392
                replace q392 := eq_true q392
                have p31 : 0 ≤ ((rd l0_2 (rd (rd_L1 t376 x32_1) x39_2)) : Int) := of_decide_eq_true (by first | (with_reducible assumption) | assumption)
                have q31 : ((rd l0_2 (rd (rd_L1 t376 x32_1) x39_2)) : Int) < ((x36_2.length : Int) : Int) := of_decide_eq_true (by first | (with_reducible assumption) | assumption)
                obtain ⟨go31, co31, eo31, gb31, gl31, cl31, HG31⟩ := Kd.R_form HO_36.out (by omega)
                (first | cases eo31 | (injection eo31 with ea_ en_ ec_; (first | subst ea_ | (injection ea_ with ea_; subst ea_)); subst ec_; clear en_))
                have GB31 := Aside0.mk gb31
                have GG31 := Aside0.mk HG31
                clear gb31 gl31 HG31
                (first | simp only [add_plain] at hx392_0 | skip)
                obtain ⟨hx31_0, hf31_0⟩ := Kd.R_celln 0 HO_36.out ((rd l0_2 (rd (rd_L1 t376 x32_1) x39_2)) : Int) p31 q31
                replace p31 := eq_true p31
                replace q31 := eq_true q31
                have HP36 := Kd.R_putg HO_36.out ((rd l0_2 (rd (rd_L1 t376 x32_1) x39_2)) : Int) (wrap64 ((rd x36_2 (rd l0_2 (rd (rd_L1 t376 x32_1) x39_2))) + 1))
                go_wp2_with (first | ((with_reducible refine gate_store (t := 3) (p := 52) rfl ?_); refine store_event (t := 3) (p := 52) (v := ?vo_w37) (w1 := (wr.setCell ⟨go31, ((rd l0_2 (rd (rd_L1 t376 x32_1) x39_2)) : Int).toNat, none⟩ (.int .i64 (wrap64 ((rd x36_2 (rd l0_2 (rd (rd_L1 t376 x32_1) x39_2))) + 1))))) ?hg ?ho ?hn ?hr ?_; (case ho => rfl); (case hg => rfl); (case hn => rfl); (case hr => first | (go_simp; done) | (go_simp; rfl)); intro w37 hw; have hg : wr.grownBy w37 (some go31) := (by rw [hw]; exact HP36.2); have hp_ : Kd.R (Kd.int .i64) 3 w37 w.heap.size (fun k_ => some k_ ≠ (.slice (some ad390) (rd_L1 t376 x32_1).length c386_0 : Value).ownBlock ∧ some k_ ≠ (.slice (some ad390) (rd_L1 t376 x32_1).length c386_0 : Value).ownBlock ∧ some k_ ≠ (u386002 : Value).ownBlock) (.slice (some ⟨go31, 0, none⟩) x36_2.length co35) y393 := (by rw [hw, Ny393.out]; exact HP36.1); clear HP36; have n0_ := Aside0.mk (Kd.R_after (v := (.slice (some ⟨go31, 0, none⟩) x36_2.length co35)) (v1 := (.slice (some ⟨go31, 0, none⟩) x36_2.length co35)) (ok := (fun k_ => some k_ ≠ (u386002 : Value).ownBlock)) (by exact rf_ HO_12.out (fun _ hk => ⟨hk.2, hk.1⟩)) hg (.inl rfl)); have n1_ := Aside0.mk (Kd.S_after (v := (.slice (some ⟨go31, 0, none⟩) x36_2.length co35)) (v1 := (.slice (some ⟨go31, 0, none⟩) x36_2.length co35)) (ok := (fun k_ => some k_ ≠ (u386002 : Value).ownBlock)) (by (with_reducible repeat (first | apply Kd.S_alloc | apply Kd.S_drewN | apply Kd.S_drew)); exact Kd.S_mono HO_30.out (fun _ hk => ⟨hk.2, hk.1⟩)) hg (.inl rfl)); have n2_ := Aside0.mk (hp_); have n3_ := Aside0.mk (Kd.R_after (v := (.slice (some ⟨go31, 0, none⟩) x36_2.length co35)) (v1 := (.slice (some ⟨go31, 0, none⟩) x36_2.length co35)) (ok := (fun k_ => some k_ ≠ (u386002 : Value).ownBlock)) (by exact rf_ HO_37.out (fun _ hk => ⟨hk.2, hk.1⟩)) hg (.inl rfl)); have n4_ := Aside0.mk (Kd.R_after (v := (.slice (some ⟨go31, 0, none⟩) x36_2.length co35)) (v1 := (.slice (some ⟨go31, 0, none⟩) x36_2.length co35)) (ok := (fun k_ => some k_ ≠ (.slice (some ad390) (rd_L1 t376 x32_1).length c386_0 : Value).ownBlock ∧ some k_ ≠ (.slice (some ad390) (rd_L1 t376 x32_1).length c386_0 : Value).ownBlock)) (by exact rf_ HO_386002.out (fun _ hk => ⟨⟨hk.1, hk.2.2⟩, hk.2.1⟩)) hg (.inl rfl)); have n5_ := Aside0.mk (blk_grown (g := gb374) (o := .cells #[.int .i64 a0_0, .int .i64 a0_1, .slice (some ad391) l0_2.length c0_2] 26 (0, 0)) (bk_ BK374) hg (Kd.R_ne HO_36.out BK374.out (by decide))); have n6_ := Aside0.mk (blk_grown (g := gb375) (o := .cells #[.int .i64 0, .int .i64 0, .slice none 0 0] 26 (0, 0)) (bk_ BK375) hg (Kd.R_ne HO_36.out BK375.out (by decide))); have n7_ := Aside0.mk (blk_grown (g := gb385) (o := .cells #[.int .i64 t380, .int .i64 t381, u386002] 26 (0, 0)) (bk_ BK385) hg (Kd.R_ne HO_36.out BK385.out (by decide))); have n8_ := Aside0.mk ((by rw [hw]; exact below_set (HB.out) GB31.out : Below w.heap.size w w37)); clear HO_12; clear HO_30; clear HO_36; clear HO_37; clear HO_386002; clear BK374; clear BK375; clear BK385; clear HB; have HO_12 := n0_; have HO_30 := n1_; have HO_36 := n2_; have HO_37 := n3_; have HO_386002 := n4_; have BK374 := n5_; have BK375 := n6_; have BK385 := n7_; have HB := n8_; clear n0_ n1_ n2_ n3_ n4_ n5_ n6_ n7_ n8_; clear hg hw hp_))
                go_roundg k2
                case measure => have := HK1.out; have := HK2.out; omega
                case rel => exact ⟨(y393), (wrap64 (x39_2 + 1)), (by first | rfl | (simp; done) | (simp [*]; done)), H', ⟨by have := HK1.out; have := HK2.out; omega⟩, ⟨by exact rf_ HO_12.out (fun _ hk => ⟨hk.2, hk.1⟩)⟩, ⟨by (with_reducible repeat (first | apply Kd.S_alloc | apply Kd.S_drewN | apply Kd.S_drew)); exact Kd.S_mono HO_30.out (fun _ hk => ⟨hk.2, hk.1⟩)⟩, ⟨ra_ HO_36⟩, ⟨by exact rf_ HO_37.out (fun _ hk => ⟨hk.2, hk.1⟩)⟩, ⟨by exact rf_ HO_386002.out (fun _ hk => ⟨hk.1.1, ⟨hk.2, hk.1.2⟩⟩)⟩, ⟨bk_ BK374⟩, ⟨bk_ BK375⟩, ⟨bk_ BK385⟩, ⟨(bw_ w)⟩⟩
               ·rw [if_neg c30] at H
                exact absurd H (by simp)
              ·rw [if_neg c29] at H
               exact absurd H (by simp)
             ·rw [if_neg c28] at H
              exact absurd H (by simp)
            ·rw [if_neg c27] at H
             exact absurd H (by simp)
           ·rw [if_neg c26] at H
            exact absurd H (by simp)
          ·rw [if_neg c25] at H
           exact absurd H (by simp)
         ·rw [if_neg c24] at H
          have c24b0 : decide (x39_2 < ((rd_L1 t376 x32_1).length : Int)) = false := decide_eq_false c24
          clear c24
          replace H := Option.bind_eq_some_iff.mp H
          obtain ⟨t394, A380, H⟩ := H
          replace H : (impl_Chart_complete.l2 k2 t377 (wrap64 (x10_1 + (wrap64 (((rd_L1 t376 x32_1).length : Int) - t394)))) t394 t376 (t376.length : Int) x32_1 x36_2 (rd_L1 t376 x32_1) ((rd_L1 t376 x32_1).length : Int) 0 a0_0 a0_1 l0_2 t380 t381 x386002_1) = some (r1, r2, r3, r4, r5) := H
          have A38 := Aside0.mk A380
          clear A380
          have H' := Aside0.mk H
          clear H
          obtain ⟨Ao39, co39, eo39⟩ := Kd.R_slice HO_36.out
          subst eo39
          go_wp2_with (first | ((with_reducible refine gate_callee (f := 221) rfl ?_); refine goesB (some 55) Try.func221 #[.slice Ao39 x36_2.length co39] ?_; (with_reducible refine (slices_Max_int_int.calls k2 _ _ x36_2 t394 _ ?side1 ?side2 A38.out).mono ?_); (case side1 => exact co_ (Kd.R_reads' HO_36.out).2.2); (case side2 => exact (Kd.R_reads' HO_36.out).2.1); rintro e w40 ⟨rfl, hb⟩; refine ⟨_, rfl, ?_⟩; have n0_ := Aside0.mk (Kd.R_below (ra_ HO_12) hb); have n1_ := Aside0.mk (Kd.S_below (by (with_reducible repeat (first | apply Kd.S_alloc | apply Kd.S_drewN | apply Kd.S_drew)); exact HO_30.out) hb); have n2_ := Aside0.mk (Kd.R_below (ra_ HO_36) hb); have n3_ := Aside0.mk (Kd.R_below (ra_ HO_37) hb); have n4_ := Aside0.mk (Kd.R_below (ra_ HO_386002) hb); have n5_ := bb_ BK374 hb; have n6_ := bb_ BK375 hb; have n7_ := bb_ BK385 hb; have n8_ := Aside0.mk (below_step (bw_ w) hb); clear HO_12; clear HO_30; clear HO_36; clear HO_37; clear HO_386002; clear BK374; clear BK375; clear BK385; clear HB; have HO_12 := n0_; have HO_30 := n1_; have HO_36 := n2_; have HO_37 := n3_; have HO_386002 := n4_; have BK374 := n5_; have BK375 := n6_; have BK385 := n7_; have HB := n8_; clear n0_ n1_ n2_ n3_ n4_ n5_ n6_ n7_ n8_; (try clear hb); (try clear hb2); (try clear hk); (try clear hi)))
          go_loopg [64] k2 (fun kq v64 w' => ∃ (x54_3 : List Int) (x62_3 : List Int) (x64_3 : Int) (x386002_3 : List Int) (u386002 : Value), v64 = .int .i64 x64_3 ∧ Aside0 (impl_Chart_complete.l2 kq t377 (wrap64 (x10_1 + (wrap64 (((rd_L1 t376 x32_1).length : Int) - t394)))) t394 t376 (t376.length : Int) x32_1 x54_3 x62_3 ((rd_L1 t376 x32_1).length : Int) x64_3 a0_0 a0_1 l0_2 t380 t381 x386002_3 = some (r1, r2, r3, r4, r5)) ∧ Aside0 (kq ≤ k2) ∧ Aside0 (Kd.S (Kd.slice 3 (Kd.int .i64)) 22 w' w.heap.size (fun k_ => some k_ ≠ ((.slice Ao39 x36_2.length co39) : Value).ownBlock ∧ some k_ ≠ (u386002 : Value).ownBlock) (.slice (some ad386) t376.length co17) t376) ∧ Aside0 (Kd.R (Kd.int .i64) 3 w' w.heap.size (fun k_ => some k_ ≠ ((.slice A386_0 (rd_L1 t376 x32_1).length c386_0) : Value).ownBlock ∧ some k_ ≠ (u386002 : Value).ownBlock) (.slice Ao39 x36_2.length co39) x54_3) ∧ Aside0 (Kd.R (Kd.int .i64) 3 w' w.heap.size (fun k_ => some k_ ≠ ((.slice Ao39 x36_2.length co39) : Value).ownBlock ∧ some k_ ≠ (u386002 : Value).ownBlock) (.slice A386_0 (rd_L1 t376 x32_1).length c386_0) x62_3) ∧ Aside0 (Kd.R (Kd.int .i64) 3 w' w.heap.size (fun k_ => some k_ ≠ ((.slice Ao39 x36_2.length co39) : Value).ownBlock ∧ some k_ ≠ ((.slice A386_0 (rd_L1 t376 x32_1).length c386_0) : Value).ownBlock) u386002 x386002_3) ∧ Aside0 (w'.heap[gb374]? = some (.cells #[.int .i64 a0_0, .int .i64 a0_1, (.slice A0_2 l0_2.length c0_2)] 26 (0, 0))) ∧ Aside0 (w'.heap[gb375]? = some (.cells #[.int .i64 0, .int .i64 0, (.slice none 0 0)] 26 (0, 0))) ∧ Aside0 (w'.heap[gb385]? = some (.cells #[.int .i64 t380, .int .i64 t381, u386002] 26 (0, 0))) ∧ Aside0 (Below w.heap.size w w'))
          case atStart => exact ⟨(x36_2), ((rd_L1 t376 x32_1)), (0), (x386002_1), (u386002), (by first | rfl | (simp; done) | (simp [*]; done)), H', ⟨Nat.le_refl _⟩, ⟨by (with_reducible repeat (first | apply Kd.S_alloc | apply Kd.S_drewN | apply Kd.S_drew)); exact HO_30.out⟩, ⟨by exact rf_ HO_36.out (fun _ hk => ⟨hk.1, hk.2.2⟩)⟩, ⟨ra_ HO_12⟩, ⟨by exact rf_ HO_386002.out (fun _ hk => ⟨hk.2.1, hk.1⟩)⟩, ⟨bk_ BK374⟩, ⟨bk_ BK375⟩, ⟨bk_ BK385⟩, ⟨(bw_ w)⟩⟩
          case round =>
           clear H'
           try clear c1
           try clear c2
           try clear p2
           try clear c3
           try clear p3
           try clear q3
           try clear hx3
           try clear hf3
           try clear p6
           try clear c7
           try clear c13
           try clear c14
           try clear c18
           try clear c18b0
           try clear c19
           try clear c19b0
           try clear c20
           try clear c20b0
           try clear c21
           try clear c21b0
           try clear c21b1
           try clear c22
           try clear c23
           try clear c24
           try clear c24b0
           try clear c25
           try clear c25b0
           try clear c26
           try clear c26b0
           try clear c27
           try clear c27b0
           try clear c28
           try clear c28b0
           try clear c29
           try clear c29b0
           try clear c30
           try clear c30b0
           try clear p31
           try clear q31
           try clear hx31
           try clear hf31
           try clear c32
           try clear c33
           try clear c38
           try clear p38
           try clear q38
           try clear hx38
           try clear p39
           try clear q39
           try clear hx39
           try clear hcz10_0
           try clear hcz10_1
           try clear hcz10_2
           try clear hcz15_0
           try clear hcz15_1
           try clear hcz15_2
           try clear hcz34_0
           try clear hcz34_1
           try clear hcz34_2
           try clear hcz8_0
           try clear hcz8_1
           try clear hcz8_2
           try clear hfz10_0
           try clear hfz10_1
           try clear hfz10_2
           try clear hfz15_0
           try clear hfz15_1
           try clear hfz15_2
           try clear hfz34_0
           try clear hfz34_1
           try clear hfz34_2
           try clear hfz8_0
           try clear hfz8_1
           try clear hfz8_2
           try clear hx31_0
           try clear hx386_0
           try clear hx390_0
           try clear hx391_0
           try clear hx392_0
           try clear p2
           try clear p3
           try clear p31
           try clear p386
           try clear p390
           try clear p391
           try clear p392
           try clear q3
           try clear q31
           try clear q386
           try clear q390
           try clear q391
           try clear q392
           obtain ⟨x54_3, x62_3, x64_3, x386002_3, u386002, rfl, HA, HK3, HO_30, HO_54, HO_62, HO_386002, BK374, BK375, BK385, HB⟩ := hrel
           have hl54_3 := (Kd.R_reads' HO_54.out).1
           rw [hl54_3] at HO_54
           (try simp only [hl54_3])
           (try simp only [hl54_3] at BK374)
           (try simp only [hl54_3] at BK375)
           (try simp only [hl54_3] at BK385)
           (try simp only [hl54_3] at HO_30)
           (try simp only [hl54_3] at HO_62)
           (try simp only [hl54_3] at HO_386002)
           have hl62_3 := (Kd.R_reads' HO_62.out).1
           rw [hl62_3] at HO_62
           (try simp only [hl62_3])
           (try simp only [hl62_3] at BK374)
           (try simp only [hl62_3] at BK375)
           (try simp only [hl62_3] at BK385)
           (try simp only [hl62_3] at HO_30)
           (try simp only [hl62_3] at HO_54)
           (try simp only [hl62_3] at HO_386002)
           cases gk with
           | zero => exact absurd HA.out (by simp [impl_Chart_complete.l2])
           | succ k3 =>
            have H := HA.out
            clear HA
            simp only [impl_Chart_complete.l2] at H
            by_cases c41 : x64_3 < ((rd_L1 t376 x32_1).length : Int)
            ·rw [if_pos c41] at H
             have c41b0 : decide (x64_3 < ((rd_L1 t376 x32_1).length : Int)) = true := decide_eq_true c41
             (try simp only [hl54_3, hl62_3] at c41b0)
             clear c41
             by_cases c42 : 0 ≤ x64_3
             ·rw [if_pos c42] at H
              have c42b0 : decide (0 ≤ x64_3) = true := decide_eq_true c42
              clear c42
              by_cases c43 : x64_3 < (x62_3.length : Int)
              ·rw [if_pos c43] at H
               have c43b0 : decide (x64_3 < (x62_3.length : Int)) = true := decide_eq_true c43
               (try simp only [hl54_3, hl62_3] at c43b0)
               clear c43
               replace H := Option.bind_eq_some_iff.mp H
               obtain ⟨t396, A440, H⟩ := H
               replace H : (if 0 ≤ (rd x62_3 x64_3) then (if (rd x62_3 x64_3) < (x386002_3.length : Int) then (impl_Chart_complete.l2 k3 t377 (wrap64 (x10_1 + (wrap64 (((rd_L1 t376 x32_1).length : Int) - t394)))) t394 t376 (t376.length : Int) x32_1 x54_3 x62_3 ((rd_L1 t376 x32_1).length : Int) (wrap64 (x64_3 + 1)) a0_0 a0_1 l0_2 t380 t381 (x386002_3.set ((rd x62_3 x64_3) : Int).toNat t396)) else (none)) else (none)) = some (r1, r2, r3, r4, r5) := H
               have A44 := Aside0.mk A440
               clear A440
               by_cases c45 : 0 ≤ (rd x62_3 x64_3)
               ·rw [if_pos c45] at H
                have c45b0 : decide (0 ≤ (rd x62_3 x64_3)) = true := decide_eq_true c45
                clear c45
                by_cases c46 : (rd x62_3 x64_3) < (x386002_3.length : Int)
                ·rw [if_pos c46] at H
                 have c46b0 : decide ((rd x62_3 x64_3) < (x386002_3.length : Int)) = true := decide_eq_true c46
                 (try simp only [hl54_3, hl62_3] at c46b0)
                 clear c46
                 obtain ⟨y397, hy397⟩ : ∃ y_ : List Int, y_ = (x386002_3.set ((rd x62_3 x64_3) : Int).toNat t396) := ⟨_, rfl⟩
                 replace H : (impl_Chart_complete.l2 k3 t377 (wrap64 (x10_1 + (wrap64 (((rd_L1 t376 x32_1).length : Int) - t394)))) t394 t376 (t376.length : Int) x32_1 x54_3 x62_3 ((rd_L1 t376 x32_1).length : Int) (wrap64 (x64_3 + 1)) a0_0 a0_1 l0_2 t380 t381 y397) = some (r1, r2, r3, r4, r5) := by first | (rw [hy397]; with_reducible exact H) | (have H2_ := (Option.bind_some _ _).symm.trans H; rw [hy397]; with_reducible exact H2_) | (have H2_ := (Option.bind_some _ _).symm.trans H; with_reducible exact H2_) | with_reducible exact H | (rw [hy397]; exact H) | exact H
                 have Ny397 := Aside0.mk hy397
                 clear hy397
                 have H' := Aside0.mk H
                 clear H
                 have p395 : 0 ≤ (x64_3 : Int) := of_decide_eq_true (by first | (with_reducible assumption) | assumption)
                 have q395 : x64_3 < (x62_3.length : Int) := of_decide_eq_true (by first | (with_reducible assumption) | assumption)
                 obtain ⟨ad395, e395, hx395_0⟩ := Kd.at_int (Kd.R_reads' HO_62.out).2.2 x64_3 p395 q395
                 cases e395
                 replace p395 := eq_true p395
                 replace q395 := eq_true q395
                 try go_wp2
                 replace HO_30 := Aside0.mk (Kd.S_drew HO_30.out)
                 replace HO_54 := Aside0.mk (Kd.R_drew HO_54.out)
                 replace HO_62 := Aside0.mk (Kd.R_drew HO_62.out)
                 replace HO_386002 := Aside0.mk (Kd.R_drew HO_386002.out)
                 replace BK374 := Aside0.mk (blk_drew BK374.out)
                 replace BK375 := Aside0.mk (blk_drew BK375.out)
                 replace BK385 := Aside0.mk (blk_drew BK385.out)
                 replace HB := Aside0.mk (below_drew1 HB.out)
                 refine start_ (n := 8) (S := fun w' => w'.cell? ⟨gb385, 0, none⟩ = some (.int .i64 t380) ∧ w'.cell? ⟨gb385, 1, none⟩ = some (.int .i64 t381) ∧ w'.cell? ⟨gb385, 2, none⟩ = some (u386002)) (ds := []) #[false, false, false, false, false, false, false, false] (by kernel_rfl) rfl rfl ⟨bc_ BK385 0, bc_ BK385 1, bc_ BK385 2⟩ (fun hHeld => ?_); refine with_tabW impl_Chart_complete.tab17 impl_Chart_complete.bits17 (fun HT_ HW_ => ?_)
                 generalize wr.drew = w48 at HO_30 HO_54 HO_62 HO_386002 BK374 BK375 BK385 HB hHeld ⊢
                 refine pureA (N := some 68) 0 HT_ ?_
                 refine pureA (N := some 70) 2 HT_ ?_
                 refine pureA (N := some 71) 3 HT_ ?_
                 refine pureA (N := some 72) 4 HT_ ?_
                 refine takeA (N := some 69) 1 HT_ HW_ hHeld ?_
                 refine oneA (N := some 73) 5 HT_ (fun K hK => ?_)
                 refine goesA Try.func222 #[.slice Ao39 x54_3.length co39, .int .i64 t394] ?_
                 with_reducible refine (slices_Index_int_int.calls k3 _ _ x54_3 t394 t396 _ ?side1 ?side2 A44.out).mono ?_
                 (case side1 => exact co_ (Kd.R_reads' HO_54.out).2.2)
                 (case side2 => exact (Kd.R_reads' HO_54.out).2.1)
                 rintro e w' ⟨rfl, ⟨nd, rfl⟩⟩
                 refine ⟨_, rfl, ?_⟩
                 have p47 : 0 ≤ ((rd x62_3 x64_3) : Int) := of_decide_eq_true (by first | (with_reducible assumption) | assumption)
                 have q47 : ((rd x62_3 x64_3) : Int) < ((x386002_3.length : Int) : Int) := of_decide_eq_true (by first | (with_reducible assumption) | assumption)
                 obtain ⟨go47, co47, eo47, gb47, gl47, cl47, HG47⟩ := Kd.R_form HO_386002.out (by omega)
                 (first | cases eo47 | (injection eo47 with ea_ en_ ec_; (first | subst ea_ | (injection ea_ with ea_; subst ea_)); subst ec_; clear en_))
                 have GB47 := Aside0.mk gb47
                 have GG47 := Aside0.mk HG47
                 clear gb47 gl47 HG47
                 obtain ⟨hx47_0, hf47_0⟩ := Kd.R_celln 0 HO_386002.out ((rd x62_3 x64_3) : Int) p47 q47
                 replace p47 := eq_true p47
                 replace q47 := eq_true q47
                 have HP49 := Kd.R_putn HO_386002.out ((rd x62_3 x64_3) : Int) t396
                 rw [← Ny397.out] at HP49
                 have HQ49 := Aside0.mk HP49
                 clear HP49
                 refine hK.out _ _ ⟨bc_ BK385 0, bc_ BK385 1, bc_ BK385 2⟩ (fun hHeld => ?_)
                 clear hK K
                 refine normA (N := some 73) ?_
                 refine pureA (N := some 74) 6 HT_ ?_
                 refine oneA (N := none) 7 HT_ (fun K hK => ?_)
                 refine skip_ (w1 := ?_) (by rfl) rfl ?_ ?_
                 rotate_left
                 ·go_simp
                  rfl
                 refine hK.out _ _ ⟨((cell_far (p := ⟨go47, _, none⟩) (show (gb385 : Nat) ≠ go47 from (by have h_ := Kd.R_ne HO_386002.out BK385.out (by decide); intro e_; exact h_ (by rw [e_]; rfl))) _).trans (hHeld.1)), ((cell_far (p := ⟨go47, _, none⟩) (show (gb385 : Nat) ≠ go47 from (by have h_ := Kd.R_ne HO_386002.out BK385.out (by decide); intro e_; exact h_ (by rw [e_]; rfl))) _).trans (hHeld.2.1)), ((cell_far (p := ⟨go47, _, none⟩) (show (gb385 : Nat) ≠ go47 from (by have h_ := Kd.R_ne HO_386002.out BK385.out (by decide); intro e_; exact h_ (by rw [e_]; rfl))) _).trans (hHeld.2.2))⟩ (fun hHeld => ?_)
                 clear hK K
                 refine done_ (done_of HT_.out (by kernel_rfl)) ?_
                 try go_wp2
                 (try simp only [← hl54_3, ← hl62_3])
                 go_roundg k3
                 case measure => have := HK1.out; have := HK2.out; have := HK3.out; omega
                 case rel => exact ⟨(x54_3), (x62_3), (wrap64 (x64_3 + 1)), (y397), (.slice (some ⟨go47, 0, none⟩) x386002_3.length co47), (by first | rfl | (simp; done) | (simp [*]; done)), H', ⟨by have := HK1.out; have := HK2.out; have := HK3.out; omega⟩, ⟨by (try simp only [hl54_3]); (try simp only [hl62_3]); (with_reducible repeat (first | apply Kd.S_alloc | apply Kd.S_drewN | apply Kd.S_drew)); exact Kd.S_mono (Kd.S_far (p := ⟨go47, ((rd x62_3 x64_3) : Int).toNat, none⟩) (Kd.S_mono HO_30.out (fun k_ hk => (⟨hk, fun e_ => hk.2 (by rw [e_]; rfl)⟩ : _ ∧ k_ ≠ go47))) (fun _ hk => hk.2) (.int .i64 t396)) (fun _ hk => ⟨hk.1.1, hk.1.2⟩)⟩, ⟨by (try simp only [hl54_3]); (try simp only [hl62_3]); (with_reducible repeat (first | apply Kd.R_alloc | apply Kd.R_drewN | apply Kd.R_drew)); exact Kd.R_mono (Kd.R_far (p := ⟨go47, ((rd x62_3 x64_3) : Int).toNat, none⟩) (Kd.R_mono HO_54.out (fun k_ hk => (⟨hk, fun e_ => hk.2 (by rw [e_]; rfl)⟩ : _ ∧ k_ ≠ go47))) (fun _ hk => hk.2) (.int .i64 t396)) (fun _ hk => ⟨hk.1.1, hk.1.2⟩)⟩, ⟨by (try simp only [hl54_3]); (try simp only [hl62_3]); (with_reducible repeat (first | apply Kd.R_alloc | apply Kd.R_drewN | apply Kd.R_drew)); exact Kd.R_mono (Kd.R_far (p := ⟨go47, ((rd x62_3 x64_3) : Int).toNat, none⟩) (Kd.R_mono HO_62.out (fun k_ hk => (⟨hk, fun e_ => hk.2 (by rw [e_]; rfl)⟩ : _ ∧ k_ ≠ go47))) (fun _ hk => hk.2) (.int .i64 t396)) (fun _ hk => ⟨hk.1.1, hk.1.2⟩)⟩, ⟨by (try simp only [hl54_3]); (try simp only [hl62_3]); (with_reducible repeat (first | apply Kd.R_alloc | apply Kd.R_drewN | apply Kd.R_drew)); exact HQ49.out⟩, ⟨by (try simp only [hl54_3]); (try simp only [hl62_3]); (with_reducible repeat (first | refine blk_drewN ?_ _ | refine blk_drew ?_ | refine blk_alloc ?_ _)); refine blk_far ?_ (by have h_ := Kd.R_ne HO_386002.out BK374.out (by decide); intro e_; exact h_ (by rw [e_]; rfl)) _; (with_reducible repeat (first | refine blk_drewN ?_ _ | refine blk_drew ?_ | refine blk_alloc ?_ _)); exact BK374.out⟩, ⟨by (try simp only [hl54_3]); (try simp only [hl62_3]); (with_reducible repeat (first | refine blk_drewN ?_ _ | refine blk_drew ?_ | refine blk_alloc ?_ _)); refine blk_far ?_ (by have h_ := Kd.R_ne HO_386002.out BK375.out (by decide); intro e_; exact h_ (by rw [e_]; rfl)) _; (with_reducible repeat (first | refine blk_drewN ?_ _ | refine blk_drew ?_ | refine blk_alloc ?_ _)); exact BK375.out⟩, ⟨by (try simp only [hl54_3]); (try simp only [hl62_3]); (with_reducible repeat (first | refine blk_drewN ?_ _ | refine blk_drew ?_ | refine blk_alloc ?_ _)); refine blk_far ?_ (by have h_ := Kd.R_ne HO_386002.out BK385.out (by decide); intro e_; exact h_ (by rw [e_]; rfl)) _; (with_reducible repeat (first | refine blk_drewN ?_ _ | refine blk_drew ?_ | refine blk_alloc ?_ _)); exact BK385.out⟩, ⟨by repeat (first | (with_reducible first | exact HB.out | apply below_alloc | apply pw_below_drewN | apply below_drew1 | refine below_set ?_ GB47.out | refine below_set ?_ GE374.out | refine below_set ?_ GE375.out | refine below_set ?_ GE385.out) | exact HB.out)⟩⟩
                ·rw [if_neg c46] at H
                 exact absurd H (by simp)
               ·rw [if_neg c45] at H
                exact absurd H (by simp)
              ·rw [if_neg c43] at H
               exact absurd H (by simp)
             ·rw [if_neg c42] at H
              exact absurd H (by simp)
            ·rw [if_neg c41] at H
             have c41b0 : decide (x64_3 < ((rd_L1 t376 x32_1).length : Int)) = false := decide_eq_false c41
             (try simp only [hl54_3, hl62_3] at c41b0)
             clear c41
             have H' := Aside0.mk H
             clear H
             go_wp2
             (try simp only [← hl54_3, ← hl62_3])
             go_roundg k3
             case measure => have := HK1.out; have := HK2.out; have := HK3.out; omega
             case rel => exact ⟨((wrap64 (x10_1 + (wrap64 (((rd_L1 t376 x32_1).length : Int) - t394))))), (wrap64 (x32_1 + 1)), (x386002_3), (u386002), (by first | rfl | (simp; done) | (simp [*]; done)), (by first | rfl | (simp; done) | (simp [*]; done)), H', ⟨by have := HK1.out; have := HK2.out; have := HK3.out; omega⟩, ⟨by (try simp only [hl54_3]); (try simp only [hl62_3]); (with_reducible repeat (first | apply Kd.S_alloc | apply Kd.S_drewN | apply Kd.S_drew)); exact Kd.S_mono HO_30.out (fun _ hk => hk.2)⟩, ⟨by (try simp only [hl54_3]); (try simp only [hl62_3]); (with_reducible repeat (first | apply Kd.R_alloc | apply Kd.R_drewN | apply Kd.R_drew)); exact Kd.R_mono HO_386002.out (fun _ hk => trivial)⟩, ⟨by (try simp only [hl54_3]); (try simp only [hl62_3]); (with_reducible repeat (first | refine blk_drewN ?_ _ | refine blk_drew ?_ | refine blk_alloc ?_ _)); exact BK374.out⟩, ⟨by (try simp only [hl54_3]); (try simp only [hl62_3]); (with_reducible repeat (first | refine blk_drewN ?_ _ | refine blk_drew ?_ | refine blk_alloc ?_ _)); exact BK375.out⟩, ⟨by (try simp only [hl54_3]); (try simp only [hl62_3]); (with_reducible repeat (first | refine blk_drewN ?_ _ | refine blk_drew ?_ | refine blk_alloc ?_ _)); exact BK385.out⟩, ⟨(bw_ w)⟩⟩
      ·rw [if_neg c21] at H
       exact absurd H (by simp)
     ·rw [if_neg c20] at H
      exact absurd H (by simp)
    ·rw [if_neg c19] at H
     exact absurd H (by simp)
   ·rw [if_neg c18] at H
    have c18b0 : decide (x32_1 < (t376.length : Int)) = false := decide_eq_false c18
    clear c18
    simp only [Option.some.injEq, Prod.mk.injEq] at H
    obtain ⟨rfl, rfl, rfl, rfl, rfl⟩ := H
    have hnb50 := NB385_374.out
    have hnc50 := NB374_385.out
    have hnb51 := NB385_375.out
    have hnc51 := NB375_385.out
    obtain ⟨hcz52_0, hcz52_1, hcz52_2, hfz52_0, hfz52_1, hfz52_2⟩ := bc3_ (w := wr) BK385
    have hnb53 := NB375_374.out
    have hnc53 := NB374_375.out
    obtain ⟨hcz54_0, hcz54_1, hcz54_2, hfz54_0, hfz54_1, hfz54_2⟩ := bc3_ (w := wr) BK375
    obtain ⟨Ao55, co55, eo55⟩ := Kd.R_slice HO_386002.out
    subst eo55
    go_wp2
    refine bodyPost_ret (results_ctt rfl _ _ gb375 26 #[.int .i64 t380, .int .i64 t381, .slice Ao55 x386002_1.length co55] (0, 0) _ rfl (bq_ BK375) Try.underlying26 rfl (by kernel_rfl)) rfl ?_
    exact ⟨_, by first | rfl | (simp [errW_none, errW_some] <;> rfl) | (simp [*, errW_none, errW_some] <;> rfl), by exact rf_ (Kd.R_types HO_386002.out BK375.out (by decide)) (fun _ hk => trivial), (bw_ w)⟩

/-! ### impl_FewestChanges: function 22 -/
def impl_FewestChanges.f (k : Nat) (a0_0 : Int) (a0_1 : Int) (l0_2 : List Int) (a1 : Int) : Option (Int × Bool) := (impl_IsChart.f k a0_0 a0_1 l0_2).bind fun t399 => (if t399 = true then ((impl_isSymmetry.f a1).bind fun t400 => (if t400 = true then ((impl_Chart_complete.f k a0_0 a0_1 l0_2 a1).bind fun bt401 => (some (bt401.2.2.2.1, bt401.2.2.2.2))) else (some (0, false)))) else (some (0, false)))
theorem impl_FewestChanges.mono : ∀ a0 a1 a2 a3 k, LeO (impl_FewestChanges.f k a0 a1 a2 a3) (impl_FewestChanges.f (k + 1) a0 a1 a2 a3) := by
  intro a0 a1 a2 a3 k
  unfold impl_FewestChanges.f
  repeat' first
      | (with_reducible exact impl_Chart_complete.mono _ _ _ _ _)
      | (with_reducible exact impl_IsChart.mono _ _ _ _)
      | (with_reducible exact LeO.refl _)
      | (with_reducible exact LeO.none _)
      | (with_reducible refine LeO.ite ?_ ?_)
      | (with_reducible refine LeO.bind ?_ (fun _ => ?_))
      | exact impl_Chart_complete.mono _ _ _ _ _
      | exact impl_IsChart.mono _ _ _ _
      | exact LeO.none _
      | refine LeO.ite ?_ ?_
      | refine LeO.bind ?_ (fun _ => ?_)
set_option maxHeartbeats 8000000 in
set_option maxRecDepth 100000 in
theorem impl_FewestChanges.calls (k : Nat) (a0_0 : Int) (a0_1 : Int) (A0_2 : Option Addr) (c0_2 : Nat) (l0_2 : List Int) (a1 : Int) (r1 : Int) (r2 : Bool) (w : World) (hr0_2 : Kd.C (Kd.int .i64) w A0_2 l0_2.length l0_2) (hc0_2 : l0_2.length ≤ c0_2) (h : impl_FewestChanges.f k a0_0 a0_1 l0_2 a1 = some (r1, r2)) :
  Calls Try.prog 22 #[.agg #[.int .i64 a0_0, .int .i64 a0_1, .slice A0_2 l0_2.length c0_2], .int .i64 a1] w fun e w' => e = .returned (.tuple #[.int .i64 r1, .bool r2]) ∧ Below w.heap.size w w' := by
 have hu26 := Try.underlying26
 have HR0_2 := Aside0.mk hr0_2
 have HC0_2 := Aside0.mk hc0_2
 clear hr0_2 hc0_2
 have HB := Aside0.mk (Below.refl w.heap.size w)
 have H : ((impl_IsChart.f k a0_0 a0_1 l0_2).bind fun t399 => (if t399 = true then ((impl_isSymmetry.f a1).bind fun t400 => (if t400 = true then ((impl_Chart_complete.f k a0_0 a0_1 l0_2 a1).bind fun bt401 => (some (bt401.2.2.2.1, bt401.2.2.2.2))) else (some (0, false)))) else (some (0, false)))) = some (r1, r2) := h
 clear h
 replace H := Option.bind_eq_some_iff.mp H
 obtain ⟨t399, A30, H⟩ := H
 replace H : (if t399 = true then ((impl_isSymmetry.f a1).bind fun t400 => (if t400 = true then ((impl_Chart_complete.f k a0_0 a0_1 l0_2 a1).bind fun bt401 => (some (bt401.2.2.2.1, bt401.2.2.2.2))) else (some (0, false)))) else (some (0, false))) = some (r1, r2) := H
 have A3 := Aside0.mk A30
 clear A30
 by_cases c4 : t399 = true
 ·subst c4
  have H1 : ((impl_isSymmetry.f a1).bind fun t400 => (if t400 = true then ((impl_Chart_complete.f k a0_0 a0_1 l0_2 a1).bind fun bt401 => (some (bt401.2.2.2.1, bt401.2.2.2.2))) else (some (0, false)))) = some (r1, r2) := by rw [if_pos rfl] at H; exact H
  clear H
  have H := H1
  clear H1
  replace H := Option.bind_eq_some_iff.mp H
  obtain ⟨t400, A50, H⟩ := H
  replace H : (if t400 = true then ((impl_Chart_complete.f k a0_0 a0_1 l0_2 a1).bind fun bt401 => (some (bt401.2.2.2.1, bt401.2.2.2.2))) else (some (0, false))) = some (r1, r2) := H
  have A5 := Aside0.mk A50
  clear A50
  by_cases c6 : t400 = true
  ·subst c6
   have H1 : ((impl_Chart_complete.f k a0_0 a0_1 l0_2 a1).bind fun bt401 => (some (bt401.2.2.2.1, bt401.2.2.2.2))) = some (r1, r2) := by rw [if_pos rfl] at H; exact H
   clear H
   have H := H1
   clear H1
   replace H := Option.bind_eq_some_iff.mp H
   obtain ⟨⟨t401, t402, t403, t406, t407⟩, A70, H⟩ := H
   replace H : (some (t406, t407)) = some (r1, r2) := H
   have A7 := Aside0.mk A70
   clear A70
   simp only [Option.some.injEq, Prod.mk.injEq] at H
   obtain ⟨rfl, rfl⟩ := H
   go_enter Try.func22, Try.ntmps22
   go_wp2_with (first | ((with_reducible refine gate_dst (N := 2) rfl ?_); refine box_ (N := 2) (cs := #[.int .i64 a0_0, .int .i64 a0_1, .slice A0_2 l0_2.length c0_2]) (t := 26) ?_; intro gb398 hg w8 hbox hb; have BK398 := Aside0.mk (hbox); have GW398 := gz_ w hg; have GE398 := gz_ w hg; replace HB := Aside0.mk (below_step (bw_ w) hb); clear hb hbox hg; obtain ⟨hcz9_0, hcz9_1, hcz9_2, hfz9_0, hfz9_1, hfz9_2⟩ := bc3_ (w := w8) BK398) | ((with_reducible refine gate_callee (f := 39) rfl ?_); refine goesB (some 10) Try.func39 #[.agg #[.int .i64 a0_0, .int .i64 a0_1, .slice A0_2 l0_2.length c0_2]] ?_; (with_reducible refine (impl_IsChart.calls k a0_0 a0_1 _ _ l0_2 true _ ?side1 ?side2 A3.out).mono ?_); (case side1 => exact cb_ HR0_2 HB); (case side2 => exact HC0_2.out); rintro e w10 ⟨rfl, hb⟩; refine ⟨_, rfl, ?_⟩; replace BK398 := bb_ BK398 hb; replace HB := Aside0.mk (below_step (bw_ w) hb); (try clear hb); (try clear hb2); (try clear hk); (try clear hi)) | (go_at_call 146; (with_reducible refine (impl_isSymmetry.calls a1 true _ A5.out).mono ?_); rintro e w' ⟨rfl, ⟨nd, rfl⟩⟩; (try (rw [drewN_self w10]; generalize hq_ : World.drewN w10 _ = w10; have n0_ : Aside0 (w10.heap[gb398]? = some (.cells #[.int .i64 a0_0, .int .i64 a0_1, .slice A0_2 l0_2.length c0_2] 26 (0, 0))) := ⟨by rw [← hq_]; exact (by (with_reducible repeat (first | refine blk_drewN ?_ _ | refine blk_drew ?_ | refine blk_alloc ?_ _)); exact BK398.out)⟩; have n1_ : Aside0 (Below w.heap.size w w10) := ⟨by rw [← hq_]; exact (by repeat (first | (with_reducible first | exact HB.out | apply below_alloc | apply pw_below_drewN | apply below_drew1 | refine below_set ?_ GE398.out) | exact HB.out))⟩; clear BK398 HB hq_; have BK398 := n0_; have HB := n1_; clear n0_ n1_)); obtain ⟨hcz11_0, hcz11_1, hcz11_2, hfz11_0, hfz11_1, hfz11_2⟩ := bc3_ (w := w10) BK398) | ((with_reducible refine gate_callee (f := 147) rfl ?_); refine goesB (some 20) Try.func147 #[.agg #[.int .i64 a0_0, .int .i64 a0_1, .slice A0_2 l0_2.length c0_2], .int .i64 a1] ?_; (with_reducible refine (impl_Chart_complete.calls k a0_0 a0_1 _ _ l0_2 a1 t401 t402 t403 t406 t407 _ ?side1 ?side2 A7.out).mono ?_); (case side1 => exact cb_ HR0_2 HB); (case side2 => exact HC0_2.out); rintro e w12 ⟨v404, rfl, ho0, hb⟩; refine ⟨_, rfl, ?_⟩; have HO405 := Aside0.mk (Kd.R_lower ho0 (below_size (bw_ w))); replace BK398 := bb_ BK398 hb; replace HB := Aside0.mk (below_step (bw_ w) hb); (try clear hb); (try clear hb2); (try clear hk); (try clear hi); (try clear ho0)) | ((with_reducible refine gate_dst (N := 6) rfl ?_); refine box_ (N := 6) (cs := #[.int .i64 0, .int .i64 0, .slice none 0 0]) (t := 26) ?_; intro gb408 hg w13 hbox hb; have n0_ := Aside0.mk (Kd.R_below (ra_ HO405) hb); have n1_ := bb_ BK398 hb; have n2_ := Aside0.mk (below_step (bw_ w) hb); have n3_ := Aside0.mk (hbox); have n4_ := gz_ w hg; have n5_ := gz_ w hg; have n6_ := ne_ hg BK398; have n7_ := en_ hg BK398; clear HO405; clear BK398; clear HB; have HO405 := n0_; have BK398 := n1_; have HB := n2_; have BK408 := n3_; have GW408 := n4_; have GE408 := n5_; have NB398_408 := n6_; have NB408_398 := n7_; clear n0_ n1_ n2_ n3_ n4_ n5_ n6_ n7_; clear hb hbox hg; have hnb14 := NB408_398.out; have hnc14 := NB398_408.out; obtain ⟨hcz15_0, hcz15_1, hcz15_2, hfz15_0, hfz15_1, hfz15_2⟩ := bc3_ (w := w13) BK408; obtain ⟨Ao16, co16, eo16⟩ := Kd.R_slice HO405.out; subst eo16))
   go_ret2
   exact ⟨by first | rfl | (simp [errW_none, errW_some] <;> rfl) | (simp [*, errW_none, errW_some] <;> rfl), (bw_ w)⟩
  ·replace c6 := Bool.eq_false_iff.mpr c6
   subst c6
   have H1 : (some (0, false)) = some (r1, r2) := by rw [if_neg (show ¬ (false = true) by decide)] at H; exact H
   clear H
   have H := H1
   clear H1
   simp only [Option.some.injEq, Prod.mk.injEq] at H
   obtain ⟨rfl, rfl⟩ := H
   go_enter Try.func22, Try.ntmps22
   go_wp2_with (first | ((with_reducible refine gate_dst (N := 2) rfl ?_); refine box_ (N := 2) (cs := #[.int .i64 a0_0, .int .i64 a0_1, .slice A0_2 l0_2.length c0_2]) (t := 26) ?_; intro gb398 hg w17 hbox hb; have BK398 := Aside0.mk (hbox); have GW398 := gz_ w hg; have GE398 := gz_ w hg; replace HB := Aside0.mk (below_step (bw_ w) hb); clear hb hbox hg; obtain ⟨hcz18_0, hcz18_1, hcz18_2, hfz18_0, hfz18_1, hfz18_2⟩ := bc3_ (w := w17) BK398) | ((with_reducible refine gate_callee (f := 39) rfl ?_); refine goesB (some 10) Try.func39 #[.agg #[.int .i64 a0_0, .int .i64 a0_1, .slice A0_2 l0_2.length c0_2]] ?_; (with_reducible refine (impl_IsChart.calls k a0_0 a0_1 _ _ l0_2 true _ ?side1 ?side2 A3.out).mono ?_); (case side1 => exact cb_ HR0_2 HB); (case side2 => exact HC0_2.out); rintro e w19 ⟨rfl, hb⟩; refine ⟨_, rfl, ?_⟩; replace BK398 := bb_ BK398 hb; replace HB := Aside0.mk (below_step (bw_ w) hb); (try clear hb); (try clear hb2); (try clear hk); (try clear hi)) | (go_at_call 146; (with_reducible refine (impl_isSymmetry.calls a1 false _ A5.out).mono ?_); rintro e w' ⟨rfl, ⟨nd, rfl⟩⟩))
   go_ret2
   exact ⟨by first | rfl | (simp [errW_none, errW_some] <;> rfl) | (simp [*, errW_none, errW_some] <;> rfl), (bw_ w)⟩
 ·replace c4 := Bool.eq_false_iff.mpr c4
  subst c4
  have H1 : (some (0, false)) = some (r1, r2) := by rw [if_neg (show ¬ (false = true) by decide)] at H; exact H
  clear H
  have H := H1
  clear H1
  simp only [Option.some.injEq, Prod.mk.injEq] at H
  obtain ⟨rfl, rfl⟩ := H
  go_enter Try.func22, Try.ntmps22
  go_wp2_with (first | ((with_reducible refine gate_dst (N := 2) rfl ?_); refine box_ (N := 2) (cs := #[.int .i64 a0_0, .int .i64 a0_1, .slice A0_2 l0_2.length c0_2]) (t := 26) ?_; intro gb398 hg w20 hbox hb; have BK398 := Aside0.mk (hbox); have GW398 := gz_ w hg; have GE398 := gz_ w hg; replace HB := Aside0.mk (below_step (bw_ w) hb); clear hb hbox hg; obtain ⟨hcz21_0, hcz21_1, hcz21_2, hfz21_0, hfz21_1, hfz21_2⟩ := bc3_ (w := w20) BK398) | ((with_reducible refine gate_callee (f := 39) rfl ?_); refine goesB (some 10) Try.func39 #[.agg #[.int .i64 a0_0, .int .i64 a0_1, .slice A0_2 l0_2.length c0_2]] ?_; (with_reducible refine (impl_IsChart.calls k a0_0 a0_1 _ _ l0_2 false _ ?side1 ?side2 A3.out).mono ?_); (case side1 => exact cb_ HR0_2 HB); (case side2 => exact HC0_2.out); rintro e w22 ⟨rfl, hb⟩; refine ⟨_, rfl, ?_⟩; replace BK398 := bb_ BK398 hb; replace HB := Aside0.mk (below_step (bw_ w) hb); (try clear hb); (try clear hb2); (try clear hk); (try clear hi)))
  go_ret2
  exact ⟨by first | rfl | (simp [errW_none, errW_some] <;> rfl) | (simp [*, errW_none, errW_some] <;> rfl), (bw_ w)⟩

end Go.Proofs.Ytijmljaemalgmaa.PFnExactFewestChanges
