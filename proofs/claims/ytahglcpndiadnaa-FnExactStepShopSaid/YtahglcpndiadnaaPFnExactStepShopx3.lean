-- Printed by this session's own program (wip/tool/myprint.py, over the kit's print); Lean checks it.
import Derived.Test.YtahglcpndiadnaaPFnExactStepShopx0
import Derived.Test.YtahglcpndiadnaaPFnExactStepShopx1
namespace Go.Proofs.Ytahglcpndiadnaa.PFnExactStepShop
open Go.RowKit Go.Proofs.YtahglcpndiadnaaW.PrintWords Go.Proofs.YtahglcpndiadnaaW.PrintLast Go.Proofs.YtahglcpndiadnaaW.PrintMore
attribute [local go_sem] max2_int min2_int max_two min_two max_three min_three max_four min_four   -- for this text's walks alone
set_option linter.unusedVariables false
set_option linter.unusedSimpArgs false

/-! ### impl_Shop_canChange: function 111 -/
def impl_Shop_canChange.f (k : Nat) (a0_0 : Int) (a0_1 : Int) (l0_2 : List (S34)) (a0_3 : Int) (a1_0 : Int) (a1_1 : Int) (a1_2 : Int) (a2_0 : Int) (a2_1 : Int) (a2_2 : Int) (a2_3 : Int) (a2_4 : Int) : Option (Bool) := if a1_0 = 3 then (if a2_2 = 0 then ((impl_Shop_onLoom.f k a0_0 a0_1 l0_2 a0_3 a1_2).bind fun t139 => (some (decide (t139 < 0)))) else (some false)) else (if a1_0 = 4 then (if a2_2 = 1 then (if (wrap64 (a0_0 - a2_4)) ≥ 1 then (some (decide (a1_2 ≤ (wrap64 (a2_0 - a2_1))))) else (some false)) else (some false)) else (if a1_0 = 5 then (if a2_2 = 1 then (some (a2_1 == a2_0)) else (some false)) else (if a1_0 = 6 then (some (a2_2 == 2)) else (if a2_2 = 3 then (some (decide ((wrap64 (a0_0 - a2_4)) ≥ 3))) else (some false)))))
theorem impl_Shop_canChange.mono : ∀ a0 a1 a2 a3 a4 a5 a6 a7 a8 a9 a10 a11 k, LeO (impl_Shop_canChange.f k a0 a1 a2 a3 a4 a5 a6 a7 a8 a9 a10 a11) (impl_Shop_canChange.f (k + 1) a0 a1 a2 a3 a4 a5 a6 a7 a8 a9 a10 a11) := by
  intro a0 a1 a2 a3 a4 a5 a6 a7 a8 a9 a10 a11 k
  unfold impl_Shop_canChange.f
  repeat' first
      | (with_reducible exact impl_Shop_onLoom.mono _ _ _ _ _ _)
      | (with_reducible exact LeO.refl _)
      | (with_reducible exact LeO.none _)
      | (with_reducible refine LeO.ite ?_ ?_)
      | (with_reducible refine LeO.bind ?_ (fun _ => ?_))
      | exact impl_Shop_onLoom.mono _ _ _ _ _ _
      | exact LeO.none _
      | refine LeO.ite ?_ ?_
      | refine LeO.bind ?_ (fun _ => ?_)
set_option maxHeartbeats 8000000 in
set_option maxRecDepth 100000 in
theorem impl_Shop_canChange.calls (k : Nat) (a0_0 : Int) (a0_1 : Int) (A0_2 : Option Addr) (c0_2 : Nat) (l0_2 : List (S34)) (a0_3 : Int) (a1_0 : Int) (a1_1 : Int) (a1_2 : Int) (a2_0 : Int) (a2_1 : Int) (a2_2 : Int) (a2_3 : Int) (a2_4 : Int) (r : Bool) (w : World) (hr0_2 : Kd.C k34 w A0_2 l0_2.length l0_2) (hc0_2 : l0_2.length ≤ c0_2) (h : impl_Shop_canChange.f k a0_0 a0_1 l0_2 a0_3 a1_0 a1_1 a1_2 a2_0 a2_1 a2_2 a2_3 a2_4 = some r) :
  Calls Try.prog 111 #[.agg #[.int .i64 a0_0, .int .i64 a0_1, .slice A0_2 l0_2.length c0_2, .int .i64 a0_3], .agg #[.int .i64 a1_0, .int .i64 a1_1, .int .i64 a1_2], .agg #[.int .i64 a2_0, .int .i64 a2_1, .int .i64 a2_2, .int .i64 a2_3, .int .i64 a2_4]] w fun e w' => e = .returned (.bool r) ∧ Below w.heap.size w w' := by
 have hu24 := Try.underlying24
 have hu30 := Try.underlying30
 have hu34 := Try.underlying34
 have HR0_2 := Aside0.mk hr0_2
 have HC0_2 := Aside0.mk hc0_2
 clear hr0_2 hc0_2
 have HB := Aside0.mk (Below.refl w.heap.size w)
 have H : (if a1_0 = 3 then (if a2_2 = 0 then ((impl_Shop_onLoom.f k a0_0 a0_1 l0_2 a0_3 a1_2).bind fun t139 => (some (decide (t139 < 0)))) else (some false)) else (if a1_0 = 4 then (if a2_2 = 1 then (if (wrap64 (a0_0 - a2_4)) ≥ 1 then (some (decide (a1_2 ≤ (wrap64 (a2_0 - a2_1))))) else (some false)) else (some false)) else (if a1_0 = 5 then (if a2_2 = 1 then (some (a2_1 == a2_0)) else (some false)) else (if a1_0 = 6 then (some (a2_2 == 2)) else (if a2_2 = 3 then (some (decide ((wrap64 (a0_0 - a2_4)) ≥ 3))) else (some false)))))) = some r := h
 clear h
 by_cases c4 : a1_0 = 3
 ·rw [if_pos c4] at H
  have c4b0 : (a1_0 == 3) = true := beq_iff_eq.mpr c4
  have c4b1 : (a1_0 != 3) = false := bne_eq_false_iff_eq.mpr c4
  clear c4
  by_cases c5 : a2_2 = 0
  ·rw [if_pos c5] at H
   have c5b0 : (a2_2 == 0) = true := beq_iff_eq.mpr c5
   have c5b1 : (a2_2 != 0) = false := bne_eq_false_iff_eq.mpr c5
   clear c5
   replace H := Option.bind_eq_some_iff.mp H
   obtain ⟨t139, A60, H⟩ := H
   replace H : (some (decide (t139 < 0))) = some r := H
   have A6 := Aside0.mk A60
   clear A60
   obtain rfl := Option.some.inj H
   go_enter Try.func111, Try.ntmps111
   go_wp2_with (first | ((with_reducible refine gate_dst (N := 3) rfl ?_); refine box_ (N := 3) (cs := #[.int .i64 a0_0, .int .i64 a0_1, .slice A0_2 l0_2.length c0_2, .int .i64 a0_3]) (t := 24) ?_; intro gb136 hg w7 hbox hb; have BK136 := Aside0.mk (hbox); have GW136 := gz_ w hg; have GE136 := gz_ w hg; replace HB := Aside0.mk (below_step (bw_ w) hb); clear hb hbox hg) | ((with_reducible refine gate_dst (N := 4) rfl ?_); refine box_ (N := 4) (cs := #[.int .i64 a1_0, .int .i64 a1_1, .int .i64 a1_2]) (t := 30) ?_; intro gb137 hg w8 hbox hb; have n0_ := bb_ BK136 hb; have n1_ := Aside0.mk (below_step (bw_ w) hb); have n2_ := Aside0.mk (hbox); have n3_ := gz_ w hg; have n4_ := gz_ w hg; have n5_ := ne_ hg BK136; have n6_ := en_ hg BK136; clear BK136; clear HB; have BK136 := n0_; have HB := n1_; have BK137 := n2_; have GW137 := n3_; have GE137 := n4_; have NB136_137 := n5_; have NB137_136 := n6_; clear n0_ n1_ n2_ n3_ n4_ n5_ n6_; clear hb hbox hg) | ((with_reducible refine gate_dst (N := 5) rfl ?_); refine box_ (N := 5) (cs := #[.int .i64 a2_0, .int .i64 a2_1, .int .i64 a2_2, .int .i64 a2_3, .int .i64 a2_4]) (t := 34) ?_; intro gb138 hg w9 hbox hb; have n0_ := bb_ BK136 hb; have n1_ := bb_ BK137 hb; have n2_ := Aside0.mk (below_step (bw_ w) hb); have n3_ := Aside0.mk (hbox); have n4_ := gz_ w hg; have n5_ := gz_ w hg; have n6_ := ne_ hg BK136; have n7_ := en_ hg BK136; have n8_ := ne_ hg BK137; have n9_ := en_ hg BK137; clear BK136; clear BK137; clear HB; have BK136 := n0_; have BK137 := n1_; have HB := n2_; have BK138 := n3_; have GW138 := n4_; have GE138 := n5_; have NB136_138 := n6_; have NB138_136 := n7_; have NB137_138 := n8_; have NB138_137 := n9_; clear n0_ n1_ n2_ n3_ n4_ n5_ n6_ n7_ n8_ n9_; clear hb hbox hg; have hnb10 := NB136_137.out; have hnc10 := NB137_136.out; have hnb11 := NB136_138.out; have hnc11 := NB138_136.out; obtain ⟨hcz12_0, hcz12_1, hcz12_2, hcz12_3, hfz12_0, hfz12_1, hfz12_2, hfz12_3⟩ := bc4_ (w := w9) BK136; have hnb13 := NB138_137.out; have hnc13 := NB137_138.out; obtain ⟨hcz14_0, hcz14_1, hcz14_2, hcz14_3, hcz14_4, hfz14_0, hfz14_1, hfz14_2, hfz14_3, hfz14_4⟩ := bc5_ (w := w9) BK138; obtain ⟨hcz15_0, hcz15_1, hcz15_2, hfz15_0, hfz15_1, hfz15_2⟩ := bc3_ (w := w9) BK137) | (go_at_call 78; (with_reducible refine (impl_Shop_onLoom.calls k a0_0 a0_1 _ _ l0_2 a0_3 a1_2 t139 _ ?side1 ?side2 A6.out).mono ?_); (case side1 => exact cb_ HR0_2 HB); (case side2 => exact HC0_2.out); rintro e w16 ⟨rfl, hb⟩; replace BK136 := bb_ BK136 hb; replace BK137 := bb_ BK137 hb; replace BK138 := bb_ BK138 hb; replace HB := Aside0.mk (below_step (bw_ w) hb); (try clear hb); (try clear hb2); (try clear hk); (try clear hi)))
   go_ret
   exact ⟨by first | rfl | (simp [errW_none, errW_some] <;> rfl) | (simp [*, errW_none, errW_some] <;> rfl), (bw_ w)⟩
  ·rw [if_neg c5] at H
   have c5b0 : (a2_2 == 0) = false := beq_eq_false_iff_ne.mpr c5
   have c5b1 : (a2_2 != 0) = true := bne_iff_ne.mpr c5
   obtain rfl := Option.some.inj H
   go_enter Try.func111, Try.ntmps111
   go_wp2_with (first | ((with_reducible refine gate_dst (N := 3) rfl ?_); refine box_ (N := 3) (cs := #[.int .i64 a0_0, .int .i64 a0_1, .slice A0_2 l0_2.length c0_2, .int .i64 a0_3]) (t := 24) ?_; intro gb136 hg w17 hbox hb; have BK136 := Aside0.mk (hbox); have GW136 := gz_ w hg; have GE136 := gz_ w hg; replace HB := Aside0.mk (below_step (bw_ w) hb); clear hb hbox hg) | ((with_reducible refine gate_dst (N := 4) rfl ?_); refine box_ (N := 4) (cs := #[.int .i64 a1_0, .int .i64 a1_1, .int .i64 a1_2]) (t := 30) ?_; intro gb137 hg w18 hbox hb; have n0_ := bb_ BK136 hb; have n1_ := Aside0.mk (below_step (bw_ w) hb); have n2_ := Aside0.mk (hbox); have n3_ := gz_ w hg; have n4_ := gz_ w hg; have n5_ := ne_ hg BK136; have n6_ := en_ hg BK136; clear BK136; clear HB; have BK136 := n0_; have HB := n1_; have BK137 := n2_; have GW137 := n3_; have GE137 := n4_; have NB136_137 := n5_; have NB137_136 := n6_; clear n0_ n1_ n2_ n3_ n4_ n5_ n6_; clear hb hbox hg) | ((with_reducible refine gate_dst (N := 5) rfl ?_); refine box_ (N := 5) (cs := #[.int .i64 a2_0, .int .i64 a2_1, .int .i64 a2_2, .int .i64 a2_3, .int .i64 a2_4]) (t := 34) ?_; intro gb138 hg w19 hbox hb; have n0_ := bb_ BK136 hb; have n1_ := bb_ BK137 hb; have n2_ := Aside0.mk (below_step (bw_ w) hb); have n3_ := Aside0.mk (hbox); have n4_ := gz_ w hg; have n5_ := gz_ w hg; have n6_ := ne_ hg BK136; have n7_ := en_ hg BK136; have n8_ := ne_ hg BK137; have n9_ := en_ hg BK137; clear BK136; clear BK137; clear HB; have BK136 := n0_; have BK137 := n1_; have HB := n2_; have BK138 := n3_; have GW138 := n4_; have GE138 := n5_; have NB136_138 := n6_; have NB138_136 := n7_; have NB137_138 := n8_; have NB138_137 := n9_; clear n0_ n1_ n2_ n3_ n4_ n5_ n6_ n7_ n8_ n9_; clear hb hbox hg; have hnb20 := NB136_137.out; have hnc20 := NB137_136.out; have hnb21 := NB136_138.out; have hnc21 := NB138_136.out; obtain ⟨hcz22_0, hcz22_1, hcz22_2, hcz22_3, hfz22_0, hfz22_1, hfz22_2, hfz22_3⟩ := bc4_ (w := w19) BK136; have hnb23 := NB138_137.out; have hnc23 := NB137_138.out; obtain ⟨hcz24_0, hcz24_1, hcz24_2, hcz24_3, hcz24_4, hfz24_0, hfz24_1, hfz24_2, hfz24_3, hfz24_4⟩ := bc5_ (w := w19) BK138; obtain ⟨hcz25_0, hcz25_1, hcz25_2, hfz25_0, hfz25_1, hfz25_2⟩ := bc3_ (w := w19) BK137))
   go_ret
   exact ⟨by first | rfl | (simp [errW_none, errW_some] <;> rfl) | (simp [*, errW_none, errW_some] <;> rfl), (bw_ w)⟩
 ·rw [if_neg c4] at H
  have c4b0 : (a1_0 == 3) = false := beq_eq_false_iff_ne.mpr c4
  have c4b1 : (a1_0 != 3) = true := bne_iff_ne.mpr c4
  by_cases c26 : a1_0 = 4
  ·rw [if_pos c26] at H
   have c26b0 : (a1_0 == 4) = true := beq_iff_eq.mpr c26
   have c26b1 : (a1_0 != 4) = false := bne_eq_false_iff_eq.mpr c26
   clear c26
   by_cases c27 : a2_2 = 1
   ·rw [if_pos c27] at H
    have c27b0 : (a2_2 == 1) = true := beq_iff_eq.mpr c27
    have c27b1 : (a2_2 != 1) = false := bne_eq_false_iff_eq.mpr c27
    clear c27
    by_cases c28 : (wrap64 (a0_0 - a2_4)) ≥ 1
    ·rw [if_pos c28] at H
     have c28b0 : decide (1 ≤ (wrap64 (a0_0 - a2_4))) = true := decide_eq_true c28
     clear c28
     obtain rfl := Option.some.inj H
     go_enter Try.func111, Try.ntmps111
     go_wp2_with (first | ((with_reducible refine gate_dst (N := 3) rfl ?_); refine box_ (N := 3) (cs := #[.int .i64 a0_0, .int .i64 a0_1, .slice A0_2 l0_2.length c0_2, .int .i64 a0_3]) (t := 24) ?_; intro gb136 hg w29 hbox hb; have BK136 := Aside0.mk (hbox); have GW136 := gz_ w hg; have GE136 := gz_ w hg; replace HB := Aside0.mk (below_step (bw_ w) hb); clear hb hbox hg) | ((with_reducible refine gate_dst (N := 4) rfl ?_); refine box_ (N := 4) (cs := #[.int .i64 a1_0, .int .i64 a1_1, .int .i64 a1_2]) (t := 30) ?_; intro gb137 hg w30 hbox hb; have n0_ := bb_ BK136 hb; have n1_ := Aside0.mk (below_step (bw_ w) hb); have n2_ := Aside0.mk (hbox); have n3_ := gz_ w hg; have n4_ := gz_ w hg; have n5_ := ne_ hg BK136; have n6_ := en_ hg BK136; clear BK136; clear HB; have BK136 := n0_; have HB := n1_; have BK137 := n2_; have GW137 := n3_; have GE137 := n4_; have NB136_137 := n5_; have NB137_136 := n6_; clear n0_ n1_ n2_ n3_ n4_ n5_ n6_; clear hb hbox hg) | ((with_reducible refine gate_dst (N := 5) rfl ?_); refine box_ (N := 5) (cs := #[.int .i64 a2_0, .int .i64 a2_1, .int .i64 a2_2, .int .i64 a2_3, .int .i64 a2_4]) (t := 34) ?_; intro gb138 hg w31 hbox hb; have n0_ := bb_ BK136 hb; have n1_ := bb_ BK137 hb; have n2_ := Aside0.mk (below_step (bw_ w) hb); have n3_ := Aside0.mk (hbox); have n4_ := gz_ w hg; have n5_ := gz_ w hg; have n6_ := ne_ hg BK136; have n7_ := en_ hg BK136; have n8_ := ne_ hg BK137; have n9_ := en_ hg BK137; clear BK136; clear BK137; clear HB; have BK136 := n0_; have BK137 := n1_; have HB := n2_; have BK138 := n3_; have GW138 := n4_; have GE138 := n5_; have NB136_138 := n6_; have NB138_136 := n7_; have NB137_138 := n8_; have NB138_137 := n9_; clear n0_ n1_ n2_ n3_ n4_ n5_ n6_ n7_ n8_ n9_; clear hb hbox hg; have hnb32 := NB136_137.out; have hnc32 := NB137_136.out; have hnb33 := NB136_138.out; have hnc33 := NB138_136.out; obtain ⟨hcz34_0, hcz34_1, hcz34_2, hcz34_3, hfz34_0, hfz34_1, hfz34_2, hfz34_3⟩ := bc4_ (w := w31) BK136; have hnb35 := NB138_137.out; have hnc35 := NB137_138.out; obtain ⟨hcz36_0, hcz36_1, hcz36_2, hcz36_3, hcz36_4, hfz36_0, hfz36_1, hfz36_2, hfz36_3, hfz36_4⟩ := bc5_ (w := w31) BK138; obtain ⟨hcz37_0, hcz37_1, hcz37_2, hfz37_0, hfz37_1, hfz37_2⟩ := bc3_ (w := w31) BK137))
     go_ret
     exact ⟨by first | rfl | (simp [errW_none, errW_some] <;> rfl) | (simp [*, errW_none, errW_some] <;> rfl), (bw_ w)⟩
    ·rw [if_neg c28] at H
     have c28b0 : decide (1 ≤ (wrap64 (a0_0 - a2_4))) = false := decide_eq_false c28
     clear c28
     obtain rfl := Option.some.inj H
     go_enter Try.func111, Try.ntmps111
     go_wp2_with (first | ((with_reducible refine gate_dst (N := 3) rfl ?_); refine box_ (N := 3) (cs := #[.int .i64 a0_0, .int .i64 a0_1, .slice A0_2 l0_2.length c0_2, .int .i64 a0_3]) (t := 24) ?_; intro gb136 hg w38 hbox hb; have BK136 := Aside0.mk (hbox); have GW136 := gz_ w hg; have GE136 := gz_ w hg; replace HB := Aside0.mk (below_step (bw_ w) hb); clear hb hbox hg) | ((with_reducible refine gate_dst (N := 4) rfl ?_); refine box_ (N := 4) (cs := #[.int .i64 a1_0, .int .i64 a1_1, .int .i64 a1_2]) (t := 30) ?_; intro gb137 hg w39 hbox hb; have n0_ := bb_ BK136 hb; have n1_ := Aside0.mk (below_step (bw_ w) hb); have n2_ := Aside0.mk (hbox); have n3_ := gz_ w hg; have n4_ := gz_ w hg; have n5_ := ne_ hg BK136; have n6_ := en_ hg BK136; clear BK136; clear HB; have BK136 := n0_; have HB := n1_; have BK137 := n2_; have GW137 := n3_; have GE137 := n4_; have NB136_137 := n5_; have NB137_136 := n6_; clear n0_ n1_ n2_ n3_ n4_ n5_ n6_; clear hb hbox hg) | ((with_reducible refine gate_dst (N := 5) rfl ?_); refine box_ (N := 5) (cs := #[.int .i64 a2_0, .int .i64 a2_1, .int .i64 a2_2, .int .i64 a2_3, .int .i64 a2_4]) (t := 34) ?_; intro gb138 hg w40 hbox hb; have n0_ := bb_ BK136 hb; have n1_ := bb_ BK137 hb; have n2_ := Aside0.mk (below_step (bw_ w) hb); have n3_ := Aside0.mk (hbox); have n4_ := gz_ w hg; have n5_ := gz_ w hg; have n6_ := ne_ hg BK136; have n7_ := en_ hg BK136; have n8_ := ne_ hg BK137; have n9_ := en_ hg BK137; clear BK136; clear BK137; clear HB; have BK136 := n0_; have BK137 := n1_; have HB := n2_; have BK138 := n3_; have GW138 := n4_; have GE138 := n5_; have NB136_138 := n6_; have NB138_136 := n7_; have NB137_138 := n8_; have NB138_137 := n9_; clear n0_ n1_ n2_ n3_ n4_ n5_ n6_ n7_ n8_ n9_; clear hb hbox hg; have hnb41 := NB136_137.out; have hnc41 := NB137_136.out; have hnb42 := NB136_138.out; have hnc42 := NB138_136.out; obtain ⟨hcz43_0, hcz43_1, hcz43_2, hcz43_3, hfz43_0, hfz43_1, hfz43_2, hfz43_3⟩ := bc4_ (w := w40) BK136; have hnb44 := NB138_137.out; have hnc44 := NB137_138.out; obtain ⟨hcz45_0, hcz45_1, hcz45_2, hcz45_3, hcz45_4, hfz45_0, hfz45_1, hfz45_2, hfz45_3, hfz45_4⟩ := bc5_ (w := w40) BK138; obtain ⟨hcz46_0, hcz46_1, hcz46_2, hfz46_0, hfz46_1, hfz46_2⟩ := bc3_ (w := w40) BK137))
     go_ret
     exact ⟨by first | rfl | (simp [errW_none, errW_some] <;> rfl) | (simp [*, errW_none, errW_some] <;> rfl), (bw_ w)⟩
   ·rw [if_neg c27] at H
    have c27b0 : (a2_2 == 1) = false := beq_eq_false_iff_ne.mpr c27
    have c27b1 : (a2_2 != 1) = true := bne_iff_ne.mpr c27
    obtain rfl := Option.some.inj H
    go_enter Try.func111, Try.ntmps111
    go_wp2_with (first | ((with_reducible refine gate_dst (N := 3) rfl ?_); refine box_ (N := 3) (cs := #[.int .i64 a0_0, .int .i64 a0_1, .slice A0_2 l0_2.length c0_2, .int .i64 a0_3]) (t := 24) ?_; intro gb136 hg w47 hbox hb; have BK136 := Aside0.mk (hbox); have GW136 := gz_ w hg; have GE136 := gz_ w hg; replace HB := Aside0.mk (below_step (bw_ w) hb); clear hb hbox hg) | ((with_reducible refine gate_dst (N := 4) rfl ?_); refine box_ (N := 4) (cs := #[.int .i64 a1_0, .int .i64 a1_1, .int .i64 a1_2]) (t := 30) ?_; intro gb137 hg w48 hbox hb; have n0_ := bb_ BK136 hb; have n1_ := Aside0.mk (below_step (bw_ w) hb); have n2_ := Aside0.mk (hbox); have n3_ := gz_ w hg; have n4_ := gz_ w hg; have n5_ := ne_ hg BK136; have n6_ := en_ hg BK136; clear BK136; clear HB; have BK136 := n0_; have HB := n1_; have BK137 := n2_; have GW137 := n3_; have GE137 := n4_; have NB136_137 := n5_; have NB137_136 := n6_; clear n0_ n1_ n2_ n3_ n4_ n5_ n6_; clear hb hbox hg) | ((with_reducible refine gate_dst (N := 5) rfl ?_); refine box_ (N := 5) (cs := #[.int .i64 a2_0, .int .i64 a2_1, .int .i64 a2_2, .int .i64 a2_3, .int .i64 a2_4]) (t := 34) ?_; intro gb138 hg w49 hbox hb; have n0_ := bb_ BK136 hb; have n1_ := bb_ BK137 hb; have n2_ := Aside0.mk (below_step (bw_ w) hb); have n3_ := Aside0.mk (hbox); have n4_ := gz_ w hg; have n5_ := gz_ w hg; have n6_ := ne_ hg BK136; have n7_ := en_ hg BK136; have n8_ := ne_ hg BK137; have n9_ := en_ hg BK137; clear BK136; clear BK137; clear HB; have BK136 := n0_; have BK137 := n1_; have HB := n2_; have BK138 := n3_; have GW138 := n4_; have GE138 := n5_; have NB136_138 := n6_; have NB138_136 := n7_; have NB137_138 := n8_; have NB138_137 := n9_; clear n0_ n1_ n2_ n3_ n4_ n5_ n6_ n7_ n8_ n9_; clear hb hbox hg; have hnb50 := NB136_137.out; have hnc50 := NB137_136.out; have hnb51 := NB136_138.out; have hnc51 := NB138_136.out; obtain ⟨hcz52_0, hcz52_1, hcz52_2, hcz52_3, hfz52_0, hfz52_1, hfz52_2, hfz52_3⟩ := bc4_ (w := w49) BK136; have hnb53 := NB138_137.out; have hnc53 := NB137_138.out; obtain ⟨hcz54_0, hcz54_1, hcz54_2, hcz54_3, hcz54_4, hfz54_0, hfz54_1, hfz54_2, hfz54_3, hfz54_4⟩ := bc5_ (w := w49) BK138; obtain ⟨hcz55_0, hcz55_1, hcz55_2, hfz55_0, hfz55_1, hfz55_2⟩ := bc3_ (w := w49) BK137))
    go_ret
    exact ⟨by first | rfl | (simp [errW_none, errW_some] <;> rfl) | (simp [*, errW_none, errW_some] <;> rfl), (bw_ w)⟩
  ·rw [if_neg c26] at H
   have c26b0 : (a1_0 == 4) = false := beq_eq_false_iff_ne.mpr c26
   have c26b1 : (a1_0 != 4) = true := bne_iff_ne.mpr c26
   by_cases c56 : a1_0 = 5
   ·rw [if_pos c56] at H
    have c56b0 : (a1_0 == 5) = true := beq_iff_eq.mpr c56
    have c56b1 : (a1_0 != 5) = false := bne_eq_false_iff_eq.mpr c56
    clear c56
    by_cases c57 : a2_2 = 1
    ·rw [if_pos c57] at H
     have c57b0 : (a2_2 == 1) = true := beq_iff_eq.mpr c57
     have c57b1 : (a2_2 != 1) = false := bne_eq_false_iff_eq.mpr c57
     clear c57
     obtain rfl := Option.some.inj H
     go_enter Try.func111, Try.ntmps111
     go_wp2_with (first | ((with_reducible refine gate_dst (N := 3) rfl ?_); refine box_ (N := 3) (cs := #[.int .i64 a0_0, .int .i64 a0_1, .slice A0_2 l0_2.length c0_2, .int .i64 a0_3]) (t := 24) ?_; intro gb136 hg w58 hbox hb; have BK136 := Aside0.mk (hbox); have GW136 := gz_ w hg; have GE136 := gz_ w hg; replace HB := Aside0.mk (below_step (bw_ w) hb); clear hb hbox hg) | ((with_reducible refine gate_dst (N := 4) rfl ?_); refine box_ (N := 4) (cs := #[.int .i64 a1_0, .int .i64 a1_1, .int .i64 a1_2]) (t := 30) ?_; intro gb137 hg w59 hbox hb; have n0_ := bb_ BK136 hb; have n1_ := Aside0.mk (below_step (bw_ w) hb); have n2_ := Aside0.mk (hbox); have n3_ := gz_ w hg; have n4_ := gz_ w hg; have n5_ := ne_ hg BK136; have n6_ := en_ hg BK136; clear BK136; clear HB; have BK136 := n0_; have HB := n1_; have BK137 := n2_; have GW137 := n3_; have GE137 := n4_; have NB136_137 := n5_; have NB137_136 := n6_; clear n0_ n1_ n2_ n3_ n4_ n5_ n6_; clear hb hbox hg) | ((with_reducible refine gate_dst (N := 5) rfl ?_); refine box_ (N := 5) (cs := #[.int .i64 a2_0, .int .i64 a2_1, .int .i64 a2_2, .int .i64 a2_3, .int .i64 a2_4]) (t := 34) ?_; intro gb138 hg w60 hbox hb; have n0_ := bb_ BK136 hb; have n1_ := bb_ BK137 hb; have n2_ := Aside0.mk (below_step (bw_ w) hb); have n3_ := Aside0.mk (hbox); have n4_ := gz_ w hg; have n5_ := gz_ w hg; have n6_ := ne_ hg BK136; have n7_ := en_ hg BK136; have n8_ := ne_ hg BK137; have n9_ := en_ hg BK137; clear BK136; clear BK137; clear HB; have BK136 := n0_; have BK137 := n1_; have HB := n2_; have BK138 := n3_; have GW138 := n4_; have GE138 := n5_; have NB136_138 := n6_; have NB138_136 := n7_; have NB137_138 := n8_; have NB138_137 := n9_; clear n0_ n1_ n2_ n3_ n4_ n5_ n6_ n7_ n8_ n9_; clear hb hbox hg; have hnb61 := NB136_137.out; have hnc61 := NB137_136.out; have hnb62 := NB136_138.out; have hnc62 := NB138_136.out; obtain ⟨hcz63_0, hcz63_1, hcz63_2, hcz63_3, hfz63_0, hfz63_1, hfz63_2, hfz63_3⟩ := bc4_ (w := w60) BK136; have hnb64 := NB138_137.out; have hnc64 := NB137_138.out; obtain ⟨hcz65_0, hcz65_1, hcz65_2, hcz65_3, hcz65_4, hfz65_0, hfz65_1, hfz65_2, hfz65_3, hfz65_4⟩ := bc5_ (w := w60) BK138; obtain ⟨hcz66_0, hcz66_1, hcz66_2, hfz66_0, hfz66_1, hfz66_2⟩ := bc3_ (w := w60) BK137))
     go_ret
     exact ⟨by first | rfl | (simp [errW_none, errW_some] <;> rfl) | (simp [*, errW_none, errW_some] <;> rfl), (bw_ w)⟩
    ·rw [if_neg c57] at H
     have c57b0 : (a2_2 == 1) = false := beq_eq_false_iff_ne.mpr c57
     have c57b1 : (a2_2 != 1) = true := bne_iff_ne.mpr c57
     obtain rfl := Option.some.inj H
     go_enter Try.func111, Try.ntmps111
     go_wp2_with (first | ((with_reducible refine gate_dst (N := 3) rfl ?_); refine box_ (N := 3) (cs := #[.int .i64 a0_0, .int .i64 a0_1, .slice A0_2 l0_2.length c0_2, .int .i64 a0_3]) (t := 24) ?_; intro gb136 hg w67 hbox hb; have BK136 := Aside0.mk (hbox); have GW136 := gz_ w hg; have GE136 := gz_ w hg; replace HB := Aside0.mk (below_step (bw_ w) hb); clear hb hbox hg) | ((with_reducible refine gate_dst (N := 4) rfl ?_); refine box_ (N := 4) (cs := #[.int .i64 a1_0, .int .i64 a1_1, .int .i64 a1_2]) (t := 30) ?_; intro gb137 hg w68 hbox hb; have n0_ := bb_ BK136 hb; have n1_ := Aside0.mk (below_step (bw_ w) hb); have n2_ := Aside0.mk (hbox); have n3_ := gz_ w hg; have n4_ := gz_ w hg; have n5_ := ne_ hg BK136; have n6_ := en_ hg BK136; clear BK136; clear HB; have BK136 := n0_; have HB := n1_; have BK137 := n2_; have GW137 := n3_; have GE137 := n4_; have NB136_137 := n5_; have NB137_136 := n6_; clear n0_ n1_ n2_ n3_ n4_ n5_ n6_; clear hb hbox hg) | ((with_reducible refine gate_dst (N := 5) rfl ?_); refine box_ (N := 5) (cs := #[.int .i64 a2_0, .int .i64 a2_1, .int .i64 a2_2, .int .i64 a2_3, .int .i64 a2_4]) (t := 34) ?_; intro gb138 hg w69 hbox hb; have n0_ := bb_ BK136 hb; have n1_ := bb_ BK137 hb; have n2_ := Aside0.mk (below_step (bw_ w) hb); have n3_ := Aside0.mk (hbox); have n4_ := gz_ w hg; have n5_ := gz_ w hg; have n6_ := ne_ hg BK136; have n7_ := en_ hg BK136; have n8_ := ne_ hg BK137; have n9_ := en_ hg BK137; clear BK136; clear BK137; clear HB; have BK136 := n0_; have BK137 := n1_; have HB := n2_; have BK138 := n3_; have GW138 := n4_; have GE138 := n5_; have NB136_138 := n6_; have NB138_136 := n7_; have NB137_138 := n8_; have NB138_137 := n9_; clear n0_ n1_ n2_ n3_ n4_ n5_ n6_ n7_ n8_ n9_; clear hb hbox hg; have hnb70 := NB136_137.out; have hnc70 := NB137_136.out; have hnb71 := NB136_138.out; have hnc71 := NB138_136.out; obtain ⟨hcz72_0, hcz72_1, hcz72_2, hcz72_3, hfz72_0, hfz72_1, hfz72_2, hfz72_3⟩ := bc4_ (w := w69) BK136; have hnb73 := NB138_137.out; have hnc73 := NB137_138.out; obtain ⟨hcz74_0, hcz74_1, hcz74_2, hcz74_3, hcz74_4, hfz74_0, hfz74_1, hfz74_2, hfz74_3, hfz74_4⟩ := bc5_ (w := w69) BK138; obtain ⟨hcz75_0, hcz75_1, hcz75_2, hfz75_0, hfz75_1, hfz75_2⟩ := bc3_ (w := w69) BK137))
     go_ret
     exact ⟨by first | rfl | (simp [errW_none, errW_some] <;> rfl) | (simp [*, errW_none, errW_some] <;> rfl), (bw_ w)⟩
   ·rw [if_neg c56] at H
    have c56b0 : (a1_0 == 5) = false := beq_eq_false_iff_ne.mpr c56
    have c56b1 : (a1_0 != 5) = true := bne_iff_ne.mpr c56
    by_cases c76 : a1_0 = 6
    ·rw [if_pos c76] at H
     have c76b0 : (a1_0 == 6) = true := beq_iff_eq.mpr c76
     have c76b1 : (a1_0 != 6) = false := bne_eq_false_iff_eq.mpr c76
     clear c76
     obtain rfl := Option.some.inj H
     go_enter Try.func111, Try.ntmps111
     go_wp2_with (first | ((with_reducible refine gate_dst (N := 3) rfl ?_); refine box_ (N := 3) (cs := #[.int .i64 a0_0, .int .i64 a0_1, .slice A0_2 l0_2.length c0_2, .int .i64 a0_3]) (t := 24) ?_; intro gb136 hg w77 hbox hb; have BK136 := Aside0.mk (hbox); have GW136 := gz_ w hg; have GE136 := gz_ w hg; replace HB := Aside0.mk (below_step (bw_ w) hb); clear hb hbox hg) | ((with_reducible refine gate_dst (N := 4) rfl ?_); refine box_ (N := 4) (cs := #[.int .i64 a1_0, .int .i64 a1_1, .int .i64 a1_2]) (t := 30) ?_; intro gb137 hg w78 hbox hb; have n0_ := bb_ BK136 hb; have n1_ := Aside0.mk (below_step (bw_ w) hb); have n2_ := Aside0.mk (hbox); have n3_ := gz_ w hg; have n4_ := gz_ w hg; have n5_ := ne_ hg BK136; have n6_ := en_ hg BK136; clear BK136; clear HB; have BK136 := n0_; have HB := n1_; have BK137 := n2_; have GW137 := n3_; have GE137 := n4_; have NB136_137 := n5_; have NB137_136 := n6_; clear n0_ n1_ n2_ n3_ n4_ n5_ n6_; clear hb hbox hg) | ((with_reducible refine gate_dst (N := 5) rfl ?_); refine box_ (N := 5) (cs := #[.int .i64 a2_0, .int .i64 a2_1, .int .i64 a2_2, .int .i64 a2_3, .int .i64 a2_4]) (t := 34) ?_; intro gb138 hg w79 hbox hb; have n0_ := bb_ BK136 hb; have n1_ := bb_ BK137 hb; have n2_ := Aside0.mk (below_step (bw_ w) hb); have n3_ := Aside0.mk (hbox); have n4_ := gz_ w hg; have n5_ := gz_ w hg; have n6_ := ne_ hg BK136; have n7_ := en_ hg BK136; have n8_ := ne_ hg BK137; have n9_ := en_ hg BK137; clear BK136; clear BK137; clear HB; have BK136 := n0_; have BK137 := n1_; have HB := n2_; have BK138 := n3_; have GW138 := n4_; have GE138 := n5_; have NB136_138 := n6_; have NB138_136 := n7_; have NB137_138 := n8_; have NB138_137 := n9_; clear n0_ n1_ n2_ n3_ n4_ n5_ n6_ n7_ n8_ n9_; clear hb hbox hg; have hnb80 := NB136_137.out; have hnc80 := NB137_136.out; have hnb81 := NB136_138.out; have hnc81 := NB138_136.out; obtain ⟨hcz82_0, hcz82_1, hcz82_2, hcz82_3, hfz82_0, hfz82_1, hfz82_2, hfz82_3⟩ := bc4_ (w := w79) BK136; have hnb83 := NB138_137.out; have hnc83 := NB137_138.out; obtain ⟨hcz84_0, hcz84_1, hcz84_2, hcz84_3, hcz84_4, hfz84_0, hfz84_1, hfz84_2, hfz84_3, hfz84_4⟩ := bc5_ (w := w79) BK138; obtain ⟨hcz85_0, hcz85_1, hcz85_2, hfz85_0, hfz85_1, hfz85_2⟩ := bc3_ (w := w79) BK137))
     go_ret
     exact ⟨by first | rfl | (simp [errW_none, errW_some] <;> rfl) | (simp [*, errW_none, errW_some] <;> rfl), (bw_ w)⟩
    ·rw [if_neg c76] at H
     have c76b0 : (a1_0 == 6) = false := beq_eq_false_iff_ne.mpr c76
     have c76b1 : (a1_0 != 6) = true := bne_iff_ne.mpr c76
     by_cases c86 : a2_2 = 3
     ·rw [if_pos c86] at H
      have c86b0 : (a2_2 == 3) = true := beq_iff_eq.mpr c86
      have c86b1 : (a2_2 != 3) = false := bne_eq_false_iff_eq.mpr c86
      clear c86
      obtain rfl := Option.some.inj H
      go_enter Try.func111, Try.ntmps111
      go_wp2_with (first | ((with_reducible refine gate_dst (N := 3) rfl ?_); refine box_ (N := 3) (cs := #[.int .i64 a0_0, .int .i64 a0_1, .slice A0_2 l0_2.length c0_2, .int .i64 a0_3]) (t := 24) ?_; intro gb136 hg w87 hbox hb; have BK136 := Aside0.mk (hbox); have GW136 := gz_ w hg; have GE136 := gz_ w hg; replace HB := Aside0.mk (below_step (bw_ w) hb); clear hb hbox hg) | ((with_reducible refine gate_dst (N := 4) rfl ?_); refine box_ (N := 4) (cs := #[.int .i64 a1_0, .int .i64 a1_1, .int .i64 a1_2]) (t := 30) ?_; intro gb137 hg w88 hbox hb; have n0_ := bb_ BK136 hb; have n1_ := Aside0.mk (below_step (bw_ w) hb); have n2_ := Aside0.mk (hbox); have n3_ := gz_ w hg; have n4_ := gz_ w hg; have n5_ := ne_ hg BK136; have n6_ := en_ hg BK136; clear BK136; clear HB; have BK136 := n0_; have HB := n1_; have BK137 := n2_; have GW137 := n3_; have GE137 := n4_; have NB136_137 := n5_; have NB137_136 := n6_; clear n0_ n1_ n2_ n3_ n4_ n5_ n6_; clear hb hbox hg) | ((with_reducible refine gate_dst (N := 5) rfl ?_); refine box_ (N := 5) (cs := #[.int .i64 a2_0, .int .i64 a2_1, .int .i64 a2_2, .int .i64 a2_3, .int .i64 a2_4]) (t := 34) ?_; intro gb138 hg w89 hbox hb; have n0_ := bb_ BK136 hb; have n1_ := bb_ BK137 hb; have n2_ := Aside0.mk (below_step (bw_ w) hb); have n3_ := Aside0.mk (hbox); have n4_ := gz_ w hg; have n5_ := gz_ w hg; have n6_ := ne_ hg BK136; have n7_ := en_ hg BK136; have n8_ := ne_ hg BK137; have n9_ := en_ hg BK137; clear BK136; clear BK137; clear HB; have BK136 := n0_; have BK137 := n1_; have HB := n2_; have BK138 := n3_; have GW138 := n4_; have GE138 := n5_; have NB136_138 := n6_; have NB138_136 := n7_; have NB137_138 := n8_; have NB138_137 := n9_; clear n0_ n1_ n2_ n3_ n4_ n5_ n6_ n7_ n8_ n9_; clear hb hbox hg; have hnb90 := NB136_137.out; have hnc90 := NB137_136.out; have hnb91 := NB136_138.out; have hnc91 := NB138_136.out; obtain ⟨hcz92_0, hcz92_1, hcz92_2, hcz92_3, hfz92_0, hfz92_1, hfz92_2, hfz92_3⟩ := bc4_ (w := w89) BK136; have hnb93 := NB138_137.out; have hnc93 := NB137_138.out; obtain ⟨hcz94_0, hcz94_1, hcz94_2, hcz94_3, hcz94_4, hfz94_0, hfz94_1, hfz94_2, hfz94_3, hfz94_4⟩ := bc5_ (w := w89) BK138; obtain ⟨hcz95_0, hcz95_1, hcz95_2, hfz95_0, hfz95_1, hfz95_2⟩ := bc3_ (w := w89) BK137))
      go_ret
      exact ⟨by first | rfl | (simp [errW_none, errW_some] <;> rfl) | (simp [*, errW_none, errW_some] <;> rfl), (bw_ w)⟩
     ·rw [if_neg c86] at H
      have c86b0 : (a2_2 == 3) = false := beq_eq_false_iff_ne.mpr c86
      have c86b1 : (a2_2 != 3) = true := bne_iff_ne.mpr c86
      obtain rfl := Option.some.inj H
      go_enter Try.func111, Try.ntmps111
      go_wp2_with (first | ((with_reducible refine gate_dst (N := 3) rfl ?_); refine box_ (N := 3) (cs := #[.int .i64 a0_0, .int .i64 a0_1, .slice A0_2 l0_2.length c0_2, .int .i64 a0_3]) (t := 24) ?_; intro gb136 hg w96 hbox hb; have BK136 := Aside0.mk (hbox); have GW136 := gz_ w hg; have GE136 := gz_ w hg; replace HB := Aside0.mk (below_step (bw_ w) hb); clear hb hbox hg) | ((with_reducible refine gate_dst (N := 4) rfl ?_); refine box_ (N := 4) (cs := #[.int .i64 a1_0, .int .i64 a1_1, .int .i64 a1_2]) (t := 30) ?_; intro gb137 hg w97 hbox hb; have n0_ := bb_ BK136 hb; have n1_ := Aside0.mk (below_step (bw_ w) hb); have n2_ := Aside0.mk (hbox); have n3_ := gz_ w hg; have n4_ := gz_ w hg; have n5_ := ne_ hg BK136; have n6_ := en_ hg BK136; clear BK136; clear HB; have BK136 := n0_; have HB := n1_; have BK137 := n2_; have GW137 := n3_; have GE137 := n4_; have NB136_137 := n5_; have NB137_136 := n6_; clear n0_ n1_ n2_ n3_ n4_ n5_ n6_; clear hb hbox hg) | ((with_reducible refine gate_dst (N := 5) rfl ?_); refine box_ (N := 5) (cs := #[.int .i64 a2_0, .int .i64 a2_1, .int .i64 a2_2, .int .i64 a2_3, .int .i64 a2_4]) (t := 34) ?_; intro gb138 hg w98 hbox hb; have n0_ := bb_ BK136 hb; have n1_ := bb_ BK137 hb; have n2_ := Aside0.mk (below_step (bw_ w) hb); have n3_ := Aside0.mk (hbox); have n4_ := gz_ w hg; have n5_ := gz_ w hg; have n6_ := ne_ hg BK136; have n7_ := en_ hg BK136; have n8_ := ne_ hg BK137; have n9_ := en_ hg BK137; clear BK136; clear BK137; clear HB; have BK136 := n0_; have BK137 := n1_; have HB := n2_; have BK138 := n3_; have GW138 := n4_; have GE138 := n5_; have NB136_138 := n6_; have NB138_136 := n7_; have NB137_138 := n8_; have NB138_137 := n9_; clear n0_ n1_ n2_ n3_ n4_ n5_ n6_ n7_ n8_ n9_; clear hb hbox hg; have hnb99 := NB136_137.out; have hnc99 := NB137_136.out; have hnb100 := NB136_138.out; have hnc100 := NB138_136.out; obtain ⟨hcz101_0, hcz101_1, hcz101_2, hcz101_3, hfz101_0, hfz101_1, hfz101_2, hfz101_3⟩ := bc4_ (w := w98) BK136; have hnb102 := NB138_137.out; have hnc102 := NB137_138.out; obtain ⟨hcz103_0, hcz103_1, hcz103_2, hcz103_3, hcz103_4, hfz103_0, hfz103_1, hfz103_2, hfz103_3, hfz103_4⟩ := bc5_ (w := w98) BK138; obtain ⟨hcz104_0, hcz104_1, hcz104_2, hfz104_0, hfz104_1, hfz104_2⟩ := bc3_ (w := w98) BK137))
      go_ret
      exact ⟨by first | rfl | (simp [errW_none, errW_some] <;> rfl) | (simp [*, errW_none, errW_some] <;> rfl), (bw_ w)⟩

-- NOT PRINTED: function 112 (impl_Shop_change)

/-! ### impl_Shop_change: function 112 -/
def impl_Shop_change.f (a0_0 : Int) (a0_1 : Int) (l0_2 : List (S34)) (a0_3 : Int) (a1_0 : Int) (a1_1 : Int) (a1_2 : Int) : Option (Int × Int × (List (S34)) × Int) := if 0 ≤ a1_1 then (if a1_1 < (l0_2.length : Int) then ((some (l0_2.set (a1_1 : Int).toNat (⟨(rd_T34 l0_2 a1_1).f0, (rd_T34 l0_2 a1_1).f1, (rd_T34 l0_2 a1_1).f2, (rd_T34 l0_2 a1_1).f3, a0_0⟩ : S34) : List (S34))).bind fun y161 => (if a1_0 = 3 then ((some (y161.set (a1_1 : Int).toNat (⟨(rd_T34 y161 a1_1).f0, (rd_T34 y161 a1_1).f1, 1, (rd_T34 y161 a1_1).f3, (rd_T34 y161 a1_1).f4⟩ : S34) : List (S34))).bind fun y162 => (some (a0_0, a0_1, (y162.set (a1_1 : Int).toNat (⟨(rd_T34 y162 a1_1).f0, (rd_T34 y162 a1_1).f1, (rd_T34 y162 a1_1).f2, a1_2, (rd_T34 y162 a1_1).f4⟩ : S34)), a0_3))) else (if a1_0 = 4 then (some (a0_0, a0_1, (y161.set (a1_1 : Int).toNat (⟨(rd_T34 y161 a1_1).f0, wrap64 (((rd_T34 y161 a1_1).f1) + a1_2), (rd_T34 y161 a1_1).f2, (rd_T34 y161 a1_1).f3, (rd_T34 y161 a1_1).f4⟩ : S34)), a0_3)) else (if a1_0 = 5 then ((some (y161.set (a1_1 : Int).toNat (⟨(rd_T34 y161 a1_1).f0, (rd_T34 y161 a1_1).f1, 2, (rd_T34 y161 a1_1).f3, (rd_T34 y161 a1_1).f4⟩ : S34) : List (S34))).bind fun y166 => (some (a0_0, a0_1, (y166.set (a1_1 : Int).toNat (⟨(rd_T34 y166 a1_1).f0, (rd_T34 y166 a1_1).f1, (rd_T34 y166 a1_1).f2, 0, (rd_T34 y166 a1_1).f4⟩ : S34)), a0_3))) else (if a1_0 = 6 then (some (a0_0, a0_1, (y161.set (a1_1 : Int).toNat (⟨(rd_T34 y161 a1_1).f0, (rd_T34 y161 a1_1).f1, 3, (rd_T34 y161 a1_1).f3, (rd_T34 y161 a1_1).f4⟩ : S34)), a0_3)) else (if a1_0 = 7 then (some (a0_0, a0_1, (y161.set (a1_1 : Int).toNat (⟨(rd_T34 y161 a1_1).f0, (rd_T34 y161 a1_1).f1, 4, (rd_T34 y161 a1_1).f3, (rd_T34 y161 a1_1).f4⟩ : S34)), wrap64 (a0_3 + a1_2))) else (some (a0_0, a0_1, y161, a0_3)))))))) else (none)) else (none)
def impl_Shop_change.T1 : Bool × List (List Nat × List Nat) := (true, [([], []), ([0], [0]), ([1], [1]), ([2], [2]), ([], []), ([4], [4]), ([3, 5], [3, 5]), ([6, 0, 1, 2, 3, 4, 5, 6], [6])])
def impl_Shop_change.B1 : List Nat := [0, 1, 3, 7, 0, 16, 63, 127]
theorem impl_Shop_change.tab1 : rtab .any (opsOf Try.f112 1) = impl_Shop_change.T1 := by kernel_rfl
theorem impl_Shop_change.bits1 : waitsOk impl_Shop_change.T1.2 impl_Shop_change.B1 = true := by kernel_rfl
def impl_Shop_change.T5 : Bool × List (List Nat × List Nat) := (true, [([], []), ([], []), ([], []), ([2], [2]), ([0, 0], [0]), ([4, 0], [4]), ([5, 0], [5]), ([1, 0, 1, 2, 3, 4, 5, 6], [1]), ([7, 0, 1, 2, 3, 4, 5, 6], [7]), ([8, 3, 6, 0, 1, 2, 3, 4, 5, 6], [3, 8])])
def impl_Shop_change.B5 : List Nat := [0, 0, 0, 4, 1, 17, 49, 127, 255, 511]
theorem impl_Shop_change.tab5 : rtab .any (opsOf Try.f112 5) = impl_Shop_change.T5 := by kernel_rfl
theorem impl_Shop_change.bits5 : waitsOk impl_Shop_change.T5.2 impl_Shop_change.B5 = true := by kernel_rfl
def impl_Shop_change.T7 : Bool × List (List Nat × List Nat) := (true, [([], []), ([0], [0]), ([1], [1]), ([2], [2]), ([], []), ([4], [4]), ([3, 5], [3, 5]), ([0, 0, 1, 2, 3, 4, 5, 6], [0]), ([7, 0, 1, 2, 3, 4, 5, 6], [7]), ([8, 6, 0, 1, 2, 3, 4, 5, 6], [6, 8])])
def impl_Shop_change.B7 : List Nat := [0, 1, 3, 7, 0, 16, 63, 127, 255, 511]
theorem impl_Shop_change.tab7 : rtab .any (opsOf Try.f112 7) = impl_Shop_change.T7 := by kernel_rfl
theorem impl_Shop_change.bits7 : waitsOk impl_Shop_change.T7.2 impl_Shop_change.B7 = true := by kernel_rfl
def impl_Shop_change.T14 : Bool × List (List Nat × List Nat) := (true, [([], []), ([0], [0]), ([1], [1]), ([2], [2]), ([], []), ([4], [4]), ([3, 5], [3, 5]), ([0, 0, 1, 2, 3, 4, 5, 6], [0]), ([7, 0, 1, 2, 3, 4, 5, 6], [7]), ([8, 6, 0, 1, 2, 3, 4, 5, 6], [6, 8])])
def impl_Shop_change.B14 : List Nat := [0, 1, 3, 7, 0, 16, 63, 127, 255, 511]
theorem impl_Shop_change.tab14 : rtab .any (opsOf Try.f112 14) = impl_Shop_change.T14 := by kernel_rfl
theorem impl_Shop_change.bits14 : waitsOk impl_Shop_change.T14.2 impl_Shop_change.B14 = true := by kernel_rfl
set_option maxHeartbeats 8000000 in
set_option maxRecDepth 100000 in
theorem impl_Shop_change.calls (gb159 : Nat) (a0_0 : Int) (a0_1 : Int) (P0_2_ : Nat → Prop) (u9000_ : Value) (l0_2 : List (S34)) (a0_3 : Int) (a1_0 : Int) (a1_1 : Int) (a1_2 : Int) (r1 : Int) (r2 : Int) (r3 : List (S34)) (r4 : Int) (w0 w : World) (hB : Below w0.heap.size w0 w) (hb159 : w.heap[gb159]? = some (.cells #[.int .i64 a0_0, .int .i64 a0_1, u9000_, .int .i64 a0_3] 24 (0, 0))) (hge159 : w0.heap.size ≤ gb159) (ho0_2 : Kd.R k34 34 w w0.heap.size P0_2_ u9000_ l0_2) (h : impl_Shop_change.f a0_0 a0_1 l0_2 a0_3 a1_0 a1_1 a1_2 = some (r1, r2, r3, r4)) :
  Calls Try.prog 112 #[.pointer (some ⟨gb159, 0, none⟩), .agg #[.int .i64 a1_0, .int .i64 a1_1, .int .i64 a1_2]] w fun e w' => ∃ v2_ : Value, w'.heap[gb159]? = some (.cells #[.int .i64 r1, .int .i64 r2, v2_, .int .i64 r4] 24 (0, 0)) ∧ e = .returned (.tuple #[]) ∧ Kd.R k34 34 w' w0.heap.size (fun k_ => (P0_2_ k_ ∨ w.heap.size ≤ k_)) v2_ r3 ∧ Below w0.heap.size w0 w' ∧ Kept w w' (fun k_ => (P0_2_ k_) ∨ k_ = gb159) := by
 have hu30 := Try.underlying30
 have HO0_2 := Aside0.mk (show Kd.R k34 34 w w0.heap.size (fun k_ => (P0_2_ k_ ∨ w.heap.size ≤ k_)) u9000_ l0_2 from Kd.R_mono ho0_2 (fun k_ hk => (.inl hk)))
 have HK := Aside0.mk (Kept.refl w (fun k_ => (P0_2_ k_) ∨ k_ = gb159))
 have BK159 := Aside0.mk hb159
 clear hb159
 have GE159 := Aside0.mk hge159
 clear hge159
 have HW0 := Aside0.mk hB.size
 have HB := Aside0.mk hB
 clear hB
 have H : (if 0 ≤ a1_1 then (if a1_1 < (l0_2.length : Int) then ((some (l0_2.set (a1_1 : Int).toNat (⟨(rd_T34 l0_2 a1_1).f0, (rd_T34 l0_2 a1_1).f1, (rd_T34 l0_2 a1_1).f2, (rd_T34 l0_2 a1_1).f3, a0_0⟩ : S34) : List (S34))).bind fun y161 => (if a1_0 = 3 then ((some (y161.set (a1_1 : Int).toNat (⟨(rd_T34 y161 a1_1).f0, (rd_T34 y161 a1_1).f1, 1, (rd_T34 y161 a1_1).f3, (rd_T34 y161 a1_1).f4⟩ : S34) : List (S34))).bind fun y162 => (some (a0_0, a0_1, (y162.set (a1_1 : Int).toNat (⟨(rd_T34 y162 a1_1).f0, (rd_T34 y162 a1_1).f1, (rd_T34 y162 a1_1).f2, a1_2, (rd_T34 y162 a1_1).f4⟩ : S34)), a0_3))) else (if a1_0 = 4 then (some (a0_0, a0_1, (y161.set (a1_1 : Int).toNat (⟨(rd_T34 y161 a1_1).f0, wrap64 (((rd_T34 y161 a1_1).f1) + a1_2), (rd_T34 y161 a1_1).f2, (rd_T34 y161 a1_1).f3, (rd_T34 y161 a1_1).f4⟩ : S34)), a0_3)) else (if a1_0 = 5 then ((some (y161.set (a1_1 : Int).toNat (⟨(rd_T34 y161 a1_1).f0, (rd_T34 y161 a1_1).f1, 2, (rd_T34 y161 a1_1).f3, (rd_T34 y161 a1_1).f4⟩ : S34) : List (S34))).bind fun y166 => (some (a0_0, a0_1, (y166.set (a1_1 : Int).toNat (⟨(rd_T34 y166 a1_1).f0, (rd_T34 y166 a1_1).f1, (rd_T34 y166 a1_1).f2, 0, (rd_T34 y166 a1_1).f4⟩ : S34)), a0_3))) else (if a1_0 = 6 then (some (a0_0, a0_1, (y161.set (a1_1 : Int).toNat (⟨(rd_T34 y161 a1_1).f0, (rd_T34 y161 a1_1).f1, 3, (rd_T34 y161 a1_1).f3, (rd_T34 y161 a1_1).f4⟩ : S34)), a0_3)) else (if a1_0 = 7 then (some (a0_0, a0_1, (y161.set (a1_1 : Int).toNat (⟨(rd_T34 y161 a1_1).f0, (rd_T34 y161 a1_1).f1, 4, (rd_T34 y161 a1_1).f3, (rd_T34 y161 a1_1).f4⟩ : S34)), wrap64 (a0_3 + a1_2))) else (some (a0_0, a0_1, y161, a0_3)))))))) else (none)) else (none)) = some (r1, r2, r3, r4) := h
 clear h
 by_cases c3 : 0 ≤ a1_1
 ·rw [if_pos c3] at H
  have c3b0 : decide (0 ≤ a1_1) = true := decide_eq_true c3
  clear c3
  by_cases c4 : a1_1 < (l0_2.length : Int)
  ·rw [if_pos c4] at H
   have c4b0 : decide (a1_1 < (l0_2.length : Int)) = true := decide_eq_true c4
   clear c4
   obtain ⟨y161, hy161⟩ : ∃ y_ : List (S34), y_ = (l0_2.set (a1_1 : Int).toNat (⟨(rd_T34 l0_2 a1_1).f0, (rd_T34 l0_2 a1_1).f1, (rd_T34 l0_2 a1_1).f2, (rd_T34 l0_2 a1_1).f3, a0_0⟩ : S34)) := ⟨_, rfl⟩
   replace H : (if a1_0 = 3 then ((some (y161.set (a1_1 : Int).toNat (⟨(rd_T34 y161 a1_1).f0, (rd_T34 y161 a1_1).f1, 1, (rd_T34 y161 a1_1).f3, (rd_T34 y161 a1_1).f4⟩ : S34) : List (S34))).bind fun y162 => (some (a0_0, a0_1, (y162.set (a1_1 : Int).toNat (⟨(rd_T34 y162 a1_1).f0, (rd_T34 y162 a1_1).f1, (rd_T34 y162 a1_1).f2, a1_2, (rd_T34 y162 a1_1).f4⟩ : S34)), a0_3))) else (if a1_0 = 4 then (some (a0_0, a0_1, (y161.set (a1_1 : Int).toNat (⟨(rd_T34 y161 a1_1).f0, wrap64 (((rd_T34 y161 a1_1).f1) + a1_2), (rd_T34 y161 a1_1).f2, (rd_T34 y161 a1_1).f3, (rd_T34 y161 a1_1).f4⟩ : S34)), a0_3)) else (if a1_0 = 5 then ((some (y161.set (a1_1 : Int).toNat (⟨(rd_T34 y161 a1_1).f0, (rd_T34 y161 a1_1).f1, 2, (rd_T34 y161 a1_1).f3, (rd_T34 y161 a1_1).f4⟩ : S34) : List (S34))).bind fun y166 => (some (a0_0, a0_1, (y166.set (a1_1 : Int).toNat (⟨(rd_T34 y166 a1_1).f0, (rd_T34 y166 a1_1).f1, (rd_T34 y166 a1_1).f2, 0, (rd_T34 y166 a1_1).f4⟩ : S34)), a0_3))) else (if a1_0 = 6 then (some (a0_0, a0_1, (y161.set (a1_1 : Int).toNat (⟨(rd_T34 y161 a1_1).f0, (rd_T34 y161 a1_1).f1, 3, (rd_T34 y161 a1_1).f3, (rd_T34 y161 a1_1).f4⟩ : S34)), a0_3)) else (if a1_0 = 7 then (some (a0_0, a0_1, (y161.set (a1_1 : Int).toNat (⟨(rd_T34 y161 a1_1).f0, (rd_T34 y161 a1_1).f1, 4, (rd_T34 y161 a1_1).f3, (rd_T34 y161 a1_1).f4⟩ : S34)), wrap64 (a0_3 + a1_2))) else (some (a0_0, a0_1, y161, a0_3))))))) = some (r1, r2, r3, r4) := by first | (rw [hy161]; with_reducible exact H) | (have H2_ := (Option.bind_some _ _).symm.trans H; rw [hy161]; with_reducible exact H2_) | (have H2_ := (Option.bind_some _ _).symm.trans H; with_reducible exact H2_) | with_reducible exact H | (rw [hy161]; exact H) | exact H
   have Ny161 := Aside0.mk hy161
   clear hy161
   by_cases c6 : a1_0 = 3
   ·rw [if_pos c6] at H
    have c6b0 : (a1_0 == 3) = true := beq_iff_eq.mpr c6
    have c6b1 : (a1_0 != 3) = false := bne_eq_false_iff_eq.mpr c6
    clear c6
    obtain ⟨y162, hy162⟩ : ∃ y_ : List (S34), y_ = (y161.set (a1_1 : Int).toNat (⟨(rd_T34 y161 a1_1).f0, (rd_T34 y161 a1_1).f1, 1, (rd_T34 y161 a1_1).f3, (rd_T34 y161 a1_1).f4⟩ : S34)) := ⟨_, rfl⟩
    replace H : (some (a0_0, a0_1, (y162.set (a1_1 : Int).toNat (⟨(rd_T34 y162 a1_1).f0, (rd_T34 y162 a1_1).f1, (rd_T34 y162 a1_1).f2, a1_2, (rd_T34 y162 a1_1).f4⟩ : S34)), a0_3)) = some (r1, r2, r3, r4) := by first | (rw [hy162]; with_reducible exact H) | (have H2_ := (Option.bind_some _ _).symm.trans H; rw [hy162]; with_reducible exact H2_) | (have H2_ := (Option.bind_some _ _).symm.trans H; with_reducible exact H2_) | with_reducible exact H | (rw [hy162]; exact H) | exact H
    have Ny162 := Aside0.mk hy162
    clear hy162
    obtain ⟨y163, hy163⟩ : ∃ y_ : List (S34), y_ = (y162.set (a1_1 : Int).toNat (⟨(rd_T34 y162 a1_1).f0, (rd_T34 y162 a1_1).f1, (rd_T34 y162 a1_1).f2, a1_2, (rd_T34 y162 a1_1).f4⟩ : S34)) := ⟨_, rfl⟩
    replace H : (some (a0_0, a0_1, y163, a0_3)) = some (r1, r2, r3, r4) := by first | (rw [hy163]; with_reducible exact H) | (have H2_ := (Option.bind_some _ _).symm.trans H; rw [hy163]; with_reducible exact H2_) | (have H2_ := (Option.bind_some _ _).symm.trans H; with_reducible exact H2_) | with_reducible exact H | (rw [hy163]; exact H) | exact H
    have Ny163 := Aside0.mk hy163
    clear hy163
    simp only [Option.some.injEq, Prod.mk.injEq] at H
    obtain ⟨rfl, rfl, rfl, rfl⟩ := H
    go_enter Try.func112, Try.ntmps112
    try go_wp2_with (first | ((with_reducible refine gate_dst (N := 3) rfl ?_); refine box_ (N := 3) (cs := #[.int .i64 a1_0, .int .i64 a1_1, .int .i64 a1_2]) (t := 30) ?_; intro gb160 hg w7 hbox hb; have n0_ := Aside0.mk (Kd.R_below (ra_ HO0_2) hb); have n1_ := bb_ BK159 hb; have n2_ := Aside0.mk (Kept.below (S := (fun k_ => (P0_2_ k_) ∨ k_ = gb159)) (by repeat (first | (with_reducible first | exact HK.out | apply Kept.alloc | apply Kept.drewN | apply Kept.drew | refine Kept.setCell ?_ (.inl (.inr rfl)) _) | exact HK.out)) hb); have n3_ := Aside0.mk (below_step (bw_ w0) hb); have n4_ := Aside0.mk (hbox); have n5_ := Aside0.mk ((by rw [hg]; exact (by first | exact HK.out.1 | exact (show Kept w _ (fun k_ => (P0_2_ k_) ∨ k_ = gb159) from by repeat (first | (with_reducible first | exact HK.out | apply Kept.alloc | apply Kept.drewN | apply Kept.drew | refine Kept.setCell ?_ (.inl (.inr rfl)) _) | exact HK.out)).1) : w.heap.size ≤ gb160)); have n6_ := gz_ w0 hg; have n7_ := ne_ hg BK159; have n8_ := en_ hg BK159; clear HO0_2; clear BK159; clear HK; clear HB; have HO0_2 := n0_; have BK159 := n1_; have HK := n2_; have HB := n3_; have BK160 := n4_; have GW160 := n5_; have GE160 := n6_; have NB159_160 := n7_; have NB160_159 := n8_; clear n0_ n1_ n2_ n3_ n4_ n5_ n6_ n7_ n8_; clear hb hbox hg))
    replace HO0_2 := Aside0.mk (Kd.R_drew HO0_2.out)
    replace BK159 := Aside0.mk (blk_drew BK159.out)
    replace BK160 := Aside0.mk (blk_drew BK160.out)
    replace HK := Aside0.mk (Kept.drew HK.out)
    replace HB := Aside0.mk (below_drew1 HB.out)
    have p5 : 0 ≤ (a1_1 : Int) := of_decide_eq_true (by first | (with_reducible assumption) | assumption)
    have q5 : (a1_1 : Int) < ((l0_2.length : Int) : Int) := of_decide_eq_true (by first | (with_reducible assumption) | assumption)
    obtain ⟨go5, co5, eo5, gb5, gl5, cl5, HG5⟩ := Kd.R_form HO0_2.out (by omega)
    (first | cases eo5 | (injection eo5 with ea_ en_ ec_; (first | subst ea_ | (injection ea_ with ea_; subst ea_)); subst ec_; clear en_))
    have GB5 := Aside0.mk gb5
    have GG5 := Aside0.mk HG5
    clear gb5 gl5 HG5
    have HMgo5 := Aside0.mk (show (P0_2_ go5 ∨ w.heap.size ≤ go5) from (HO0_2.out.1 _ rfl))
    obtain ⟨ce5, hcl5, hM5, hcc5, hfr5⟩ := Kd.R_elem HO0_2.out z34 (a1_1 : Int) p5 q5
    obtain rfl := k34_openM hM5
    have hx5_0 : World.cell? _ ⟨go5, (a1_1 : Int).toNat * 5, none⟩ = some (.int .i64 ((rd_T34 l0_2 a1_1).f0)) := hcc5 0 _ rfl
    have hx5_1 : World.cell? _ ⟨go5, (a1_1 : Int).toNat * 5 + 1, none⟩ = some (.int .i64 ((rd_T34 l0_2 a1_1).f1)) := hcc5 1 _ rfl
    have hx5_2 : World.cell? _ ⟨go5, (a1_1 : Int).toNat * 5 + 2, none⟩ = some (.int .i64 ((rd_T34 l0_2 a1_1).f2)) := hcc5 2 _ rfl
    have hx5_3 : World.cell? _ ⟨go5, (a1_1 : Int).toNat * 5 + 3, none⟩ = some (.int .i64 ((rd_T34 l0_2 a1_1).f3)) := hcc5 3 _ rfl
    have hx5_4 : World.cell? _ ⟨go5, (a1_1 : Int).toNat * 5 + 4, none⟩ = some (.int .i64 ((rd_T34 l0_2 a1_1).f4)) := hcc5 4 _ rfl
    have hf5_0 : World.frozen? _ ⟨go5, (a1_1 : Int).toNat * 5, none⟩ = false := hfr5 0
    have hf5_1 : World.frozen? _ ⟨go5, (a1_1 : Int).toNat * 5 + 1, none⟩ = false := hfr5 1
    have hf5_2 : World.frozen? _ ⟨go5, (a1_1 : Int).toNat * 5 + 2, none⟩ = false := hfr5 2
    have hf5_3 : World.frozen? _ ⟨go5, (a1_1 : Int).toNat * 5 + 3, none⟩ = false := hfr5 3
    have hf5_4 : World.frozen? _ ⟨go5, (a1_1 : Int).toNat * 5 + 4, none⟩ = false := hfr5 4
    clear hcl5 hcc5 hfr5 hM5
    replace p5 := eq_true p5
    replace q5 := eq_true q5
    refine start_ (n := 8) (S := fun w' => w'.cell? ⟨gb159, 0, none⟩ = some (.int .i64 a0_0) ∧ w'.cell? ⟨gb159, 1, none⟩ = some (.int .i64 a0_1) ∧ w'.cell? ⟨gb159, 2, none⟩ = some (.slice (some ⟨go5, 0, none⟩) l0_2.length co5) ∧ w'.cell? ⟨gb159, 3, none⟩ = some (.int .i64 a0_3) ∧ w'.cell? ⟨gb160, 0, none⟩ = some (.int .i64 a1_0) ∧ w'.cell? ⟨gb160, 1, none⟩ = some (.int .i64 a1_1) ∧ w'.cell? ⟨gb160, 2, none⟩ = some (.int .i64 a1_2)) (ds := []) #[false, false, false, false, false, false, false, false] (by kernel_rfl) rfl rfl ⟨bc_ BK159 0, bc_ BK159 1, bc_ BK159 2, bc_ BK159 3, bc_ BK160 0, bc_ BK160 1, bc_ BK160 2⟩ (fun hHeld => ?_); refine with_tabW impl_Shop_change.tab1 impl_Shop_change.bits1 (fun HT_ HW_ => ?_)
    generalize w7.drew = w8 at HO0_2 BK159 BK160 HK HB GG5 hf5_0 hf5_1 hf5_2 hf5_3 hf5_4 hx5_0 hx5_1 hx5_2 hx5_3 hx5_4 hHeld ⊢
    refine pureA (N := some 5) 0 HT_ ?_
    refine pureA (N := some 6) 1 HT_ ?_
    refine pureA (N := some 7) 2 HT_ ?_
    refine pureA (N := some 9) 4 HT_ ?_
    refine takeA (N := some 8) 3 HT_ HW_ hHeld ?_
    refine takeA (N := some 10) 5 HT_ HW_ hHeld ?_
    refine pureA (N := some 11) 6 HT_ ?_
    refine pureA (N := some 4) 7 HT_ ?_
    refine done_ (done_of HT_.out (by kernel_rfl)) ?_
    have hnb9 := NB159_160.out
    have hnc9 := NB160_159.out
    obtain ⟨hcz10_0, hcz10_1, hcz10_2, hcz10_3, hfz10_0, hfz10_1, hfz10_2, hfz10_3⟩ := bc4_ (w := w8) BK159
    have HX11 := Aside0.mk (show Kd.R k34 34 w8 w0.heap.size (fun k_ => (P0_2_ k_ ∨ w.heap.size ≤ k_)) (.slice (some ⟨go5, 0, none⟩) l0_2.length co5) l0_2 from (ra_ HO0_2))
    obtain ⟨ce11, hcl11, hM11, hcc11, hfr11⟩ := Kd.R_elem HX11.out z34 (a1_1 : Int) (of_decide_eq_true (by first | (with_reducible assumption) | assumption)) (by have h_ : (a1_1 : Int) < ((l0_2.length : Int) : Int) := of_decide_eq_true (by first | (with_reducible assumption) | assumption); first | exact h_ | (have e_ := (Kd.R_reads' HO0_2.out).1; omega) | simpa using h_)
    obtain rfl := k34_openM hM11
    have HP11 := Kd.R_seg HX11.out (a1_1 : Int) (of_decide_eq_true (by first | (with_reducible assumption) | assumption)) (by have h_ : (a1_1 : Int) < ((l0_2.length : Int) : Int) := of_decide_eq_true (by first | (with_reducible assumption) | assumption); first | exact h_ | (have e_ := (Kd.R_reads' HO0_2.out).1; omega) | simpa using h_) (seg := [.int .i64 a0_0]) (j := 4) hcl11 hcc11 (show 5 ≤ 5 from by decide) (x' := (⟨(rd_T34 l0_2 a1_1).f0, (rd_T34 l0_2 a1_1).f1, (rd_T34 l0_2 a1_1).f2, (rd_T34 l0_2 a1_1).f3, a0_0⟩ : S34)) (k34_mkM _ _ _ (⟨(rd_T34 l0_2 a1_1).f0, (rd_T34 l0_2 a1_1).f1, (rd_T34 l0_2 a1_1).f2, (rd_T34 l0_2 a1_1).f3, a0_0⟩ : S34) ) (fun _ hk => hk)
    have hx11_4 := hcc11 4 _ rfl
    (try simp only [show (k34).sz = 5 from rfl, Nat.mul_one, Nat.add_zero] at hx11_4)
    have hf11_4 := hfr11 4
    (try simp only [show (k34).sz = 5 from rfl, Nat.mul_one, Nat.add_zero] at hf11_4)
    clear hcl11 hcc11 hfr11 hM11
    try go_wp2_with (first | ((with_reducible refine gate_store (t := 3) (p := 18) rfl ?_); refine store_event (t := 3) (p := 18) (v := ?vo_w12) (w1 := (w8.setCell ⟨go5, (a1_1 : Int).toNat * 5 + 4, none⟩ (.int .i64 a0_0))) ?hg ?ho ?hn ?hr ?_; (case ho => rfl); (case hg => rfl); (case hn => rfl); (case hr => first | (go_simp; done) | (go_simp; rfl)); intro w12 hw; have hg : w8.grownBy w12 (some go5) := (by rw [hw]; exact HP11.2); have hp_ : Kd.R k34 34 w12 w0.heap.size (fun k_ => (P0_2_ k_ ∨ w.heap.size ≤ k_)) (.slice (some ⟨go5, 0, none⟩) l0_2.length co5) y161 := (by rw [hw, Ny161.out]; exact HP11.1); clear HP11; have n0_ := Aside0.mk (hp_); have n1_ := Aside0.mk (blk_grown (g := gb159) (o := .cells #[.int .i64 a0_0, .int .i64 a0_1, .slice (some ⟨go5, 0, none⟩) l0_2.length co5, .int .i64 a0_3] 24 (0, 0)) (bk_ BK159) hg (Kd.R_ne HO0_2.out BK159.out (by decide))); have n2_ := Aside0.mk (blk_grown (g := gb160) (o := .cells #[.int .i64 a1_0, .int .i64 a1_1, .int .i64 a1_2] 30 (0, 0)) (bk_ BK160) hg (Kd.R_ne HO0_2.out BK160.out (by decide))); have n3_ := Aside0.mk ((by rw [hw]; exact below_set (HB.out) GB5.out : Below w0.heap.size w0 w12)); have n4_ := Aside0.mk (Kept.of_grown (S := (fun k_ => (P0_2_ k_) ∨ k_ = gb159)) hg (by repeat (first | (with_reducible first | exact HK.out | apply Kept.alloc | apply Kept.drewN | apply Kept.drew | refine Kept.setCell ?_ (.inl (.inr rfl)) _ | refine Kept.setCell ?_ (.inr GW160.out) _) | exact HK.out)) (fun k_ e_ => Or.imp_left Or.inl ((HO0_2.out.1 k_ e_)))); clear HO0_2; clear BK159; clear BK160; clear HB; clear HK; have HO0_2 := n0_; have BK159 := n1_; have BK160 := n2_; have HB := n3_; have HK := n4_; clear n0_ n1_ n2_ n3_ n4_; clear hg hw hp_; obtain ⟨hcz13_0, hcz13_1, hcz13_2, hfz13_0, hfz13_1, hfz13_2⟩ := bc3_ (w := w12) BK160))
    replace HO0_2 := Aside0.mk (Kd.R_drew HO0_2.out)
    replace BK159 := Aside0.mk (blk_drew BK159.out)
    replace BK160 := Aside0.mk (blk_drew BK160.out)
    replace HK := Aside0.mk (Kept.drew HK.out)
    replace HB := Aside0.mk (below_drew1 HB.out)
    obtain ⟨ce15, hcl15, hM15, hcc15, hfr15⟩ := Kd.R_elem HO0_2.out z34 (a1_1 : Int) (of_decide_eq_true (by first | (with_reducible assumption) | assumption)) (by have h_ : (a1_1 : Int) < ((l0_2.length : Int) : Int) := of_decide_eq_true (by first | (with_reducible assumption) | assumption); first | exact h_ | (have e_ := (Kd.R_reads' HO0_2.out).1; omega) | simpa using h_)
    obtain rfl := k34_openM hM15
    have HP15 := (Kd.R_seg HO0_2.out (a1_1 : Int) (of_decide_eq_true (by first | (with_reducible assumption) | assumption)) (by have h_ : (a1_1 : Int) < ((l0_2.length : Int) : Int) := of_decide_eq_true (by first | (with_reducible assumption) | assumption); first | exact h_ | (have e_ := (Kd.R_reads' HO0_2.out).1; omega) | simpa using h_) (seg := [.int .i64 1]) (j := 2) hcl15 hcc15 (show 3 ≤ 5 from by decide) (x' := (⟨(rd_T34 y161 a1_1).f0, (rd_T34 y161 a1_1).f1, 1, (rd_T34 y161 a1_1).f3, (rd_T34 y161 a1_1).f4⟩ : S34)) (k34_mkM _ _ _ (⟨(rd_T34 y161 a1_1).f0, (rd_T34 y161 a1_1).f1, 1, (rd_T34 y161 a1_1).f3, (rd_T34 y161 a1_1).f4⟩ : S34) ) (fun _ hk => hk)).1
    have hx15_0 : World.cell? _ ⟨go5, (a1_1 : Int).toNat * 5, none⟩ = some (.int .i64 ((rd_T34 y161 a1_1).f0)) := hcc15 0 _ rfl
    have hx15_1 : World.cell? _ ⟨go5, (a1_1 : Int).toNat * 5 + 1, none⟩ = some (.int .i64 ((rd_T34 y161 a1_1).f1)) := hcc15 1 _ rfl
    have hx15_2 : World.cell? _ ⟨go5, (a1_1 : Int).toNat * 5 + 2, none⟩ = some (.int .i64 ((rd_T34 y161 a1_1).f2)) := hcc15 2 _ rfl
    have hx15_3 : World.cell? _ ⟨go5, (a1_1 : Int).toNat * 5 + 3, none⟩ = some (.int .i64 ((rd_T34 y161 a1_1).f3)) := hcc15 3 _ rfl
    have hx15_4 : World.cell? _ ⟨go5, (a1_1 : Int).toNat * 5 + 4, none⟩ = some (.int .i64 ((rd_T34 y161 a1_1).f4)) := hcc15 4 _ rfl
    have hf15_0 : World.frozen? _ ⟨go5, (a1_1 : Int).toNat * 5, none⟩ = false := hfr15 0
    have hf15_1 : World.frozen? _ ⟨go5, (a1_1 : Int).toNat * 5 + 1, none⟩ = false := hfr15 1
    have hf15_2 : World.frozen? _ ⟨go5, (a1_1 : Int).toNat * 5 + 2, none⟩ = false := hfr15 2
    have hf15_3 : World.frozen? _ ⟨go5, (a1_1 : Int).toNat * 5 + 3, none⟩ = false := hfr15 3
    have hf15_4 : World.frozen? _ ⟨go5, (a1_1 : Int).toNat * 5 + 4, none⟩ = false := hfr15 4
    rw [← Ny162.out] at HP15
    have HQ15 := Aside0.mk HP15
    clear hcl15 hcc15 hfr15 hM15 HP15
    obtain ⟨ce16, hcl16, hM16, hcc16, hfr16⟩ := Kd.R_elem HQ15.out z34 (a1_1 : Int) (of_decide_eq_true (by first | (with_reducible assumption) | assumption)) (by have h_ : (a1_1 : Int) < ((l0_2.length : Int) : Int) := of_decide_eq_true (by first | (with_reducible assumption) | assumption); first | exact h_ | (have e_ := (Kd.R_reads' HO0_2.out).1; omega) | simpa using h_)
    obtain rfl := k34_openM hM16
    have HP16 := (Kd.R_seg HQ15.out (a1_1 : Int) (of_decide_eq_true (by first | (with_reducible assumption) | assumption)) (by have h_ : (a1_1 : Int) < ((l0_2.length : Int) : Int) := of_decide_eq_true (by first | (with_reducible assumption) | assumption); first | exact h_ | (have e_ := (Kd.R_reads' HO0_2.out).1; omega) | simpa using h_) (seg := [.int .i64 a1_2]) (j := 3) hcl16 hcc16 (show 4 ≤ 5 from by decide) (x' := (⟨(rd_T34 y162 a1_1).f0, (rd_T34 y162 a1_1).f1, (rd_T34 y162 a1_1).f2, a1_2, (rd_T34 y162 a1_1).f4⟩ : S34)) (k34_mkM _ _ _ (⟨(rd_T34 y162 a1_1).f0, (rd_T34 y162 a1_1).f1, (rd_T34 y162 a1_1).f2, a1_2, (rd_T34 y162 a1_1).f4⟩ : S34) ) (fun _ hk => hk)).1
    rw [← Ny163.out] at HP16
    have HQ16 := Aside0.mk HP16
    clear hcl16 hcc16 hfr16 hM16 HP16
    refine start_ (n := 10) (S := fun w' => w'.cell? ⟨gb160, 0, none⟩ = some (.int .i64 a1_0) ∧ w'.cell? ⟨gb160, 1, none⟩ = some (.int .i64 a1_1) ∧ w'.cell? ⟨gb160, 2, none⟩ = some (.int .i64 a1_2)) (ds := []) #[false, false, false, false, false, false, false, false, false, false] (by kernel_rfl) rfl rfl ⟨bc_ BK160 0, bc_ BK160 1, bc_ BK160 2⟩ (fun hHeld => ?_); refine with_tabW impl_Shop_change.tab5 impl_Shop_change.bits5 (fun HT_ HW_ => ?_)
    generalize w12.drew = w14 at HO0_2 BK159 BK160 HK HB HQ15 HQ16 hf15_0 hf15_1 hf15_2 hf15_3 hf15_4 hx15_0 hx15_1 hx15_2 hx15_3 hx15_4 hHeld ⊢
    refine pureA (N := some 23) 0 HT_ ?_
    refine pureA (N := some 24) 1 HT_ ?_
    refine pureA (N := some 25) 2 HT_ ?_
    refine pureA (N := some 27) 4 HT_ ?_
    refine pureA (N := some 28) 5 HT_ ?_
    refine takeA (N := some 26) 3 HT_ HW_ hHeld ?_
    refine oneA (N := none) 6 HT_ (fun K hK => ?_)
    refine skip_ (w1 := ?_) (by rfl) rfl ?_ ?_
    rotate_left
    ·go_simp
     rfl
    refine hK.out _ _ ⟨((cell_far (p := ⟨go5, _, none⟩) (show (gb160 : Nat) ≠ go5 from (by have h_ := Kd.R_ne HO0_2.out BK160.out (by decide); intro e_; exact h_ (by rw [e_]; rfl))) _).trans (hHeld.1)), ((cell_far (p := ⟨go5, _, none⟩) (show (gb160 : Nat) ≠ go5 from (by have h_ := Kd.R_ne HO0_2.out BK160.out (by decide); intro e_; exact h_ (by rw [e_]; rfl))) _).trans (hHeld.2.1)), ((cell_far (p := ⟨go5, _, none⟩) (show (gb160 : Nat) ≠ go5 from (by have h_ := Kd.R_ne HO0_2.out BK160.out (by decide); intro e_; exact h_ (by rw [e_]; rfl))) _).trans (hHeld.2.2))⟩ (fun hHeld => ?_)
    clear hK K
    refine pureA (N := some 29) 7 HT_ ?_
    refine pureA (N := some 30) 8 HT_ ?_
    refine oneA (N := none) 9 HT_ (fun K hK => ?_)
    refine skip_ (w1 := ?_) (by rfl) rfl ?_ ?_
    rotate_left
    ·go_simp
     rfl
    refine hK.out _ _ ⟨((cell_far (p := ⟨go5, _, none⟩) (show (gb160 : Nat) ≠ go5 from (by have h_ := Kd.R_ne HO0_2.out BK160.out (by decide); intro e_; exact h_ (by rw [e_]; rfl))) _).trans (hHeld.1)), ((cell_far (p := ⟨go5, _, none⟩) (show (gb160 : Nat) ≠ go5 from (by have h_ := Kd.R_ne HO0_2.out BK160.out (by decide); intro e_; exact h_ (by rw [e_]; rfl))) _).trans (hHeld.2.1)), ((cell_far (p := ⟨go5, _, none⟩) (show (gb160 : Nat) ≠ go5 from (by have h_ := Kd.R_ne HO0_2.out BK160.out (by decide); intro e_; exact h_ (by rw [e_]; rfl))) _).trans (hHeld.2.2))⟩ (fun hHeld => ?_)
    clear hK K
    refine done_ (done_of HT_.out (by kernel_rfl)) ?_
    try go_wp2
    first | go_end0 | ((try simp only [Exit.inBlock, Exit.then]); refine bodyPost_ret (results_none rfl _ _ _) rfl ?_)
    exact ⟨_, (by (with_reducible repeat (first | refine blk_drewN ?_ _ | refine blk_drew ?_ | refine blk_alloc ?_ _)); refine blk_far ?_ (by have h_ := Kd.R_ne HO0_2.out BK159.out (by decide); intro e_; exact h_ (by rw [e_]; rfl)) _; (with_reducible repeat (first | refine blk_drewN ?_ _ | refine blk_drew ?_ | refine blk_alloc ?_ _)); refine blk_far ?_ (by have h_ := Kd.R_ne HO0_2.out BK159.out (by decide); intro e_; exact h_ (by rw [e_]; rfl)) _; (with_reducible repeat (first | refine blk_drewN ?_ _ | refine blk_drew ?_ | refine blk_alloc ?_ _)); exact BK159.out), by first | rfl | (simp [errW_none, errW_some] <;> rfl) | (simp [*, errW_none, errW_some] <;> rfl), by (with_reducible repeat (first | apply Kd.R_alloc | apply Kd.R_drewN | apply Kd.R_drew)); exact HQ16.out, by repeat (first | (with_reducible first | exact HB.out | apply below_alloc | apply pw_below_drewN | apply below_drew1 | refine below_set ?_ GB5.out | refine below_set ?_ GB5.out | refine below_set ?_ GE159.out | refine below_set ?_ GE160.out) | exact HB.out), by repeat (first | (with_reducible first | exact HK.out | apply Kept.alloc | apply Kept.drewN | apply Kept.drew | refine Kept.setCell ?_ (Or.imp_left Or.inl HMgo5.out) _ | refine Kept.setCell ?_ (Or.imp_left Or.inl HMgo5.out) _ | refine Kept.setCell ?_ (.inl (.inr rfl)) _ | refine Kept.setCell ?_ (.inr GW160.out) _) | exact HK.out)⟩
   ·rw [if_neg c6] at H
    have c6b0 : (a1_0 == 3) = false := beq_eq_false_iff_ne.mpr c6
    have c6b1 : (a1_0 != 3) = true := bne_iff_ne.mpr c6
    by_cases c17 : a1_0 = 4
    ·rw [if_pos c17] at H
     have c17b0 : (a1_0 == 4) = true := beq_iff_eq.mpr c17
     have c17b1 : (a1_0 != 4) = false := bne_eq_false_iff_eq.mpr c17
     clear c17
     obtain ⟨y165, hy165⟩ : ∃ y_ : List (S34), y_ = (y161.set (a1_1 : Int).toNat (⟨(rd_T34 y161 a1_1).f0, wrap64 (((rd_T34 y161 a1_1).f1) + a1_2), (rd_T34 y161 a1_1).f2, (rd_T34 y161 a1_1).f3, (rd_T34 y161 a1_1).f4⟩ : S34)) := ⟨_, rfl⟩
     replace H : (some (a0_0, a0_1, y165, a0_3)) = some (r1, r2, r3, r4) := by first | (rw [hy165]; with_reducible exact H) | (have H2_ := (Option.bind_some _ _).symm.trans H; rw [hy165]; with_reducible exact H2_) | (have H2_ := (Option.bind_some _ _).symm.trans H; with_reducible exact H2_) | with_reducible exact H | (rw [hy165]; exact H) | exact H
     have Ny165 := Aside0.mk hy165
     clear hy165
     simp only [Option.some.injEq, Prod.mk.injEq] at H
     obtain ⟨rfl, rfl, rfl, rfl⟩ := H
     go_enter Try.func112, Try.ntmps112
     try go_wp2_with (first | ((with_reducible refine gate_dst (N := 3) rfl ?_); refine box_ (N := 3) (cs := #[.int .i64 a1_0, .int .i64 a1_1, .int .i64 a1_2]) (t := 30) ?_; intro gb160 hg w18 hbox hb; have n0_ := Aside0.mk (Kd.R_below (ra_ HO0_2) hb); have n1_ := bb_ BK159 hb; have n2_ := Aside0.mk (Kept.below (S := (fun k_ => (P0_2_ k_) ∨ k_ = gb159)) (by repeat (first | (with_reducible first | exact HK.out | apply Kept.alloc | apply Kept.drewN | apply Kept.drew | refine Kept.setCell ?_ (.inl (.inr rfl)) _) | exact HK.out)) hb); have n3_ := Aside0.mk (below_step (bw_ w0) hb); have n4_ := Aside0.mk (hbox); have n5_ := Aside0.mk ((by rw [hg]; exact (by first | exact HK.out.1 | exact (show Kept w _ (fun k_ => (P0_2_ k_) ∨ k_ = gb159) from by repeat (first | (with_reducible first | exact HK.out | apply Kept.alloc | apply Kept.drewN | apply Kept.drew | refine Kept.setCell ?_ (.inl (.inr rfl)) _) | exact HK.out)).1) : w.heap.size ≤ gb160)); have n6_ := gz_ w0 hg; have n7_ := ne_ hg BK159; have n8_ := en_ hg BK159; clear HO0_2; clear BK159; clear HK; clear HB; have HO0_2 := n0_; have BK159 := n1_; have HK := n2_; have HB := n3_; have BK160 := n4_; have GW160 := n5_; have GE160 := n6_; have NB159_160 := n7_; have NB160_159 := n8_; clear n0_ n1_ n2_ n3_ n4_ n5_ n6_ n7_ n8_; clear hb hbox hg))
     replace HO0_2 := Aside0.mk (Kd.R_drew HO0_2.out)
     replace BK159 := Aside0.mk (blk_drew BK159.out)
     replace BK160 := Aside0.mk (blk_drew BK160.out)
     replace HK := Aside0.mk (Kept.drew HK.out)
     replace HB := Aside0.mk (below_drew1 HB.out)
     have p5 : 0 ≤ (a1_1 : Int) := of_decide_eq_true (by first | (with_reducible assumption) | assumption)
     have q5 : (a1_1 : Int) < ((l0_2.length : Int) : Int) := of_decide_eq_true (by first | (with_reducible assumption) | assumption)
     obtain ⟨go5, co5, eo5, gb5, gl5, cl5, HG5⟩ := Kd.R_form HO0_2.out (by omega)
     (first | cases eo5 | (injection eo5 with ea_ en_ ec_; (first | subst ea_ | (injection ea_ with ea_; subst ea_)); subst ec_; clear en_))
     have GB5 := Aside0.mk gb5
     have GG5 := Aside0.mk HG5
     clear gb5 gl5 HG5
     have HMgo5 := Aside0.mk (show (P0_2_ go5 ∨ w.heap.size ≤ go5) from (HO0_2.out.1 _ rfl))
     obtain ⟨ce5, hcl5, hM5, hcc5, hfr5⟩ := Kd.R_elem HO0_2.out z34 (a1_1 : Int) p5 q5
     obtain rfl := k34_openM hM5
     have hx5_0 : World.cell? _ ⟨go5, (a1_1 : Int).toNat * 5, none⟩ = some (.int .i64 ((rd_T34 l0_2 a1_1).f0)) := hcc5 0 _ rfl
     have hx5_1 : World.cell? _ ⟨go5, (a1_1 : Int).toNat * 5 + 1, none⟩ = some (.int .i64 ((rd_T34 l0_2 a1_1).f1)) := hcc5 1 _ rfl
     have hx5_2 : World.cell? _ ⟨go5, (a1_1 : Int).toNat * 5 + 2, none⟩ = some (.int .i64 ((rd_T34 l0_2 a1_1).f2)) := hcc5 2 _ rfl
     have hx5_3 : World.cell? _ ⟨go5, (a1_1 : Int).toNat * 5 + 3, none⟩ = some (.int .i64 ((rd_T34 l0_2 a1_1).f3)) := hcc5 3 _ rfl
     have hx5_4 : World.cell? _ ⟨go5, (a1_1 : Int).toNat * 5 + 4, none⟩ = some (.int .i64 ((rd_T34 l0_2 a1_1).f4)) := hcc5 4 _ rfl
     have hf5_0 : World.frozen? _ ⟨go5, (a1_1 : Int).toNat * 5, none⟩ = false := hfr5 0
     have hf5_1 : World.frozen? _ ⟨go5, (a1_1 : Int).toNat * 5 + 1, none⟩ = false := hfr5 1
     have hf5_2 : World.frozen? _ ⟨go5, (a1_1 : Int).toNat * 5 + 2, none⟩ = false := hfr5 2
     have hf5_3 : World.frozen? _ ⟨go5, (a1_1 : Int).toNat * 5 + 3, none⟩ = false := hfr5 3
     have hf5_4 : World.frozen? _ ⟨go5, (a1_1 : Int).toNat * 5 + 4, none⟩ = false := hfr5 4
     clear hcl5 hcc5 hfr5 hM5
     replace p5 := eq_true p5
     replace q5 := eq_true q5
     refine start_ (n := 8) (S := fun w' => w'.cell? ⟨gb159, 0, none⟩ = some (.int .i64 a0_0) ∧ w'.cell? ⟨gb159, 1, none⟩ = some (.int .i64 a0_1) ∧ w'.cell? ⟨gb159, 2, none⟩ = some (.slice (some ⟨go5, 0, none⟩) l0_2.length co5) ∧ w'.cell? ⟨gb159, 3, none⟩ = some (.int .i64 a0_3) ∧ w'.cell? ⟨gb160, 0, none⟩ = some (.int .i64 a1_0) ∧ w'.cell? ⟨gb160, 1, none⟩ = some (.int .i64 a1_1) ∧ w'.cell? ⟨gb160, 2, none⟩ = some (.int .i64 a1_2)) (ds := []) #[false, false, false, false, false, false, false, false] (by kernel_rfl) rfl rfl ⟨bc_ BK159 0, bc_ BK159 1, bc_ BK159 2, bc_ BK159 3, bc_ BK160 0, bc_ BK160 1, bc_ BK160 2⟩ (fun hHeld => ?_); refine with_tabW impl_Shop_change.tab1 impl_Shop_change.bits1 (fun HT_ HW_ => ?_)
     generalize w18.drew = w19 at HO0_2 BK159 BK160 HK HB GG5 hf5_0 hf5_1 hf5_2 hf5_3 hf5_4 hx5_0 hx5_1 hx5_2 hx5_3 hx5_4 hHeld ⊢
     refine pureA (N := some 5) 0 HT_ ?_
     refine pureA (N := some 6) 1 HT_ ?_
     refine pureA (N := some 7) 2 HT_ ?_
     refine pureA (N := some 9) 4 HT_ ?_
     refine takeA (N := some 8) 3 HT_ HW_ hHeld ?_
     refine takeA (N := some 10) 5 HT_ HW_ hHeld ?_
     refine pureA (N := some 11) 6 HT_ ?_
     refine pureA (N := some 4) 7 HT_ ?_
     refine done_ (done_of HT_.out (by kernel_rfl)) ?_
     have hnb20 := NB159_160.out
     have hnc20 := NB160_159.out
     obtain ⟨hcz21_0, hcz21_1, hcz21_2, hcz21_3, hfz21_0, hfz21_1, hfz21_2, hfz21_3⟩ := bc4_ (w := w19) BK159
     have HX22 := Aside0.mk (show Kd.R k34 34 w19 w0.heap.size (fun k_ => (P0_2_ k_ ∨ w.heap.size ≤ k_)) (.slice (some ⟨go5, 0, none⟩) l0_2.length co5) l0_2 from (ra_ HO0_2))
     obtain ⟨ce22, hcl22, hM22, hcc22, hfr22⟩ := Kd.R_elem HX22.out z34 (a1_1 : Int) (of_decide_eq_true (by first | (with_reducible assumption) | assumption)) (by have h_ : (a1_1 : Int) < ((l0_2.length : Int) : Int) := of_decide_eq_true (by first | (with_reducible assumption) | assumption); first | exact h_ | (have e_ := (Kd.R_reads' HO0_2.out).1; omega) | simpa using h_)
     obtain rfl := k34_openM hM22
     have HP22 := Kd.R_seg HX22.out (a1_1 : Int) (of_decide_eq_true (by first | (with_reducible assumption) | assumption)) (by have h_ : (a1_1 : Int) < ((l0_2.length : Int) : Int) := of_decide_eq_true (by first | (with_reducible assumption) | assumption); first | exact h_ | (have e_ := (Kd.R_reads' HO0_2.out).1; omega) | simpa using h_) (seg := [.int .i64 a0_0]) (j := 4) hcl22 hcc22 (show 5 ≤ 5 from by decide) (x' := (⟨(rd_T34 l0_2 a1_1).f0, (rd_T34 l0_2 a1_1).f1, (rd_T34 l0_2 a1_1).f2, (rd_T34 l0_2 a1_1).f3, a0_0⟩ : S34)) (k34_mkM _ _ _ (⟨(rd_T34 l0_2 a1_1).f0, (rd_T34 l0_2 a1_1).f1, (rd_T34 l0_2 a1_1).f2, (rd_T34 l0_2 a1_1).f3, a0_0⟩ : S34) ) (fun _ hk => hk)
     have hx22_4 := hcc22 4 _ rfl
     (try simp only [show (k34).sz = 5 from rfl, Nat.mul_one, Nat.add_zero] at hx22_4)
     have hf22_4 := hfr22 4
     (try simp only [show (k34).sz = 5 from rfl, Nat.mul_one, Nat.add_zero] at hf22_4)
     clear hcl22 hcc22 hfr22 hM22
     try go_wp2_with (first | ((with_reducible refine gate_store (t := 3) (p := 18) rfl ?_); refine store_event (t := 3) (p := 18) (v := ?vo_w23) (w1 := (w19.setCell ⟨go5, (a1_1 : Int).toNat * 5 + 4, none⟩ (.int .i64 a0_0))) ?hg ?ho ?hn ?hr ?_; (case ho => rfl); (case hg => rfl); (case hn => rfl); (case hr => first | (go_simp; done) | (go_simp; rfl)); intro w23 hw; have hg : w19.grownBy w23 (some go5) := (by rw [hw]; exact HP22.2); have hp_ : Kd.R k34 34 w23 w0.heap.size (fun k_ => (P0_2_ k_ ∨ w.heap.size ≤ k_)) (.slice (some ⟨go5, 0, none⟩) l0_2.length co5) y161 := (by rw [hw, Ny161.out]; exact HP22.1); clear HP22; have n0_ := Aside0.mk (hp_); have n1_ := Aside0.mk (blk_grown (g := gb159) (o := .cells #[.int .i64 a0_0, .int .i64 a0_1, .slice (some ⟨go5, 0, none⟩) l0_2.length co5, .int .i64 a0_3] 24 (0, 0)) (bk_ BK159) hg (Kd.R_ne HO0_2.out BK159.out (by decide))); have n2_ := Aside0.mk (blk_grown (g := gb160) (o := .cells #[.int .i64 a1_0, .int .i64 a1_1, .int .i64 a1_2] 30 (0, 0)) (bk_ BK160) hg (Kd.R_ne HO0_2.out BK160.out (by decide))); have n3_ := Aside0.mk ((by rw [hw]; exact below_set (HB.out) GB5.out : Below w0.heap.size w0 w23)); have n4_ := Aside0.mk (Kept.of_grown (S := (fun k_ => (P0_2_ k_) ∨ k_ = gb159)) hg (by repeat (first | (with_reducible first | exact HK.out | apply Kept.alloc | apply Kept.drewN | apply Kept.drew | refine Kept.setCell ?_ (.inl (.inr rfl)) _ | refine Kept.setCell ?_ (.inr GW160.out) _) | exact HK.out)) (fun k_ e_ => Or.imp_left Or.inl ((HO0_2.out.1 k_ e_)))); clear HO0_2; clear BK159; clear BK160; clear HB; clear HK; have HO0_2 := n0_; have BK159 := n1_; have BK160 := n2_; have HB := n3_; have HK := n4_; clear n0_ n1_ n2_ n3_ n4_; clear hg hw hp_; obtain ⟨hcz24_0, hcz24_1, hcz24_2, hfz24_0, hfz24_1, hfz24_2⟩ := bc3_ (w := w23) BK160))
     replace HO0_2 := Aside0.mk (Kd.R_drew HO0_2.out)
     replace BK159 := Aside0.mk (blk_drew BK159.out)
     replace BK160 := Aside0.mk (blk_drew BK160.out)
     replace HK := Aside0.mk (Kept.drew HK.out)
     replace HB := Aside0.mk (below_drew1 HB.out)
     have p164 : 0 ≤ (a1_1 : Int) := of_decide_eq_true (by first | (with_reducible assumption) | assumption)
     have q164 : a1_1 < (y161.length : Int) := (by have h_ : (a1_1 : Int) < ((l0_2.length : Int) : Int) := of_decide_eq_true (by first | (with_reducible assumption) | assumption); first | (have e_ := (Kd.R_reads' HO0_2.out).1; omega) | simpa only [Ny161.out, List.length_set] using h_)
     have ql164 : ((a1_1 : Int) < ((l0_2.length : Int) : Int)) = True := eq_true (of_decide_eq_true (by first | (with_reducible assumption) | assumption))
     obtain ⟨ad164, e164, hx164_0, hx164_1, hx164_2, hx164_3, hx164_4⟩ := at_T34 (Kd.R_reads' HO0_2.out).2.2 a1_1 p164 q164
     obtain rfl : (⟨go5, 0, none⟩ : Addr) = ad164 := (by injection e164)
     (first | simp only [add_plain] at hx164_0 | simp only [add_at] at hx164_0 | simp only [Addr.add, Nat.zero_add] at hx164_0 | skip)
     (first | simp only [add_plain] at hx164_1 | simp only [add_at] at hx164_1 | simp only [Addr.add, Nat.zero_add] at hx164_1 | skip)
     (first | simp only [add_plain] at hx164_2 | simp only [add_at] at hx164_2 | simp only [Addr.add, Nat.zero_add] at hx164_2 | skip)
     (first | simp only [add_plain] at hx164_3 | simp only [add_at] at hx164_3 | simp only [Addr.add, Nat.zero_add] at hx164_3 | skip)
     (first | simp only [add_plain] at hx164_4 | simp only [add_at] at hx164_4 | simp only [Addr.add, Nat.zero_add] at hx164_4 | skip)
     replace p164 := eq_true p164
     replace q164 := eq_true q164
     obtain ⟨ce26, hcl26, hM26, hcc26, hfr26⟩ := Kd.R_elem HO0_2.out z34 (a1_1 : Int) (of_decide_eq_true (by first | (with_reducible assumption) | assumption)) (by have h_ : (a1_1 : Int) < ((l0_2.length : Int) : Int) := of_decide_eq_true (by first | (with_reducible assumption) | assumption); first | exact h_ | (have e_ := (Kd.R_reads' HO0_2.out).1; omega) | simpa using h_)
     obtain rfl := k34_openM hM26
     have HP26 := (Kd.R_seg HO0_2.out (a1_1 : Int) (of_decide_eq_true (by first | (with_reducible assumption) | assumption)) (by have h_ : (a1_1 : Int) < ((l0_2.length : Int) : Int) := of_decide_eq_true (by first | (with_reducible assumption) | assumption); first | exact h_ | (have e_ := (Kd.R_reads' HO0_2.out).1; omega) | simpa using h_) (seg := [.int .i64 (wrap64 (((rd_T34 y161 a1_1).f1) + a1_2))]) (j := 1) hcl26 hcc26 (show 2 ≤ 5 from by decide) (x' := (⟨(rd_T34 y161 a1_1).f0, wrap64 (((rd_T34 y161 a1_1).f1) + a1_2), (rd_T34 y161 a1_1).f2, (rd_T34 y161 a1_1).f3, (rd_T34 y161 a1_1).f4⟩ : S34)) (k34_mkM _ _ _ (⟨(rd_T34 y161 a1_1).f0, wrap64 (((rd_T34 y161 a1_1).f1) + a1_2), (rd_T34 y161 a1_1).f2, (rd_T34 y161 a1_1).f3, (rd_T34 y161 a1_1).f4⟩ : S34) ) (fun _ hk => hk)).1
     have hx26_0 : World.cell? _ ⟨go5, (a1_1 : Int).toNat * 5, none⟩ = some (.int .i64 ((rd_T34 y161 a1_1).f0)) := hcc26 0 _ rfl
     have hx26_1 : World.cell? _ ⟨go5, (a1_1 : Int).toNat * 5 + 1, none⟩ = some (.int .i64 ((rd_T34 y161 a1_1).f1)) := hcc26 1 _ rfl
     have hx26_2 : World.cell? _ ⟨go5, (a1_1 : Int).toNat * 5 + 2, none⟩ = some (.int .i64 ((rd_T34 y161 a1_1).f2)) := hcc26 2 _ rfl
     have hx26_3 : World.cell? _ ⟨go5, (a1_1 : Int).toNat * 5 + 3, none⟩ = some (.int .i64 ((rd_T34 y161 a1_1).f3)) := hcc26 3 _ rfl
     have hx26_4 : World.cell? _ ⟨go5, (a1_1 : Int).toNat * 5 + 4, none⟩ = some (.int .i64 ((rd_T34 y161 a1_1).f4)) := hcc26 4 _ rfl
     have hf26_0 : World.frozen? _ ⟨go5, (a1_1 : Int).toNat * 5, none⟩ = false := hfr26 0
     have hf26_1 : World.frozen? _ ⟨go5, (a1_1 : Int).toNat * 5 + 1, none⟩ = false := hfr26 1
     have hf26_2 : World.frozen? _ ⟨go5, (a1_1 : Int).toNat * 5 + 2, none⟩ = false := hfr26 2
     have hf26_3 : World.frozen? _ ⟨go5, (a1_1 : Int).toNat * 5 + 3, none⟩ = false := hfr26 3
     have hf26_4 : World.frozen? _ ⟨go5, (a1_1 : Int).toNat * 5 + 4, none⟩ = false := hfr26 4
     rw [← Ny165.out] at HP26
     have HQ26 := Aside0.mk HP26
     clear hcl26 hcc26 hfr26 hM26 HP26
     refine start_ (n := 10) (S := fun w' => w'.cell? ⟨gb160, 0, none⟩ = some (.int .i64 a1_0) ∧ w'.cell? ⟨gb160, 1, none⟩ = some (.int .i64 a1_1) ∧ w'.cell? ⟨gb160, 2, none⟩ = some (.int .i64 a1_2) ∧ w'.cell? ⟨go5, (a1_1).toNat * 5, none⟩ = some (.int .i64 ((rd_T34 y161 a1_1).f0)) ∧ w'.cell? ⟨go5, (a1_1).toNat * 5 + 1, none⟩ = some (.int .i64 ((rd_T34 y161 a1_1).f1)) ∧ w'.cell? ⟨go5, (a1_1).toNat * 5 + 2, none⟩ = some (.int .i64 ((rd_T34 y161 a1_1).f2)) ∧ w'.cell? ⟨go5, (a1_1).toNat * 5 + 3, none⟩ = some (.int .i64 ((rd_T34 y161 a1_1).f3)) ∧ w'.cell? ⟨go5, (a1_1).toNat * 5 + 4, none⟩ = some (.int .i64 ((rd_T34 y161 a1_1).f4))) (ds := [9]) #[false, false, false, false, false, false, false, false, false, false] (by kernel_rfl) rfl rfl ⟨bc_ BK160 0, bc_ BK160 1, bc_ BK160 2, hx164_0, hx164_1, hx164_2, hx164_3, hx164_4⟩ (fun hHeld => ?_); refine with_tabW impl_Shop_change.tab7 impl_Shop_change.bits7 (fun HT_ HW_ => ?_)
     generalize w23.drew = w25 at HO0_2 BK159 BK160 HK HB HQ26 hf26_0 hf26_1 hf26_2 hf26_3 hf26_4 hx164_0 hx164_1 hx164_2 hx164_3 hx164_4 hx26_0 hx26_1 hx26_2 hx26_3 hx26_4 hHeld ⊢
     refine pureA (N := some 33) 0 HT_ ?_
     refine pureA (N := some 34) 1 HT_ ?_
     refine pureA (N := some 35) 2 HT_ ?_
     refine pureA (N := some 37) 4 HT_ ?_
     refine takeA (N := some 36) 3 HT_ HW_ hHeld ?_
     refine takeA (N := some 38) 5 HT_ HW_ hHeld ?_
     refine pureA (N := some 39) 6 HT_ ?_
     refine pureA (N := some 40) 7 HT_ ?_
     refine pureA (N := some 41) 8 HT_ ?_
     refine lastA (N := none) 9 HT_ (fun K hK => ?_)
     refine skip_ (w1 := ?_) (by rfl) rfl ?_ ?_
     rotate_left
     ·go_simp
      rfl
     refine hK.out _ _ ?_
     clear hK K
     refine done_ (done_of HT_.out (by kernel_rfl)) ?_
     try go_wp2
     first | go_end0 | ((try simp only [Exit.inBlock, Exit.then]); refine bodyPost_ret (results_none rfl _ _ _) rfl ?_)
     exact ⟨_, (by (with_reducible repeat (first | refine blk_drewN ?_ _ | refine blk_drew ?_ | refine blk_alloc ?_ _)); refine blk_far ?_ (by have h_ := Kd.R_ne HO0_2.out BK159.out (by decide); intro e_; exact h_ (by rw [e_]; rfl)) _; (with_reducible repeat (first | refine blk_drewN ?_ _ | refine blk_drew ?_ | refine blk_alloc ?_ _)); exact BK159.out), by first | rfl | (simp [errW_none, errW_some] <;> rfl) | (simp [*, errW_none, errW_some] <;> rfl), by (with_reducible repeat (first | apply Kd.R_alloc | apply Kd.R_drewN | apply Kd.R_drew)); exact HQ26.out, by repeat (first | (with_reducible first | exact HB.out | apply below_alloc | apply pw_below_drewN | apply below_drew1 | refine below_set ?_ GB5.out | refine below_set ?_ GE159.out | refine below_set ?_ GE160.out) | exact HB.out), by repeat (first | (with_reducible first | exact HK.out | apply Kept.alloc | apply Kept.drewN | apply Kept.drew | refine Kept.setCell ?_ (Or.imp_left Or.inl HMgo5.out) _ | refine Kept.setCell ?_ (.inl (.inr rfl)) _ | refine Kept.setCell ?_ (.inr GW160.out) _) | exact HK.out)⟩
    ·rw [if_neg c17] at H
     have c17b0 : (a1_0 == 4) = false := beq_eq_false_iff_ne.mpr c17
     have c17b1 : (a1_0 != 4) = true := bne_iff_ne.mpr c17
     by_cases c27 : a1_0 = 5
     ·rw [if_pos c27] at H
      have c27b0 : (a1_0 == 5) = true := beq_iff_eq.mpr c27
      have c27b1 : (a1_0 != 5) = false := bne_eq_false_iff_eq.mpr c27
      clear c27
      obtain ⟨y166, hy166⟩ : ∃ y_ : List (S34), y_ = (y161.set (a1_1 : Int).toNat (⟨(rd_T34 y161 a1_1).f0, (rd_T34 y161 a1_1).f1, 2, (rd_T34 y161 a1_1).f3, (rd_T34 y161 a1_1).f4⟩ : S34)) := ⟨_, rfl⟩
      replace H : (some (a0_0, a0_1, (y166.set (a1_1 : Int).toNat (⟨(rd_T34 y166 a1_1).f0, (rd_T34 y166 a1_1).f1, (rd_T34 y166 a1_1).f2, 0, (rd_T34 y166 a1_1).f4⟩ : S34)), a0_3)) = some (r1, r2, r3, r4) := by first | (rw [hy166]; with_reducible exact H) | (have H2_ := (Option.bind_some _ _).symm.trans H; rw [hy166]; with_reducible exact H2_) | (have H2_ := (Option.bind_some _ _).symm.trans H; with_reducible exact H2_) | with_reducible exact H | (rw [hy166]; exact H) | exact H
      have Ny166 := Aside0.mk hy166
      clear hy166
      obtain ⟨y167, hy167⟩ : ∃ y_ : List (S34), y_ = (y166.set (a1_1 : Int).toNat (⟨(rd_T34 y166 a1_1).f0, (rd_T34 y166 a1_1).f1, (rd_T34 y166 a1_1).f2, 0, (rd_T34 y166 a1_1).f4⟩ : S34)) := ⟨_, rfl⟩
      replace H : (some (a0_0, a0_1, y167, a0_3)) = some (r1, r2, r3, r4) := by first | (rw [hy167]; with_reducible exact H) | (have H2_ := (Option.bind_some _ _).symm.trans H; rw [hy167]; with_reducible exact H2_) | (have H2_ := (Option.bind_some _ _).symm.trans H; with_reducible exact H2_) | with_reducible exact H | (rw [hy167]; exact H) | exact H
      have Ny167 := Aside0.mk hy167
      clear hy167
      simp only [Option.some.injEq, Prod.mk.injEq] at H
      obtain ⟨rfl, rfl, rfl, rfl⟩ := H
      go_enter Try.func112, Try.ntmps112
      try go_wp2_with (first | ((with_reducible refine gate_dst (N := 3) rfl ?_); refine box_ (N := 3) (cs := #[.int .i64 a1_0, .int .i64 a1_1, .int .i64 a1_2]) (t := 30) ?_; intro gb160 hg w28 hbox hb; have n0_ := Aside0.mk (Kd.R_below (ra_ HO0_2) hb); have n1_ := bb_ BK159 hb; have n2_ := Aside0.mk (Kept.below (S := (fun k_ => (P0_2_ k_) ∨ k_ = gb159)) (by repeat (first | (with_reducible first | exact HK.out | apply Kept.alloc | apply Kept.drewN | apply Kept.drew | refine Kept.setCell ?_ (.inl (.inr rfl)) _) | exact HK.out)) hb); have n3_ := Aside0.mk (below_step (bw_ w0) hb); have n4_ := Aside0.mk (hbox); have n5_ := Aside0.mk ((by rw [hg]; exact (by first | exact HK.out.1 | exact (show Kept w _ (fun k_ => (P0_2_ k_) ∨ k_ = gb159) from by repeat (first | (with_reducible first | exact HK.out | apply Kept.alloc | apply Kept.drewN | apply Kept.drew | refine Kept.setCell ?_ (.inl (.inr rfl)) _) | exact HK.out)).1) : w.heap.size ≤ gb160)); have n6_ := gz_ w0 hg; have n7_ := ne_ hg BK159; have n8_ := en_ hg BK159; clear HO0_2; clear BK159; clear HK; clear HB; have HO0_2 := n0_; have BK159 := n1_; have HK := n2_; have HB := n3_; have BK160 := n4_; have GW160 := n5_; have GE160 := n6_; have NB159_160 := n7_; have NB160_159 := n8_; clear n0_ n1_ n2_ n3_ n4_ n5_ n6_ n7_ n8_; clear hb hbox hg))
      replace HO0_2 := Aside0.mk (Kd.R_drew HO0_2.out)
      replace BK159 := Aside0.mk (blk_drew BK159.out)
      replace BK160 := Aside0.mk (blk_drew BK160.out)
      replace HK := Aside0.mk (Kept.drew HK.out)
      replace HB := Aside0.mk (below_drew1 HB.out)
      have p5 : 0 ≤ (a1_1 : Int) := of_decide_eq_true (by first | (with_reducible assumption) | assumption)
      have q5 : (a1_1 : Int) < ((l0_2.length : Int) : Int) := of_decide_eq_true (by first | (with_reducible assumption) | assumption)
      obtain ⟨go5, co5, eo5, gb5, gl5, cl5, HG5⟩ := Kd.R_form HO0_2.out (by omega)
      (first | cases eo5 | (injection eo5 with ea_ en_ ec_; (first | subst ea_ | (injection ea_ with ea_; subst ea_)); subst ec_; clear en_))
      have GB5 := Aside0.mk gb5
      have GG5 := Aside0.mk HG5
      clear gb5 gl5 HG5
      have HMgo5 := Aside0.mk (show (P0_2_ go5 ∨ w.heap.size ≤ go5) from (HO0_2.out.1 _ rfl))
      obtain ⟨ce5, hcl5, hM5, hcc5, hfr5⟩ := Kd.R_elem HO0_2.out z34 (a1_1 : Int) p5 q5
      obtain rfl := k34_openM hM5
      have hx5_0 : World.cell? _ ⟨go5, (a1_1 : Int).toNat * 5, none⟩ = some (.int .i64 ((rd_T34 l0_2 a1_1).f0)) := hcc5 0 _ rfl
      have hx5_1 : World.cell? _ ⟨go5, (a1_1 : Int).toNat * 5 + 1, none⟩ = some (.int .i64 ((rd_T34 l0_2 a1_1).f1)) := hcc5 1 _ rfl
      have hx5_2 : World.cell? _ ⟨go5, (a1_1 : Int).toNat * 5 + 2, none⟩ = some (.int .i64 ((rd_T34 l0_2 a1_1).f2)) := hcc5 2 _ rfl
      have hx5_3 : World.cell? _ ⟨go5, (a1_1 : Int).toNat * 5 + 3, none⟩ = some (.int .i64 ((rd_T34 l0_2 a1_1).f3)) := hcc5 3 _ rfl
      have hx5_4 : World.cell? _ ⟨go5, (a1_1 : Int).toNat * 5 + 4, none⟩ = some (.int .i64 ((rd_T34 l0_2 a1_1).f4)) := hcc5 4 _ rfl
      have hf5_0 : World.frozen? _ ⟨go5, (a1_1 : Int).toNat * 5, none⟩ = false := hfr5 0
      have hf5_1 : World.frozen? _ ⟨go5, (a1_1 : Int).toNat * 5 + 1, none⟩ = false := hfr5 1
      have hf5_2 : World.frozen? _ ⟨go5, (a1_1 : Int).toNat * 5 + 2, none⟩ = false := hfr5 2
      have hf5_3 : World.frozen? _ ⟨go5, (a1_1 : Int).toNat * 5 + 3, none⟩ = false := hfr5 3
      have hf5_4 : World.frozen? _ ⟨go5, (a1_1 : Int).toNat * 5 + 4, none⟩ = false := hfr5 4
      clear hcl5 hcc5 hfr5 hM5
      replace p5 := eq_true p5
      replace q5 := eq_true q5
      refine start_ (n := 8) (S := fun w' => w'.cell? ⟨gb159, 0, none⟩ = some (.int .i64 a0_0) ∧ w'.cell? ⟨gb159, 1, none⟩ = some (.int .i64 a0_1) ∧ w'.cell? ⟨gb159, 2, none⟩ = some (.slice (some ⟨go5, 0, none⟩) l0_2.length co5) ∧ w'.cell? ⟨gb159, 3, none⟩ = some (.int .i64 a0_3) ∧ w'.cell? ⟨gb160, 0, none⟩ = some (.int .i64 a1_0) ∧ w'.cell? ⟨gb160, 1, none⟩ = some (.int .i64 a1_1) ∧ w'.cell? ⟨gb160, 2, none⟩ = some (.int .i64 a1_2)) (ds := []) #[false, false, false, false, false, false, false, false] (by kernel_rfl) rfl rfl ⟨bc_ BK159 0, bc_ BK159 1, bc_ BK159 2, bc_ BK159 3, bc_ BK160 0, bc_ BK160 1, bc_ BK160 2⟩ (fun hHeld => ?_); refine with_tabW impl_Shop_change.tab1 impl_Shop_change.bits1 (fun HT_ HW_ => ?_)
      generalize w28.drew = w29 at HO0_2 BK159 BK160 HK HB GG5 hf5_0 hf5_1 hf5_2 hf5_3 hf5_4 hx5_0 hx5_1 hx5_2 hx5_3 hx5_4 hHeld ⊢
      refine pureA (N := some 5) 0 HT_ ?_
      refine pureA (N := some 6) 1 HT_ ?_
      refine pureA (N := some 7) 2 HT_ ?_
      refine pureA (N := some 9) 4 HT_ ?_
      refine takeA (N := some 8) 3 HT_ HW_ hHeld ?_
      refine takeA (N := some 10) 5 HT_ HW_ hHeld ?_
      refine pureA (N := some 11) 6 HT_ ?_
      refine pureA (N := some 4) 7 HT_ ?_
      refine done_ (done_of HT_.out (by kernel_rfl)) ?_
      have hnb30 := NB159_160.out
      have hnc30 := NB160_159.out
      obtain ⟨hcz31_0, hcz31_1, hcz31_2, hcz31_3, hfz31_0, hfz31_1, hfz31_2, hfz31_3⟩ := bc4_ (w := w29) BK159
      have HX32 := Aside0.mk (show Kd.R k34 34 w29 w0.heap.size (fun k_ => (P0_2_ k_ ∨ w.heap.size ≤ k_)) (.slice (some ⟨go5, 0, none⟩) l0_2.length co5) l0_2 from (ra_ HO0_2))
      obtain ⟨ce32, hcl32, hM32, hcc32, hfr32⟩ := Kd.R_elem HX32.out z34 (a1_1 : Int) (of_decide_eq_true (by first | (with_reducible assumption) | assumption)) (by have h_ : (a1_1 : Int) < ((l0_2.length : Int) : Int) := of_decide_eq_true (by first | (with_reducible assumption) | assumption); first | exact h_ | (have e_ := (Kd.R_reads' HO0_2.out).1; omega) | simpa using h_)
      obtain rfl := k34_openM hM32
      have HP32 := Kd.R_seg HX32.out (a1_1 : Int) (of_decide_eq_true (by first | (with_reducible assumption) | assumption)) (by have h_ : (a1_1 : Int) < ((l0_2.length : Int) : Int) := of_decide_eq_true (by first | (with_reducible assumption) | assumption); first | exact h_ | (have e_ := (Kd.R_reads' HO0_2.out).1; omega) | simpa using h_) (seg := [.int .i64 a0_0]) (j := 4) hcl32 hcc32 (show 5 ≤ 5 from by decide) (x' := (⟨(rd_T34 l0_2 a1_1).f0, (rd_T34 l0_2 a1_1).f1, (rd_T34 l0_2 a1_1).f2, (rd_T34 l0_2 a1_1).f3, a0_0⟩ : S34)) (k34_mkM _ _ _ (⟨(rd_T34 l0_2 a1_1).f0, (rd_T34 l0_2 a1_1).f1, (rd_T34 l0_2 a1_1).f2, (rd_T34 l0_2 a1_1).f3, a0_0⟩ : S34) ) (fun _ hk => hk)
      have hx32_4 := hcc32 4 _ rfl
      (try simp only [show (k34).sz = 5 from rfl, Nat.mul_one, Nat.add_zero] at hx32_4)
      have hf32_4 := hfr32 4
      (try simp only [show (k34).sz = 5 from rfl, Nat.mul_one, Nat.add_zero] at hf32_4)
      clear hcl32 hcc32 hfr32 hM32
      try go_wp2_with (first | ((with_reducible refine gate_store (t := 3) (p := 18) rfl ?_); refine store_event (t := 3) (p := 18) (v := ?vo_w33) (w1 := (w29.setCell ⟨go5, (a1_1 : Int).toNat * 5 + 4, none⟩ (.int .i64 a0_0))) ?hg ?ho ?hn ?hr ?_; (case ho => rfl); (case hg => rfl); (case hn => rfl); (case hr => first | (go_simp; done) | (go_simp; rfl)); intro w33 hw; have hg : w29.grownBy w33 (some go5) := (by rw [hw]; exact HP32.2); have hp_ : Kd.R k34 34 w33 w0.heap.size (fun k_ => (P0_2_ k_ ∨ w.heap.size ≤ k_)) (.slice (some ⟨go5, 0, none⟩) l0_2.length co5) y161 := (by rw [hw, Ny161.out]; exact HP32.1); clear HP32; have n0_ := Aside0.mk (hp_); have n1_ := Aside0.mk (blk_grown (g := gb159) (o := .cells #[.int .i64 a0_0, .int .i64 a0_1, .slice (some ⟨go5, 0, none⟩) l0_2.length co5, .int .i64 a0_3] 24 (0, 0)) (bk_ BK159) hg (Kd.R_ne HO0_2.out BK159.out (by decide))); have n2_ := Aside0.mk (blk_grown (g := gb160) (o := .cells #[.int .i64 a1_0, .int .i64 a1_1, .int .i64 a1_2] 30 (0, 0)) (bk_ BK160) hg (Kd.R_ne HO0_2.out BK160.out (by decide))); have n3_ := Aside0.mk ((by rw [hw]; exact below_set (HB.out) GB5.out : Below w0.heap.size w0 w33)); have n4_ := Aside0.mk (Kept.of_grown (S := (fun k_ => (P0_2_ k_) ∨ k_ = gb159)) hg (by repeat (first | (with_reducible first | exact HK.out | apply Kept.alloc | apply Kept.drewN | apply Kept.drew | refine Kept.setCell ?_ (.inl (.inr rfl)) _ | refine Kept.setCell ?_ (.inr GW160.out) _) | exact HK.out)) (fun k_ e_ => Or.imp_left Or.inl ((HO0_2.out.1 k_ e_)))); clear HO0_2; clear BK159; clear BK160; clear HB; clear HK; have HO0_2 := n0_; have BK159 := n1_; have BK160 := n2_; have HB := n3_; have HK := n4_; clear n0_ n1_ n2_ n3_ n4_; clear hg hw hp_; obtain ⟨hcz34_0, hcz34_1, hcz34_2, hfz34_0, hfz34_1, hfz34_2⟩ := bc3_ (w := w33) BK160; have HX35 := Aside0.mk (show Kd.R k34 34 w33 w0.heap.size (fun k_ => (P0_2_ k_ ∨ w.heap.size ≤ k_)) (.slice (some ⟨go5, 0, none⟩) l0_2.length co5) y161 from (ra_ HO0_2)); obtain ⟨ce35, hcl35, hM35, hcc35, hfr35⟩ := Kd.R_elem HX35.out z34 (a1_1 : Int) (of_decide_eq_true (by first | (with_reducible assumption) | assumption)) (by have h_ : (a1_1 : Int) < ((l0_2.length : Int) : Int) := of_decide_eq_true (by first | (with_reducible assumption) | assumption); first | exact h_ | (have e_ := (Kd.R_reads' HO0_2.out).1; omega) | simpa using h_); obtain rfl := k34_openM hM35; have HP35 := Kd.R_seg HX35.out (a1_1 : Int) (of_decide_eq_true (by first | (with_reducible assumption) | assumption)) (by have h_ : (a1_1 : Int) < ((l0_2.length : Int) : Int) := of_decide_eq_true (by first | (with_reducible assumption) | assumption); first | exact h_ | (have e_ := (Kd.R_reads' HO0_2.out).1; omega) | simpa using h_) (seg := [.int .i64 2]) (j := 2) hcl35 hcc35 (show 3 ≤ 5 from by decide) (x' := (⟨(rd_T34 y161 a1_1).f0, (rd_T34 y161 a1_1).f1, 2, (rd_T34 y161 a1_1).f3, (rd_T34 y161 a1_1).f4⟩ : S34)) (k34_mkM _ _ _ (⟨(rd_T34 y161 a1_1).f0, (rd_T34 y161 a1_1).f1, 2, (rd_T34 y161 a1_1).f3, (rd_T34 y161 a1_1).f4⟩ : S34) ) (fun _ hk => hk); have hx35_2 := hcc35 2 _ rfl; (try simp only [show (k34).sz = 5 from rfl, Nat.mul_one, Nat.add_zero] at hx35_2); have hf35_2 := hfr35 2; (try simp only [show (k34).sz = 5 from rfl, Nat.mul_one, Nat.add_zero] at hf35_2); clear hcl35 hcc35 hfr35 hM35) | ((with_reducible refine gate_store (t := 3) (p := 47) rfl ?_); refine store_event (t := 3) (p := 47) (v := ?vo_w36) (w1 := (w33.setCell ⟨go5, (a1_1 : Int).toNat * 5 + 2, none⟩ (.int .i64 2))) ?hg ?ho ?hn ?hr ?_; (case ho => rfl); (case hg => rfl); (case hn => rfl); (case hr => first | (go_simp; done) | (go_simp; rfl)); intro w36 hw; have hg : w33.grownBy w36 (some go5) := (by rw [hw]; exact HP35.2); have hp_ : Kd.R k34 34 w36 w0.heap.size (fun k_ => (P0_2_ k_ ∨ w.heap.size ≤ k_)) (.slice (some ⟨go5, 0, none⟩) l0_2.length co5) y166 := (by rw [hw, Ny166.out]; exact HP35.1); clear HP35; have n0_ := Aside0.mk (hp_); have n1_ := Aside0.mk (blk_grown (g := gb159) (o := .cells #[.int .i64 a0_0, .int .i64 a0_1, .slice (some ⟨go5, 0, none⟩) l0_2.length co5, .int .i64 a0_3] 24 (0, 0)) (bk_ BK159) hg (Kd.R_ne HO0_2.out BK159.out (by decide))); have n2_ := Aside0.mk (blk_grown (g := gb160) (o := .cells #[.int .i64 a1_0, .int .i64 a1_1, .int .i64 a1_2] 30 (0, 0)) (bk_ BK160) hg (Kd.R_ne HO0_2.out BK160.out (by decide))); have n3_ := Aside0.mk ((by rw [hw]; exact below_set (HB.out) GB5.out : Below w0.heap.size w0 w36)); have n4_ := Aside0.mk (Kept.of_grown (S := (fun k_ => (P0_2_ k_) ∨ k_ = gb159)) hg (by repeat (first | (with_reducible first | exact HK.out | apply Kept.alloc | apply Kept.drewN | apply Kept.drew | refine Kept.setCell ?_ (.inl (.inr rfl)) _ | refine Kept.setCell ?_ (.inr GW160.out) _) | exact HK.out)) (fun k_ e_ => Or.imp_left Or.inl ((HO0_2.out.1 k_ e_)))); clear HO0_2; clear BK159; clear BK160; clear HB; clear HK; have HO0_2 := n0_; have BK159 := n1_; have BK160 := n2_; have HB := n3_; have HK := n4_; clear n0_ n1_ n2_ n3_ n4_; clear hg hw hp_; have HX37 := Aside0.mk (show Kd.R k34 34 w36 w0.heap.size (fun k_ => (P0_2_ k_ ∨ w.heap.size ≤ k_)) (.slice (some ⟨go5, 0, none⟩) l0_2.length co5) y166 from (ra_ HO0_2)); obtain ⟨ce37, hcl37, hM37, hcc37, hfr37⟩ := Kd.R_elem HX37.out z34 (a1_1 : Int) (of_decide_eq_true (by first | (with_reducible assumption) | assumption)) (by have h_ : (a1_1 : Int) < ((l0_2.length : Int) : Int) := of_decide_eq_true (by first | (with_reducible assumption) | assumption); first | exact h_ | (have e_ := (Kd.R_reads' HO0_2.out).1; omega) | simpa using h_); obtain rfl := k34_openM hM37; have HP37 := Kd.R_seg HX37.out (a1_1 : Int) (of_decide_eq_true (by first | (with_reducible assumption) | assumption)) (by have h_ : (a1_1 : Int) < ((l0_2.length : Int) : Int) := of_decide_eq_true (by first | (with_reducible assumption) | assumption); first | exact h_ | (have e_ := (Kd.R_reads' HO0_2.out).1; omega) | simpa using h_) (seg := [.int .i64 0]) (j := 3) hcl37 hcc37 (show 4 ≤ 5 from by decide) (x' := (⟨(rd_T34 y166 a1_1).f0, (rd_T34 y166 a1_1).f1, (rd_T34 y166 a1_1).f2, 0, (rd_T34 y166 a1_1).f4⟩ : S34)) (k34_mkM _ _ _ (⟨(rd_T34 y166 a1_1).f0, (rd_T34 y166 a1_1).f1, (rd_T34 y166 a1_1).f2, 0, (rd_T34 y166 a1_1).f4⟩ : S34) ) (fun _ hk => hk); have hx37_3 := hcc37 3 _ rfl; (try simp only [show (k34).sz = 5 from rfl, Nat.mul_one, Nat.add_zero] at hx37_3); have hf37_3 := hfr37 3; (try simp only [show (k34).sz = 5 from rfl, Nat.mul_one, Nat.add_zero] at hf37_3); clear hcl37 hcc37 hfr37 hM37) | ((with_reducible refine gate_store (t := 3) (p := 49) rfl ?_); refine store_event (t := 3) (p := 49) (v := ?vo_w38) (w1 := (w36.setCell ⟨go5, (a1_1 : Int).toNat * 5 + 3, none⟩ (.int .i64 0))) ?hg ?ho ?hn ?hr ?_; (case ho => rfl); (case hg => rfl); (case hn => rfl); (case hr => first | (go_simp; done) | (go_simp; rfl)); intro w38 hw; have hg : w36.grownBy w38 (some go5) := (by rw [hw]; exact HP37.2); have hp_ : Kd.R k34 34 w38 w0.heap.size (fun k_ => (P0_2_ k_ ∨ w.heap.size ≤ k_)) (.slice (some ⟨go5, 0, none⟩) l0_2.length co5) y167 := (by rw [hw, Ny167.out]; exact HP37.1); clear HP37; have n0_ := Aside0.mk (hp_); have n1_ := Aside0.mk (blk_grown (g := gb159) (o := .cells #[.int .i64 a0_0, .int .i64 a0_1, .slice (some ⟨go5, 0, none⟩) l0_2.length co5, .int .i64 a0_3] 24 (0, 0)) (bk_ BK159) hg (Kd.R_ne HO0_2.out BK159.out (by decide))); have n2_ := Aside0.mk (blk_grown (g := gb160) (o := .cells #[.int .i64 a1_0, .int .i64 a1_1, .int .i64 a1_2] 30 (0, 0)) (bk_ BK160) hg (Kd.R_ne HO0_2.out BK160.out (by decide))); have n3_ := Aside0.mk ((by rw [hw]; exact below_set (HB.out) GB5.out : Below w0.heap.size w0 w38)); have n4_ := Aside0.mk (Kept.of_grown (S := (fun k_ => (P0_2_ k_) ∨ k_ = gb159)) hg (by repeat (first | (with_reducible first | exact HK.out | apply Kept.alloc | apply Kept.drewN | apply Kept.drew | refine Kept.setCell ?_ (.inl (.inr rfl)) _ | refine Kept.setCell ?_ (.inr GW160.out) _) | exact HK.out)) (fun k_ e_ => Or.imp_left Or.inl ((HO0_2.out.1 k_ e_)))); clear HO0_2; clear BK159; clear BK160; clear HB; clear HK; have HO0_2 := n0_; have BK159 := n1_; have BK160 := n2_; have HB := n3_; have HK := n4_; clear n0_ n1_ n2_ n3_ n4_; clear hg hw hp_))
      first | go_end0 | ((try simp only [Exit.inBlock, Exit.then]); refine bodyPost_ret (results_none rfl _ _ _) rfl ?_)
      exact ⟨_, (bk_ BK159), by first | rfl | (simp [errW_none, errW_some] <;> rfl) | (simp [*, errW_none, errW_some] <;> rfl), by (with_reducible repeat (first | apply Kd.R_alloc | apply Kd.R_drewN | apply Kd.R_drew)); exact HO0_2.out, (bw_ w0), by repeat (first | (with_reducible first | exact HK.out | apply Kept.alloc | apply Kept.drewN | apply Kept.drew | refine Kept.setCell ?_ (.inl (.inr rfl)) _ | refine Kept.setCell ?_ (.inr GW160.out) _) | exact HK.out)⟩
     ·rw [if_neg c27] at H
      have c27b0 : (a1_0 == 5) = false := beq_eq_false_iff_ne.mpr c27
      have c27b1 : (a1_0 != 5) = true := bne_iff_ne.mpr c27
      by_cases c39 : a1_0 = 6
      ·rw [if_pos c39] at H
       have c39b0 : (a1_0 == 6) = true := beq_iff_eq.mpr c39
       have c39b1 : (a1_0 != 6) = false := bne_eq_false_iff_eq.mpr c39
       clear c39
       obtain ⟨y168, hy168⟩ : ∃ y_ : List (S34), y_ = (y161.set (a1_1 : Int).toNat (⟨(rd_T34 y161 a1_1).f0, (rd_T34 y161 a1_1).f1, 3, (rd_T34 y161 a1_1).f3, (rd_T34 y161 a1_1).f4⟩ : S34)) := ⟨_, rfl⟩
       replace H : (some (a0_0, a0_1, y168, a0_3)) = some (r1, r2, r3, r4) := by first | (rw [hy168]; with_reducible exact H) | (have H2_ := (Option.bind_some _ _).symm.trans H; rw [hy168]; with_reducible exact H2_) | (have H2_ := (Option.bind_some _ _).symm.trans H; with_reducible exact H2_) | with_reducible exact H | (rw [hy168]; exact H) | exact H
       have Ny168 := Aside0.mk hy168
       clear hy168
       simp only [Option.some.injEq, Prod.mk.injEq] at H
       obtain ⟨rfl, rfl, rfl, rfl⟩ := H
       go_enter Try.func112, Try.ntmps112
       try go_wp2_with (first | ((with_reducible refine gate_dst (N := 3) rfl ?_); refine box_ (N := 3) (cs := #[.int .i64 a1_0, .int .i64 a1_1, .int .i64 a1_2]) (t := 30) ?_; intro gb160 hg w40 hbox hb; have n0_ := Aside0.mk (Kd.R_below (ra_ HO0_2) hb); have n1_ := bb_ BK159 hb; have n2_ := Aside0.mk (Kept.below (S := (fun k_ => (P0_2_ k_) ∨ k_ = gb159)) (by repeat (first | (with_reducible first | exact HK.out | apply Kept.alloc | apply Kept.drewN | apply Kept.drew | refine Kept.setCell ?_ (.inl (.inr rfl)) _) | exact HK.out)) hb); have n3_ := Aside0.mk (below_step (bw_ w0) hb); have n4_ := Aside0.mk (hbox); have n5_ := Aside0.mk ((by rw [hg]; exact (by first | exact HK.out.1 | exact (show Kept w _ (fun k_ => (P0_2_ k_) ∨ k_ = gb159) from by repeat (first | (with_reducible first | exact HK.out | apply Kept.alloc | apply Kept.drewN | apply Kept.drew | refine Kept.setCell ?_ (.inl (.inr rfl)) _) | exact HK.out)).1) : w.heap.size ≤ gb160)); have n6_ := gz_ w0 hg; have n7_ := ne_ hg BK159; have n8_ := en_ hg BK159; clear HO0_2; clear BK159; clear HK; clear HB; have HO0_2 := n0_; have BK159 := n1_; have HK := n2_; have HB := n3_; have BK160 := n4_; have GW160 := n5_; have GE160 := n6_; have NB159_160 := n7_; have NB160_159 := n8_; clear n0_ n1_ n2_ n3_ n4_ n5_ n6_ n7_ n8_; clear hb hbox hg))
       replace HO0_2 := Aside0.mk (Kd.R_drew HO0_2.out)
       replace BK159 := Aside0.mk (blk_drew BK159.out)
       replace BK160 := Aside0.mk (blk_drew BK160.out)
       replace HK := Aside0.mk (Kept.drew HK.out)
       replace HB := Aside0.mk (below_drew1 HB.out)
       have p5 : 0 ≤ (a1_1 : Int) := of_decide_eq_true (by first | (with_reducible assumption) | assumption)
       have q5 : (a1_1 : Int) < ((l0_2.length : Int) : Int) := of_decide_eq_true (by first | (with_reducible assumption) | assumption)
       obtain ⟨go5, co5, eo5, gb5, gl5, cl5, HG5⟩ := Kd.R_form HO0_2.out (by omega)
       (first | cases eo5 | (injection eo5 with ea_ en_ ec_; (first | subst ea_ | (injection ea_ with ea_; subst ea_)); subst ec_; clear en_))
       have GB5 := Aside0.mk gb5
       have GG5 := Aside0.mk HG5
       clear gb5 gl5 HG5
       have HMgo5 := Aside0.mk (show (P0_2_ go5 ∨ w.heap.size ≤ go5) from (HO0_2.out.1 _ rfl))
       obtain ⟨ce5, hcl5, hM5, hcc5, hfr5⟩ := Kd.R_elem HO0_2.out z34 (a1_1 : Int) p5 q5
       obtain rfl := k34_openM hM5
       have hx5_0 : World.cell? _ ⟨go5, (a1_1 : Int).toNat * 5, none⟩ = some (.int .i64 ((rd_T34 l0_2 a1_1).f0)) := hcc5 0 _ rfl
       have hx5_1 : World.cell? _ ⟨go5, (a1_1 : Int).toNat * 5 + 1, none⟩ = some (.int .i64 ((rd_T34 l0_2 a1_1).f1)) := hcc5 1 _ rfl
       have hx5_2 : World.cell? _ ⟨go5, (a1_1 : Int).toNat * 5 + 2, none⟩ = some (.int .i64 ((rd_T34 l0_2 a1_1).f2)) := hcc5 2 _ rfl
       have hx5_3 : World.cell? _ ⟨go5, (a1_1 : Int).toNat * 5 + 3, none⟩ = some (.int .i64 ((rd_T34 l0_2 a1_1).f3)) := hcc5 3 _ rfl
       have hx5_4 : World.cell? _ ⟨go5, (a1_1 : Int).toNat * 5 + 4, none⟩ = some (.int .i64 ((rd_T34 l0_2 a1_1).f4)) := hcc5 4 _ rfl
       have hf5_0 : World.frozen? _ ⟨go5, (a1_1 : Int).toNat * 5, none⟩ = false := hfr5 0
       have hf5_1 : World.frozen? _ ⟨go5, (a1_1 : Int).toNat * 5 + 1, none⟩ = false := hfr5 1
       have hf5_2 : World.frozen? _ ⟨go5, (a1_1 : Int).toNat * 5 + 2, none⟩ = false := hfr5 2
       have hf5_3 : World.frozen? _ ⟨go5, (a1_1 : Int).toNat * 5 + 3, none⟩ = false := hfr5 3
       have hf5_4 : World.frozen? _ ⟨go5, (a1_1 : Int).toNat * 5 + 4, none⟩ = false := hfr5 4
       clear hcl5 hcc5 hfr5 hM5
       replace p5 := eq_true p5
       replace q5 := eq_true q5
       refine start_ (n := 8) (S := fun w' => w'.cell? ⟨gb159, 0, none⟩ = some (.int .i64 a0_0) ∧ w'.cell? ⟨gb159, 1, none⟩ = some (.int .i64 a0_1) ∧ w'.cell? ⟨gb159, 2, none⟩ = some (.slice (some ⟨go5, 0, none⟩) l0_2.length co5) ∧ w'.cell? ⟨gb159, 3, none⟩ = some (.int .i64 a0_3) ∧ w'.cell? ⟨gb160, 0, none⟩ = some (.int .i64 a1_0) ∧ w'.cell? ⟨gb160, 1, none⟩ = some (.int .i64 a1_1) ∧ w'.cell? ⟨gb160, 2, none⟩ = some (.int .i64 a1_2)) (ds := []) #[false, false, false, false, false, false, false, false] (by kernel_rfl) rfl rfl ⟨bc_ BK159 0, bc_ BK159 1, bc_ BK159 2, bc_ BK159 3, bc_ BK160 0, bc_ BK160 1, bc_ BK160 2⟩ (fun hHeld => ?_); refine with_tabW impl_Shop_change.tab1 impl_Shop_change.bits1 (fun HT_ HW_ => ?_)
       generalize w40.drew = w41 at HO0_2 BK159 BK160 HK HB GG5 hf5_0 hf5_1 hf5_2 hf5_3 hf5_4 hx5_0 hx5_1 hx5_2 hx5_3 hx5_4 hHeld ⊢
       refine pureA (N := some 5) 0 HT_ ?_
       refine pureA (N := some 6) 1 HT_ ?_
       refine pureA (N := some 7) 2 HT_ ?_
       refine pureA (N := some 9) 4 HT_ ?_
       refine takeA (N := some 8) 3 HT_ HW_ hHeld ?_
       refine takeA (N := some 10) 5 HT_ HW_ hHeld ?_
       refine pureA (N := some 11) 6 HT_ ?_
       refine pureA (N := some 4) 7 HT_ ?_
       refine done_ (done_of HT_.out (by kernel_rfl)) ?_
       have hnb42 := NB159_160.out
       have hnc42 := NB160_159.out
       obtain ⟨hcz43_0, hcz43_1, hcz43_2, hcz43_3, hfz43_0, hfz43_1, hfz43_2, hfz43_3⟩ := bc4_ (w := w41) BK159
       have HX44 := Aside0.mk (show Kd.R k34 34 w41 w0.heap.size (fun k_ => (P0_2_ k_ ∨ w.heap.size ≤ k_)) (.slice (some ⟨go5, 0, none⟩) l0_2.length co5) l0_2 from (ra_ HO0_2))
       obtain ⟨ce44, hcl44, hM44, hcc44, hfr44⟩ := Kd.R_elem HX44.out z34 (a1_1 : Int) (of_decide_eq_true (by first | (with_reducible assumption) | assumption)) (by have h_ : (a1_1 : Int) < ((l0_2.length : Int) : Int) := of_decide_eq_true (by first | (with_reducible assumption) | assumption); first | exact h_ | (have e_ := (Kd.R_reads' HO0_2.out).1; omega) | simpa using h_)
       obtain rfl := k34_openM hM44
       have HP44 := Kd.R_seg HX44.out (a1_1 : Int) (of_decide_eq_true (by first | (with_reducible assumption) | assumption)) (by have h_ : (a1_1 : Int) < ((l0_2.length : Int) : Int) := of_decide_eq_true (by first | (with_reducible assumption) | assumption); first | exact h_ | (have e_ := (Kd.R_reads' HO0_2.out).1; omega) | simpa using h_) (seg := [.int .i64 a0_0]) (j := 4) hcl44 hcc44 (show 5 ≤ 5 from by decide) (x' := (⟨(rd_T34 l0_2 a1_1).f0, (rd_T34 l0_2 a1_1).f1, (rd_T34 l0_2 a1_1).f2, (rd_T34 l0_2 a1_1).f3, a0_0⟩ : S34)) (k34_mkM _ _ _ (⟨(rd_T34 l0_2 a1_1).f0, (rd_T34 l0_2 a1_1).f1, (rd_T34 l0_2 a1_1).f2, (rd_T34 l0_2 a1_1).f3, a0_0⟩ : S34) ) (fun _ hk => hk)
       have hx44_4 := hcc44 4 _ rfl
       (try simp only [show (k34).sz = 5 from rfl, Nat.mul_one, Nat.add_zero] at hx44_4)
       have hf44_4 := hfr44 4
       (try simp only [show (k34).sz = 5 from rfl, Nat.mul_one, Nat.add_zero] at hf44_4)
       clear hcl44 hcc44 hfr44 hM44
       try go_wp2_with (first | ((with_reducible refine gate_store (t := 3) (p := 18) rfl ?_); refine store_event (t := 3) (p := 18) (v := ?vo_w45) (w1 := (w41.setCell ⟨go5, (a1_1 : Int).toNat * 5 + 4, none⟩ (.int .i64 a0_0))) ?hg ?ho ?hn ?hr ?_; (case ho => rfl); (case hg => rfl); (case hn => rfl); (case hr => first | (go_simp; done) | (go_simp; rfl)); intro w45 hw; have hg : w41.grownBy w45 (some go5) := (by rw [hw]; exact HP44.2); have hp_ : Kd.R k34 34 w45 w0.heap.size (fun k_ => (P0_2_ k_ ∨ w.heap.size ≤ k_)) (.slice (some ⟨go5, 0, none⟩) l0_2.length co5) y161 := (by rw [hw, Ny161.out]; exact HP44.1); clear HP44; have n0_ := Aside0.mk (hp_); have n1_ := Aside0.mk (blk_grown (g := gb159) (o := .cells #[.int .i64 a0_0, .int .i64 a0_1, .slice (some ⟨go5, 0, none⟩) l0_2.length co5, .int .i64 a0_3] 24 (0, 0)) (bk_ BK159) hg (Kd.R_ne HO0_2.out BK159.out (by decide))); have n2_ := Aside0.mk (blk_grown (g := gb160) (o := .cells #[.int .i64 a1_0, .int .i64 a1_1, .int .i64 a1_2] 30 (0, 0)) (bk_ BK160) hg (Kd.R_ne HO0_2.out BK160.out (by decide))); have n3_ := Aside0.mk ((by rw [hw]; exact below_set (HB.out) GB5.out : Below w0.heap.size w0 w45)); have n4_ := Aside0.mk (Kept.of_grown (S := (fun k_ => (P0_2_ k_) ∨ k_ = gb159)) hg (by repeat (first | (with_reducible first | exact HK.out | apply Kept.alloc | apply Kept.drewN | apply Kept.drew | refine Kept.setCell ?_ (.inl (.inr rfl)) _ | refine Kept.setCell ?_ (.inr GW160.out) _) | exact HK.out)) (fun k_ e_ => Or.imp_left Or.inl ((HO0_2.out.1 k_ e_)))); clear HO0_2; clear BK159; clear BK160; clear HB; clear HK; have HO0_2 := n0_; have BK159 := n1_; have BK160 := n2_; have HB := n3_; have HK := n4_; clear n0_ n1_ n2_ n3_ n4_; clear hg hw hp_; obtain ⟨hcz46_0, hcz46_1, hcz46_2, hfz46_0, hfz46_1, hfz46_2⟩ := bc3_ (w := w45) BK160; have HX47 := Aside0.mk (show Kd.R k34 34 w45 w0.heap.size (fun k_ => (P0_2_ k_ ∨ w.heap.size ≤ k_)) (.slice (some ⟨go5, 0, none⟩) l0_2.length co5) y161 from (ra_ HO0_2)); obtain ⟨ce47, hcl47, hM47, hcc47, hfr47⟩ := Kd.R_elem HX47.out z34 (a1_1 : Int) (of_decide_eq_true (by first | (with_reducible assumption) | assumption)) (by have h_ : (a1_1 : Int) < ((l0_2.length : Int) : Int) := of_decide_eq_true (by first | (with_reducible assumption) | assumption); first | exact h_ | (have e_ := (Kd.R_reads' HO0_2.out).1; omega) | simpa using h_); obtain rfl := k34_openM hM47; have HP47 := Kd.R_seg HX47.out (a1_1 : Int) (of_decide_eq_true (by first | (with_reducible assumption) | assumption)) (by have h_ : (a1_1 : Int) < ((l0_2.length : Int) : Int) := of_decide_eq_true (by first | (with_reducible assumption) | assumption); first | exact h_ | (have e_ := (Kd.R_reads' HO0_2.out).1; omega) | simpa using h_) (seg := [.int .i64 3]) (j := 2) hcl47 hcc47 (show 3 ≤ 5 from by decide) (x' := (⟨(rd_T34 y161 a1_1).f0, (rd_T34 y161 a1_1).f1, 3, (rd_T34 y161 a1_1).f3, (rd_T34 y161 a1_1).f4⟩ : S34)) (k34_mkM _ _ _ (⟨(rd_T34 y161 a1_1).f0, (rd_T34 y161 a1_1).f1, 3, (rd_T34 y161 a1_1).f3, (rd_T34 y161 a1_1).f4⟩ : S34) ) (fun _ hk => hk); have hx47_2 := hcc47 2 _ rfl; (try simp only [show (k34).sz = 5 from rfl, Nat.mul_one, Nat.add_zero] at hx47_2); have hf47_2 := hfr47 2; (try simp only [show (k34).sz = 5 from rfl, Nat.mul_one, Nat.add_zero] at hf47_2); clear hcl47 hcc47 hfr47 hM47) | ((with_reducible refine gate_store (t := 3) (p := 54) rfl ?_); refine store_event (t := 3) (p := 54) (v := ?vo_w48) (w1 := (w45.setCell ⟨go5, (a1_1 : Int).toNat * 5 + 2, none⟩ (.int .i64 3))) ?hg ?ho ?hn ?hr ?_; (case ho => rfl); (case hg => rfl); (case hn => rfl); (case hr => first | (go_simp; done) | (go_simp; rfl)); intro w48 hw; have hg : w45.grownBy w48 (some go5) := (by rw [hw]; exact HP47.2); have hp_ : Kd.R k34 34 w48 w0.heap.size (fun k_ => (P0_2_ k_ ∨ w.heap.size ≤ k_)) (.slice (some ⟨go5, 0, none⟩) l0_2.length co5) y168 := (by rw [hw, Ny168.out]; exact HP47.1); clear HP47; have n0_ := Aside0.mk (hp_); have n1_ := Aside0.mk (blk_grown (g := gb159) (o := .cells #[.int .i64 a0_0, .int .i64 a0_1, .slice (some ⟨go5, 0, none⟩) l0_2.length co5, .int .i64 a0_3] 24 (0, 0)) (bk_ BK159) hg (Kd.R_ne HO0_2.out BK159.out (by decide))); have n2_ := Aside0.mk (blk_grown (g := gb160) (o := .cells #[.int .i64 a1_0, .int .i64 a1_1, .int .i64 a1_2] 30 (0, 0)) (bk_ BK160) hg (Kd.R_ne HO0_2.out BK160.out (by decide))); have n3_ := Aside0.mk ((by rw [hw]; exact below_set (HB.out) GB5.out : Below w0.heap.size w0 w48)); have n4_ := Aside0.mk (Kept.of_grown (S := (fun k_ => (P0_2_ k_) ∨ k_ = gb159)) hg (by repeat (first | (with_reducible first | exact HK.out | apply Kept.alloc | apply Kept.drewN | apply Kept.drew | refine Kept.setCell ?_ (.inl (.inr rfl)) _ | refine Kept.setCell ?_ (.inr GW160.out) _) | exact HK.out)) (fun k_ e_ => Or.imp_left Or.inl ((HO0_2.out.1 k_ e_)))); clear HO0_2; clear BK159; clear BK160; clear HB; clear HK; have HO0_2 := n0_; have BK159 := n1_; have BK160 := n2_; have HB := n3_; have HK := n4_; clear n0_ n1_ n2_ n3_ n4_; clear hg hw hp_))
       first | go_end0 | ((try simp only [Exit.inBlock, Exit.then]); refine bodyPost_ret (results_none rfl _ _ _) rfl ?_)
       exact ⟨_, (bk_ BK159), by first | rfl | (simp [errW_none, errW_some] <;> rfl) | (simp [*, errW_none, errW_some] <;> rfl), by (with_reducible repeat (first | apply Kd.R_alloc | apply Kd.R_drewN | apply Kd.R_drew)); exact HO0_2.out, (bw_ w0), by repeat (first | (with_reducible first | exact HK.out | apply Kept.alloc | apply Kept.drewN | apply Kept.drew | refine Kept.setCell ?_ (.inl (.inr rfl)) _ | refine Kept.setCell ?_ (.inr GW160.out) _) | exact HK.out)⟩
      ·rw [if_neg c39] at H
       have c39b0 : (a1_0 == 6) = false := beq_eq_false_iff_ne.mpr c39
       have c39b1 : (a1_0 != 6) = true := bne_iff_ne.mpr c39
       by_cases c49 : a1_0 = 7
       ·rw [if_pos c49] at H
        have c49b0 : (a1_0 == 7) = true := beq_iff_eq.mpr c49
        have c49b1 : (a1_0 != 7) = false := bne_eq_false_iff_eq.mpr c49
        clear c49
        obtain ⟨y169, hy169⟩ : ∃ y_ : List (S34), y_ = (y161.set (a1_1 : Int).toNat (⟨(rd_T34 y161 a1_1).f0, (rd_T34 y161 a1_1).f1, 4, (rd_T34 y161 a1_1).f3, (rd_T34 y161 a1_1).f4⟩ : S34)) := ⟨_, rfl⟩
        replace H : (some (a0_0, a0_1, y169, wrap64 (a0_3 + a1_2))) = some (r1, r2, r3, r4) := by first | (rw [hy169]; with_reducible exact H) | (have H2_ := (Option.bind_some _ _).symm.trans H; rw [hy169]; with_reducible exact H2_) | (have H2_ := (Option.bind_some _ _).symm.trans H; with_reducible exact H2_) | with_reducible exact H | (rw [hy169]; exact H) | exact H
        have Ny169 := Aside0.mk hy169
        clear hy169
        simp only [Option.some.injEq, Prod.mk.injEq] at H
        obtain ⟨rfl, rfl, rfl, rfl⟩ := H
        go_enter Try.func112, Try.ntmps112
        try go_wp2_with (first | ((with_reducible refine gate_dst (N := 3) rfl ?_); refine box_ (N := 3) (cs := #[.int .i64 a1_0, .int .i64 a1_1, .int .i64 a1_2]) (t := 30) ?_; intro gb160 hg w50 hbox hb; have n0_ := Aside0.mk (Kd.R_below (ra_ HO0_2) hb); have n1_ := bb_ BK159 hb; have n2_ := Aside0.mk (Kept.below (S := (fun k_ => (P0_2_ k_) ∨ k_ = gb159)) (by repeat (first | (with_reducible first | exact HK.out | apply Kept.alloc | apply Kept.drewN | apply Kept.drew | refine Kept.setCell ?_ (.inl (.inr rfl)) _) | exact HK.out)) hb); have n3_ := Aside0.mk (below_step (bw_ w0) hb); have n4_ := Aside0.mk (hbox); have n5_ := Aside0.mk ((by rw [hg]; exact (by first | exact HK.out.1 | exact (show Kept w _ (fun k_ => (P0_2_ k_) ∨ k_ = gb159) from by repeat (first | (with_reducible first | exact HK.out | apply Kept.alloc | apply Kept.drewN | apply Kept.drew | refine Kept.setCell ?_ (.inl (.inr rfl)) _) | exact HK.out)).1) : w.heap.size ≤ gb160)); have n6_ := gz_ w0 hg; have n7_ := ne_ hg BK159; have n8_ := en_ hg BK159; clear HO0_2; clear BK159; clear HK; clear HB; have HO0_2 := n0_; have BK159 := n1_; have HK := n2_; have HB := n3_; have BK160 := n4_; have GW160 := n5_; have GE160 := n6_; have NB159_160 := n7_; have NB160_159 := n8_; clear n0_ n1_ n2_ n3_ n4_ n5_ n6_ n7_ n8_; clear hb hbox hg))
        replace HO0_2 := Aside0.mk (Kd.R_drew HO0_2.out)
        replace BK159 := Aside0.mk (blk_drew BK159.out)
        replace BK160 := Aside0.mk (blk_drew BK160.out)
        replace HK := Aside0.mk (Kept.drew HK.out)
        replace HB := Aside0.mk (below_drew1 HB.out)
        have p5 : 0 ≤ (a1_1 : Int) := of_decide_eq_true (by first | (with_reducible assumption) | assumption)
        have q5 : (a1_1 : Int) < ((l0_2.length : Int) : Int) := of_decide_eq_true (by first | (with_reducible assumption) | assumption)
        obtain ⟨go5, co5, eo5, gb5, gl5, cl5, HG5⟩ := Kd.R_form HO0_2.out (by omega)
        (first | cases eo5 | (injection eo5 with ea_ en_ ec_; (first | subst ea_ | (injection ea_ with ea_; subst ea_)); subst ec_; clear en_))
        have GB5 := Aside0.mk gb5
        have GG5 := Aside0.mk HG5
        clear gb5 gl5 HG5
        have HMgo5 := Aside0.mk (show (P0_2_ go5 ∨ w.heap.size ≤ go5) from (HO0_2.out.1 _ rfl))
        obtain ⟨ce5, hcl5, hM5, hcc5, hfr5⟩ := Kd.R_elem HO0_2.out z34 (a1_1 : Int) p5 q5
        obtain rfl := k34_openM hM5
        have hx5_0 : World.cell? _ ⟨go5, (a1_1 : Int).toNat * 5, none⟩ = some (.int .i64 ((rd_T34 l0_2 a1_1).f0)) := hcc5 0 _ rfl
        have hx5_1 : World.cell? _ ⟨go5, (a1_1 : Int).toNat * 5 + 1, none⟩ = some (.int .i64 ((rd_T34 l0_2 a1_1).f1)) := hcc5 1 _ rfl
        have hx5_2 : World.cell? _ ⟨go5, (a1_1 : Int).toNat * 5 + 2, none⟩ = some (.int .i64 ((rd_T34 l0_2 a1_1).f2)) := hcc5 2 _ rfl
        have hx5_3 : World.cell? _ ⟨go5, (a1_1 : Int).toNat * 5 + 3, none⟩ = some (.int .i64 ((rd_T34 l0_2 a1_1).f3)) := hcc5 3 _ rfl
        have hx5_4 : World.cell? _ ⟨go5, (a1_1 : Int).toNat * 5 + 4, none⟩ = some (.int .i64 ((rd_T34 l0_2 a1_1).f4)) := hcc5 4 _ rfl
        have hf5_0 : World.frozen? _ ⟨go5, (a1_1 : Int).toNat * 5, none⟩ = false := hfr5 0
        have hf5_1 : World.frozen? _ ⟨go5, (a1_1 : Int).toNat * 5 + 1, none⟩ = false := hfr5 1
        have hf5_2 : World.frozen? _ ⟨go5, (a1_1 : Int).toNat * 5 + 2, none⟩ = false := hfr5 2
        have hf5_3 : World.frozen? _ ⟨go5, (a1_1 : Int).toNat * 5 + 3, none⟩ = false := hfr5 3
        have hf5_4 : World.frozen? _ ⟨go5, (a1_1 : Int).toNat * 5 + 4, none⟩ = false := hfr5 4
        clear hcl5 hcc5 hfr5 hM5
        replace p5 := eq_true p5
        replace q5 := eq_true q5
        refine start_ (n := 8) (S := fun w' => w'.cell? ⟨gb159, 0, none⟩ = some (.int .i64 a0_0) ∧ w'.cell? ⟨gb159, 1, none⟩ = some (.int .i64 a0_1) ∧ w'.cell? ⟨gb159, 2, none⟩ = some (.slice (some ⟨go5, 0, none⟩) l0_2.length co5) ∧ w'.cell? ⟨gb159, 3, none⟩ = some (.int .i64 a0_3) ∧ w'.cell? ⟨gb160, 0, none⟩ = some (.int .i64 a1_0) ∧ w'.cell? ⟨gb160, 1, none⟩ = some (.int .i64 a1_1) ∧ w'.cell? ⟨gb160, 2, none⟩ = some (.int .i64 a1_2)) (ds := []) #[false, false, false, false, false, false, false, false] (by kernel_rfl) rfl rfl ⟨bc_ BK159 0, bc_ BK159 1, bc_ BK159 2, bc_ BK159 3, bc_ BK160 0, bc_ BK160 1, bc_ BK160 2⟩ (fun hHeld => ?_); refine with_tabW impl_Shop_change.tab1 impl_Shop_change.bits1 (fun HT_ HW_ => ?_)
        generalize w50.drew = w51 at HO0_2 BK159 BK160 HK HB GG5 hf5_0 hf5_1 hf5_2 hf5_3 hf5_4 hx5_0 hx5_1 hx5_2 hx5_3 hx5_4 hHeld ⊢
        refine pureA (N := some 5) 0 HT_ ?_
        refine pureA (N := some 6) 1 HT_ ?_
        refine pureA (N := some 7) 2 HT_ ?_
        refine pureA (N := some 9) 4 HT_ ?_
        refine takeA (N := some 8) 3 HT_ HW_ hHeld ?_
        refine takeA (N := some 10) 5 HT_ HW_ hHeld ?_
        refine pureA (N := some 11) 6 HT_ ?_
        refine pureA (N := some 4) 7 HT_ ?_
        refine done_ (done_of HT_.out (by kernel_rfl)) ?_
        have hnb52 := NB159_160.out
        have hnc52 := NB160_159.out
        obtain ⟨hcz53_0, hcz53_1, hcz53_2, hcz53_3, hfz53_0, hfz53_1, hfz53_2, hfz53_3⟩ := bc4_ (w := w51) BK159
        have HX54 := Aside0.mk (show Kd.R k34 34 w51 w0.heap.size (fun k_ => (P0_2_ k_ ∨ w.heap.size ≤ k_)) (.slice (some ⟨go5, 0, none⟩) l0_2.length co5) l0_2 from (ra_ HO0_2))
        obtain ⟨ce54, hcl54, hM54, hcc54, hfr54⟩ := Kd.R_elem HX54.out z34 (a1_1 : Int) (of_decide_eq_true (by first | (with_reducible assumption) | assumption)) (by have h_ : (a1_1 : Int) < ((l0_2.length : Int) : Int) := of_decide_eq_true (by first | (with_reducible assumption) | assumption); first | exact h_ | (have e_ := (Kd.R_reads' HO0_2.out).1; omega) | simpa using h_)
        obtain rfl := k34_openM hM54
        have HP54 := Kd.R_seg HX54.out (a1_1 : Int) (of_decide_eq_true (by first | (with_reducible assumption) | assumption)) (by have h_ : (a1_1 : Int) < ((l0_2.length : Int) : Int) := of_decide_eq_true (by first | (with_reducible assumption) | assumption); first | exact h_ | (have e_ := (Kd.R_reads' HO0_2.out).1; omega) | simpa using h_) (seg := [.int .i64 a0_0]) (j := 4) hcl54 hcc54 (show 5 ≤ 5 from by decide) (x' := (⟨(rd_T34 l0_2 a1_1).f0, (rd_T34 l0_2 a1_1).f1, (rd_T34 l0_2 a1_1).f2, (rd_T34 l0_2 a1_1).f3, a0_0⟩ : S34)) (k34_mkM _ _ _ (⟨(rd_T34 l0_2 a1_1).f0, (rd_T34 l0_2 a1_1).f1, (rd_T34 l0_2 a1_1).f2, (rd_T34 l0_2 a1_1).f3, a0_0⟩ : S34) ) (fun _ hk => hk)
        have hx54_4 := hcc54 4 _ rfl
        (try simp only [show (k34).sz = 5 from rfl, Nat.mul_one, Nat.add_zero] at hx54_4)
        have hf54_4 := hfr54 4
        (try simp only [show (k34).sz = 5 from rfl, Nat.mul_one, Nat.add_zero] at hf54_4)
        clear hcl54 hcc54 hfr54 hM54
        try go_wp2_with (first | ((with_reducible refine gate_store (t := 3) (p := 18) rfl ?_); refine store_event (t := 3) (p := 18) (v := ?vo_w55) (w1 := (w51.setCell ⟨go5, (a1_1 : Int).toNat * 5 + 4, none⟩ (.int .i64 a0_0))) ?hg ?ho ?hn ?hr ?_; (case ho => rfl); (case hg => rfl); (case hn => rfl); (case hr => first | (go_simp; done) | (go_simp; rfl)); intro w55 hw; have hg : w51.grownBy w55 (some go5) := (by rw [hw]; exact HP54.2); have hp_ : Kd.R k34 34 w55 w0.heap.size (fun k_ => (P0_2_ k_ ∨ w.heap.size ≤ k_)) (.slice (some ⟨go5, 0, none⟩) l0_2.length co5) y161 := (by rw [hw, Ny161.out]; exact HP54.1); clear HP54; have n0_ := Aside0.mk (hp_); have n1_ := Aside0.mk (blk_grown (g := gb159) (o := .cells #[.int .i64 a0_0, .int .i64 a0_1, .slice (some ⟨go5, 0, none⟩) l0_2.length co5, .int .i64 a0_3] 24 (0, 0)) (bk_ BK159) hg (Kd.R_ne HO0_2.out BK159.out (by decide))); have n2_ := Aside0.mk (blk_grown (g := gb160) (o := .cells #[.int .i64 a1_0, .int .i64 a1_1, .int .i64 a1_2] 30 (0, 0)) (bk_ BK160) hg (Kd.R_ne HO0_2.out BK160.out (by decide))); have n3_ := Aside0.mk ((by rw [hw]; exact below_set (HB.out) GB5.out : Below w0.heap.size w0 w55)); have n4_ := Aside0.mk (Kept.of_grown (S := (fun k_ => (P0_2_ k_) ∨ k_ = gb159)) hg (by repeat (first | (with_reducible first | exact HK.out | apply Kept.alloc | apply Kept.drewN | apply Kept.drew | refine Kept.setCell ?_ (.inl (.inr rfl)) _ | refine Kept.setCell ?_ (.inr GW160.out) _) | exact HK.out)) (fun k_ e_ => Or.imp_left Or.inl ((HO0_2.out.1 k_ e_)))); clear HO0_2; clear BK159; clear BK160; clear HB; clear HK; have HO0_2 := n0_; have BK159 := n1_; have BK160 := n2_; have HB := n3_; have HK := n4_; clear n0_ n1_ n2_ n3_ n4_; clear hg hw hp_; obtain ⟨hcz56_0, hcz56_1, hcz56_2, hfz56_0, hfz56_1, hfz56_2⟩ := bc3_ (w := w55) BK160; have HX57 := Aside0.mk (show Kd.R k34 34 w55 w0.heap.size (fun k_ => (P0_2_ k_ ∨ w.heap.size ≤ k_)) (.slice (some ⟨go5, 0, none⟩) l0_2.length co5) y161 from (ra_ HO0_2)); obtain ⟨ce57, hcl57, hM57, hcc57, hfr57⟩ := Kd.R_elem HX57.out z34 (a1_1 : Int) (of_decide_eq_true (by first | (with_reducible assumption) | assumption)) (by have h_ : (a1_1 : Int) < ((l0_2.length : Int) : Int) := of_decide_eq_true (by first | (with_reducible assumption) | assumption); first | exact h_ | (have e_ := (Kd.R_reads' HO0_2.out).1; omega) | simpa using h_); obtain rfl := k34_openM hM57; have HP57 := Kd.R_seg HX57.out (a1_1 : Int) (of_decide_eq_true (by first | (with_reducible assumption) | assumption)) (by have h_ : (a1_1 : Int) < ((l0_2.length : Int) : Int) := of_decide_eq_true (by first | (with_reducible assumption) | assumption); first | exact h_ | (have e_ := (Kd.R_reads' HO0_2.out).1; omega) | simpa using h_) (seg := [.int .i64 4]) (j := 2) hcl57 hcc57 (show 3 ≤ 5 from by decide) (x' := (⟨(rd_T34 y161 a1_1).f0, (rd_T34 y161 a1_1).f1, 4, (rd_T34 y161 a1_1).f3, (rd_T34 y161 a1_1).f4⟩ : S34)) (k34_mkM _ _ _ (⟨(rd_T34 y161 a1_1).f0, (rd_T34 y161 a1_1).f1, 4, (rd_T34 y161 a1_1).f3, (rd_T34 y161 a1_1).f4⟩ : S34) ) (fun _ hk => hk); have hx57_2 := hcc57 2 _ rfl; (try simp only [show (k34).sz = 5 from rfl, Nat.mul_one, Nat.add_zero] at hx57_2); have hf57_2 := hfr57 2; (try simp only [show (k34).sz = 5 from rfl, Nat.mul_one, Nat.add_zero] at hf57_2); clear hcl57 hcc57 hfr57 hM57) | ((with_reducible refine gate_store (t := 3) (p := 59) rfl ?_); refine store_event (t := 3) (p := 59) (v := ?vo_w58) (w1 := (w55.setCell ⟨go5, (a1_1 : Int).toNat * 5 + 2, none⟩ (.int .i64 4))) ?hg ?ho ?hn ?hr ?_; (case ho => rfl); (case hg => rfl); (case hn => rfl); (case hr => first | (go_simp; done) | (go_simp; rfl)); intro w58 hw; have hg : w55.grownBy w58 (some go5) := (by rw [hw]; exact HP57.2); have hp_ : Kd.R k34 34 w58 w0.heap.size (fun k_ => (P0_2_ k_ ∨ w.heap.size ≤ k_)) (.slice (some ⟨go5, 0, none⟩) l0_2.length co5) y169 := (by rw [hw, Ny169.out]; exact HP57.1); clear HP57; have n0_ := Aside0.mk (hp_); have n1_ := Aside0.mk (blk_grown (g := gb159) (o := .cells #[.int .i64 a0_0, .int .i64 a0_1, .slice (some ⟨go5, 0, none⟩) l0_2.length co5, .int .i64 a0_3] 24 (0, 0)) (bk_ BK159) hg (Kd.R_ne HO0_2.out BK159.out (by decide))); have n2_ := Aside0.mk (blk_grown (g := gb160) (o := .cells #[.int .i64 a1_0, .int .i64 a1_1, .int .i64 a1_2] 30 (0, 0)) (bk_ BK160) hg (Kd.R_ne HO0_2.out BK160.out (by decide))); have n3_ := Aside0.mk ((by rw [hw]; exact below_set (HB.out) GB5.out : Below w0.heap.size w0 w58)); have n4_ := Aside0.mk (Kept.of_grown (S := (fun k_ => (P0_2_ k_) ∨ k_ = gb159)) hg (by repeat (first | (with_reducible first | exact HK.out | apply Kept.alloc | apply Kept.drewN | apply Kept.drew | refine Kept.setCell ?_ (.inl (.inr rfl)) _ | refine Kept.setCell ?_ (.inr GW160.out) _) | exact HK.out)) (fun k_ e_ => Or.imp_left Or.inl ((HO0_2.out.1 k_ e_)))); clear HO0_2; clear BK159; clear BK160; clear HB; clear HK; have HO0_2 := n0_; have BK159 := n1_; have BK160 := n2_; have HB := n3_; have HK := n4_; clear n0_ n1_ n2_ n3_ n4_; clear hg hw hp_))
        replace HO0_2 := Aside0.mk (Kd.R_drew HO0_2.out)
        replace BK159 := Aside0.mk (blk_drew BK159.out)
        replace BK160 := Aside0.mk (blk_drew BK160.out)
        replace HK := Aside0.mk (Kept.drew HK.out)
        replace HB := Aside0.mk (below_drew1 HB.out)
        refine start_ (n := 10) (S := fun w' => w'.cell? ⟨gb159, 0, none⟩ = some (.int .i64 a0_0) ∧ w'.cell? ⟨gb159, 1, none⟩ = some (.int .i64 a0_1) ∧ w'.cell? ⟨gb159, 2, none⟩ = some (.slice (some ⟨go5, 0, none⟩) l0_2.length co5) ∧ w'.cell? ⟨gb159, 3, none⟩ = some (.int .i64 a0_3) ∧ w'.cell? ⟨gb160, 0, none⟩ = some (.int .i64 a1_0) ∧ w'.cell? ⟨gb160, 1, none⟩ = some (.int .i64 a1_1) ∧ w'.cell? ⟨gb160, 2, none⟩ = some (.int .i64 a1_2)) (ds := [9]) #[false, false, false, false, false, false, false, false, false, false] (by kernel_rfl) rfl rfl ⟨bc_ BK159 0, bc_ BK159 1, bc_ BK159 2, bc_ BK159 3, bc_ BK160 0, bc_ BK160 1, bc_ BK160 2⟩ (fun hHeld => ?_); refine with_tabW impl_Shop_change.tab14 impl_Shop_change.bits14 (fun HT_ HW_ => ?_)
        generalize w58.drew = w59 at HO0_2 BK159 BK160 HK HB hHeld ⊢
        refine pureA (N := some 60) 0 HT_ ?_
        refine pureA (N := some 61) 1 HT_ ?_
        refine pureA (N := some 62) 2 HT_ ?_
        refine pureA (N := some 64) 4 HT_ ?_
        refine takeA (N := some 63) 3 HT_ HW_ hHeld ?_
        refine takeA (N := some 65) 5 HT_ HW_ hHeld ?_
        refine pureA (N := some 66) 6 HT_ ?_
        refine pureA (N := some 67) 7 HT_ ?_
        refine pureA (N := some 68) 8 HT_ ?_
        refine lastA (N := none) 9 HT_ (fun K hK => ?_)
        have hs60 : w59.cell? ⟨gb159, 3, none⟩ = some (.int .i64 a0_3) := bc_ BK159 3
        have hfs60 := blk_frozen BK159.out 3
        have hns60_1 := NB160_159.out
        have hms60_1 := NB159_160.out
        refine skip_ (w1 := ?_) (by rfl) rfl ?_ ?_
        rotate_left
        ·go_simp
         rfl
        refine hK.out _ _ ?_
        clear hK K
        refine done_ (done_of HT_.out (by kernel_rfl)) ?_
        try go_wp2
        first | go_end0 | ((try simp only [Exit.inBlock, Exit.then]); refine bodyPost_ret (results_none rfl _ _ _) rfl ?_)
        exact ⟨_, (bq_ BK159), by first | rfl | (simp [errW_none, errW_some] <;> rfl) | (simp [*, errW_none, errW_some] <;> rfl), by exact rf_ (Kd.R_types HO0_2.out BK159.out (by decide)) (fun _ hk => hk.1), (bw_ w0), by repeat (first | (with_reducible first | exact HK.out | apply Kept.alloc | apply Kept.drewN | apply Kept.drew | refine Kept.setCell ?_ (.inl (.inr rfl)) _ | refine Kept.setCell ?_ (.inr GW160.out) _) | exact HK.out)⟩
       ·rw [if_neg c49] at H
        have c49b0 : (a1_0 == 7) = false := beq_eq_false_iff_ne.mpr c49
        have c49b1 : (a1_0 != 7) = true := bne_iff_ne.mpr c49
        simp only [Option.some.injEq, Prod.mk.injEq] at H
        obtain ⟨rfl, rfl, rfl, rfl⟩ := H
        go_enter Try.func112, Try.ntmps112
        try go_wp2_with (first | ((with_reducible refine gate_dst (N := 3) rfl ?_); refine box_ (N := 3) (cs := #[.int .i64 a1_0, .int .i64 a1_1, .int .i64 a1_2]) (t := 30) ?_; intro gb160 hg w61 hbox hb; have n0_ := Aside0.mk (Kd.R_below (ra_ HO0_2) hb); have n1_ := bb_ BK159 hb; have n2_ := Aside0.mk (Kept.below (S := (fun k_ => (P0_2_ k_) ∨ k_ = gb159)) (by repeat (first | (with_reducible first | exact HK.out | apply Kept.alloc | apply Kept.drewN | apply Kept.drew | refine Kept.setCell ?_ (.inl (.inr rfl)) _) | exact HK.out)) hb); have n3_ := Aside0.mk (below_step (bw_ w0) hb); have n4_ := Aside0.mk (hbox); have n5_ := Aside0.mk ((by rw [hg]; exact (by first | exact HK.out.1 | exact (show Kept w _ (fun k_ => (P0_2_ k_) ∨ k_ = gb159) from by repeat (first | (with_reducible first | exact HK.out | apply Kept.alloc | apply Kept.drewN | apply Kept.drew | refine Kept.setCell ?_ (.inl (.inr rfl)) _) | exact HK.out)).1) : w.heap.size ≤ gb160)); have n6_ := gz_ w0 hg; have n7_ := ne_ hg BK159; have n8_ := en_ hg BK159; clear HO0_2; clear BK159; clear HK; clear HB; have HO0_2 := n0_; have BK159 := n1_; have HK := n2_; have HB := n3_; have BK160 := n4_; have GW160 := n5_; have GE160 := n6_; have NB159_160 := n7_; have NB160_159 := n8_; clear n0_ n1_ n2_ n3_ n4_ n5_ n6_ n7_ n8_; clear hb hbox hg))
        replace HO0_2 := Aside0.mk (Kd.R_drew HO0_2.out)
        replace BK159 := Aside0.mk (blk_drew BK159.out)
        replace BK160 := Aside0.mk (blk_drew BK160.out)
        replace HK := Aside0.mk (Kept.drew HK.out)
        replace HB := Aside0.mk (below_drew1 HB.out)
        have p5 : 0 ≤ (a1_1 : Int) := of_decide_eq_true (by first | (with_reducible assumption) | assumption)
        have q5 : (a1_1 : Int) < ((l0_2.length : Int) : Int) := of_decide_eq_true (by first | (with_reducible assumption) | assumption)
        obtain ⟨go5, co5, eo5, gb5, gl5, cl5, HG5⟩ := Kd.R_form HO0_2.out (by omega)
        (first | cases eo5 | (injection eo5 with ea_ en_ ec_; (first | subst ea_ | (injection ea_ with ea_; subst ea_)); subst ec_; clear en_))
        have GB5 := Aside0.mk gb5
        have GG5 := Aside0.mk HG5
        clear gb5 gl5 HG5
        have HMgo5 := Aside0.mk (show (P0_2_ go5 ∨ w.heap.size ≤ go5) from (HO0_2.out.1 _ rfl))
        obtain ⟨ce5, hcl5, hM5, hcc5, hfr5⟩ := Kd.R_elem HO0_2.out z34 (a1_1 : Int) p5 q5
        obtain rfl := k34_openM hM5
        have hx5_0 : World.cell? _ ⟨go5, (a1_1 : Int).toNat * 5, none⟩ = some (.int .i64 ((rd_T34 l0_2 a1_1).f0)) := hcc5 0 _ rfl
        have hx5_1 : World.cell? _ ⟨go5, (a1_1 : Int).toNat * 5 + 1, none⟩ = some (.int .i64 ((rd_T34 l0_2 a1_1).f1)) := hcc5 1 _ rfl
        have hx5_2 : World.cell? _ ⟨go5, (a1_1 : Int).toNat * 5 + 2, none⟩ = some (.int .i64 ((rd_T34 l0_2 a1_1).f2)) := hcc5 2 _ rfl
        have hx5_3 : World.cell? _ ⟨go5, (a1_1 : Int).toNat * 5 + 3, none⟩ = some (.int .i64 ((rd_T34 l0_2 a1_1).f3)) := hcc5 3 _ rfl
        have hx5_4 : World.cell? _ ⟨go5, (a1_1 : Int).toNat * 5 + 4, none⟩ = some (.int .i64 ((rd_T34 l0_2 a1_1).f4)) := hcc5 4 _ rfl
        have hf5_0 : World.frozen? _ ⟨go5, (a1_1 : Int).toNat * 5, none⟩ = false := hfr5 0
        have hf5_1 : World.frozen? _ ⟨go5, (a1_1 : Int).toNat * 5 + 1, none⟩ = false := hfr5 1
        have hf5_2 : World.frozen? _ ⟨go5, (a1_1 : Int).toNat * 5 + 2, none⟩ = false := hfr5 2
        have hf5_3 : World.frozen? _ ⟨go5, (a1_1 : Int).toNat * 5 + 3, none⟩ = false := hfr5 3
        have hf5_4 : World.frozen? _ ⟨go5, (a1_1 : Int).toNat * 5 + 4, none⟩ = false := hfr5 4
        clear hcl5 hcc5 hfr5 hM5
        replace p5 := eq_true p5
        replace q5 := eq_true q5
        refine start_ (n := 8) (S := fun w' => w'.cell? ⟨gb159, 0, none⟩ = some (.int .i64 a0_0) ∧ w'.cell? ⟨gb159, 1, none⟩ = some (.int .i64 a0_1) ∧ w'.cell? ⟨gb159, 2, none⟩ = some (.slice (some ⟨go5, 0, none⟩) l0_2.length co5) ∧ w'.cell? ⟨gb159, 3, none⟩ = some (.int .i64 a0_3) ∧ w'.cell? ⟨gb160, 0, none⟩ = some (.int .i64 a1_0) ∧ w'.cell? ⟨gb160, 1, none⟩ = some (.int .i64 a1_1) ∧ w'.cell? ⟨gb160, 2, none⟩ = some (.int .i64 a1_2)) (ds := []) #[false, false, false, false, false, false, false, false] (by kernel_rfl) rfl rfl ⟨bc_ BK159 0, bc_ BK159 1, bc_ BK159 2, bc_ BK159 3, bc_ BK160 0, bc_ BK160 1, bc_ BK160 2⟩ (fun hHeld => ?_); refine with_tabW impl_Shop_change.tab1 impl_Shop_change.bits1 (fun HT_ HW_ => ?_)
        generalize w61.drew = w62 at HO0_2 BK159 BK160 HK HB GG5 hf5_0 hf5_1 hf5_2 hf5_3 hf5_4 hx5_0 hx5_1 hx5_2 hx5_3 hx5_4 hHeld ⊢
        refine pureA (N := some 5) 0 HT_ ?_
        refine pureA (N := some 6) 1 HT_ ?_
        refine pureA (N := some 7) 2 HT_ ?_
        refine pureA (N := some 9) 4 HT_ ?_
        refine takeA (N := some 8) 3 HT_ HW_ hHeld ?_
        refine takeA (N := some 10) 5 HT_ HW_ hHeld ?_
        refine pureA (N := some 11) 6 HT_ ?_
        refine pureA (N := some 4) 7 HT_ ?_
        refine done_ (done_of HT_.out (by kernel_rfl)) ?_
        have hnb63 := NB159_160.out
        have hnc63 := NB160_159.out
        obtain ⟨hcz64_0, hcz64_1, hcz64_2, hcz64_3, hfz64_0, hfz64_1, hfz64_2, hfz64_3⟩ := bc4_ (w := w62) BK159
        have HX65 := Aside0.mk (show Kd.R k34 34 w62 w0.heap.size (fun k_ => (P0_2_ k_ ∨ w.heap.size ≤ k_)) (.slice (some ⟨go5, 0, none⟩) l0_2.length co5) l0_2 from (ra_ HO0_2))
        obtain ⟨ce65, hcl65, hM65, hcc65, hfr65⟩ := Kd.R_elem HX65.out z34 (a1_1 : Int) (of_decide_eq_true (by first | (with_reducible assumption) | assumption)) (by have h_ : (a1_1 : Int) < ((l0_2.length : Int) : Int) := of_decide_eq_true (by first | (with_reducible assumption) | assumption); first | exact h_ | (have e_ := (Kd.R_reads' HO0_2.out).1; omega) | simpa using h_)
        obtain rfl := k34_openM hM65
        have HP65 := Kd.R_seg HX65.out (a1_1 : Int) (of_decide_eq_true (by first | (with_reducible assumption) | assumption)) (by have h_ : (a1_1 : Int) < ((l0_2.length : Int) : Int) := of_decide_eq_true (by first | (with_reducible assumption) | assumption); first | exact h_ | (have e_ := (Kd.R_reads' HO0_2.out).1; omega) | simpa using h_) (seg := [.int .i64 a0_0]) (j := 4) hcl65 hcc65 (show 5 ≤ 5 from by decide) (x' := (⟨(rd_T34 l0_2 a1_1).f0, (rd_T34 l0_2 a1_1).f1, (rd_T34 l0_2 a1_1).f2, (rd_T34 l0_2 a1_1).f3, a0_0⟩ : S34)) (k34_mkM _ _ _ (⟨(rd_T34 l0_2 a1_1).f0, (rd_T34 l0_2 a1_1).f1, (rd_T34 l0_2 a1_1).f2, (rd_T34 l0_2 a1_1).f3, a0_0⟩ : S34) ) (fun _ hk => hk)
        have hx65_4 := hcc65 4 _ rfl
        (try simp only [show (k34).sz = 5 from rfl, Nat.mul_one, Nat.add_zero] at hx65_4)
        have hf65_4 := hfr65 4
        (try simp only [show (k34).sz = 5 from rfl, Nat.mul_one, Nat.add_zero] at hf65_4)
        clear hcl65 hcc65 hfr65 hM65
        try go_wp2_with (first | ((with_reducible refine gate_store (t := 3) (p := 18) rfl ?_); refine store_event (t := 3) (p := 18) (v := ?vo_w66) (w1 := (w62.setCell ⟨go5, (a1_1 : Int).toNat * 5 + 4, none⟩ (.int .i64 a0_0))) ?hg ?ho ?hn ?hr ?_; (case ho => rfl); (case hg => rfl); (case hn => rfl); (case hr => first | (go_simp; done) | (go_simp; rfl)); intro w66 hw; have hg : w62.grownBy w66 (some go5) := (by rw [hw]; exact HP65.2); have hp_ : Kd.R k34 34 w66 w0.heap.size (fun k_ => (P0_2_ k_ ∨ w.heap.size ≤ k_)) (.slice (some ⟨go5, 0, none⟩) l0_2.length co5) y161 := (by rw [hw, Ny161.out]; exact HP65.1); clear HP65; have n0_ := Aside0.mk (hp_); have n1_ := Aside0.mk (blk_grown (g := gb159) (o := .cells #[.int .i64 a0_0, .int .i64 a0_1, .slice (some ⟨go5, 0, none⟩) l0_2.length co5, .int .i64 a0_3] 24 (0, 0)) (bk_ BK159) hg (Kd.R_ne HO0_2.out BK159.out (by decide))); have n2_ := Aside0.mk (blk_grown (g := gb160) (o := .cells #[.int .i64 a1_0, .int .i64 a1_1, .int .i64 a1_2] 30 (0, 0)) (bk_ BK160) hg (Kd.R_ne HO0_2.out BK160.out (by decide))); have n3_ := Aside0.mk ((by rw [hw]; exact below_set (HB.out) GB5.out : Below w0.heap.size w0 w66)); have n4_ := Aside0.mk (Kept.of_grown (S := (fun k_ => (P0_2_ k_) ∨ k_ = gb159)) hg (by repeat (first | (with_reducible first | exact HK.out | apply Kept.alloc | apply Kept.drewN | apply Kept.drew | refine Kept.setCell ?_ (.inl (.inr rfl)) _ | refine Kept.setCell ?_ (.inr GW160.out) _) | exact HK.out)) (fun k_ e_ => Or.imp_left Or.inl ((HO0_2.out.1 k_ e_)))); clear HO0_2; clear BK159; clear BK160; clear HB; clear HK; have HO0_2 := n0_; have BK159 := n1_; have BK160 := n2_; have HB := n3_; have HK := n4_; clear n0_ n1_ n2_ n3_ n4_; clear hg hw hp_; obtain ⟨hcz67_0, hcz67_1, hcz67_2, hfz67_0, hfz67_1, hfz67_2⟩ := bc3_ (w := w66) BK160))
        first | go_end0 | ((try simp only [Exit.inBlock, Exit.then]); refine bodyPost_ret (results_none rfl _ _ _) rfl ?_)
        exact ⟨_, (bk_ BK159), by first | rfl | (simp [errW_none, errW_some] <;> rfl) | (simp [*, errW_none, errW_some] <;> rfl), by (with_reducible repeat (first | apply Kd.R_alloc | apply Kd.R_drewN | apply Kd.R_drew)); exact HO0_2.out, (bw_ w0), by repeat (first | (with_reducible first | exact HK.out | apply Kept.alloc | apply Kept.drewN | apply Kept.drew | refine Kept.setCell ?_ (.inl (.inr rfl)) _ | refine Kept.setCell ?_ (.inr GW160.out) _) | exact HK.out)⟩
  ·rw [if_neg c4] at H
   exact absurd H (by simp)
 ·rw [if_neg c3] at H
  exact absurd H (by simp)

end Go.Proofs.Ytahglcpndiadnaa.PFnExactStepShop
