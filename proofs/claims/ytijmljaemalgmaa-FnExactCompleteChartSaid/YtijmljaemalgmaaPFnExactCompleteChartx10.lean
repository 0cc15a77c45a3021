-- Printed by this session's own program (wip/tool/myprint.py, over the kit's print); Lean checks it.
import Derived.Test.YtijmljaemalgmaaPFnExactCompleteChartx0
import Derived.Test.YtijmljaemalgmaaPFnExactCompleteChartx1
import Derived.Test.YtijmljaemalgmaaPFnExactCompleteChartx6
import Derived.Test.YtijmljaemalgmaaPFnExactCompleteChartx9
namespace Go.Proofs.Ytijmljaemalgmaa.PFnExactCompleteChart
open Go.RowKit Go.Proofs.YtijmljaemalgmaaW.PrintWords Go.Proofs.YtijmljaemalgmaaW.PrintLast Go.Proofs.YtijmljaemalgmaaW.PrintMore
attribute [local go_sem] max2_int min2_int max_two min_two max_three min_three max_four min_four   -- for this text's walks alone
set_option linter.unusedVariables false
set_option linter.unusedSimpArgs false

/-! ### laws_FnExactCompleteChart: function 5 -/
mutual
def laws_FnExactCompleteChart.j0 : Nat → Int → Bool → Bool → Bool → Int → Int → List Int → Int → Int → List Int → Int → Int → List Int → Int → Int → List Int → Option (Bool)
  | 0, _, _, _, _, _, _, _, _, _, _, _, _, _, _, _, _ => none
  | k + 1, x1, x7, x10, x44, x419000, x419001, x419002, x432000, x432001, x432002, x438000, x438001, x438002, x445000, x445001, x445002 => if x44 = true then (some false) else ((laws_toChart.f k x419000 x419001 x419002).bind fun bt446 => ((laws_eqChart.f k x438000 x438001 x438002 bt446.1 bt446.2.1 bt446.2.2).bind fun t451 => (if t451 = true then ((laws_markChart.f k x438000 x438001 x438002 1).bind fun bt452 => (if bt452.1 < 0 then (laws_FnExactCompleteChart.j1 k x1 x7 true x419000 x419001 x419002 x432000 x432001 x432002 x445000 x445001 x445002) else ((laws_eqChart.f k x445000 x445001 x445002 x432000 x432001 x432002).bind fun t454 => (if t454 = true then (laws_FnExactCompleteChart.j1 k x1 x7 (x10 != x7) x419000 x419001 x419002 x432000 x432001 x432002 x445000 x445001 x445002) else (laws_FnExactCompleteChart.j1 k x1 x7 true x419000 x419001 x419002 x432000 x432001 x432002 x445000 x445001 x445002))))) else (some false))))
def laws_FnExactCompleteChart.j1 : Nat → Int → Bool → Bool → Int → Int → List Int → Int → Int → List Int → Int → Int → List Int → Option (Bool)
  | 0, _, _, _, _, _, _, _, _, _, _, _, _ => none
  | k + 1, x1, x7, x65, x419000, x419001, x419002, x432000, x432001, x432002, x445000, x445001, x445002 => if x65 = true then (some false) else ((laws_markChart.f k x445000 x445001 x445002 1).bind fun bt455 => ((laws_heldChart.f k x445000 x445001 bt455.2 1).bind fun t457 => (if t457 < 0 then (some false) else (if t457 = bt455.1 then ((laws_toChart.f k x419000 x419001 x419002).bind fun bt458 => ((impl_CompleteChart.f k bt458.1 bt458.2.1 bt458.2.2 x1).bind fun bt463 => ((laws_eqChart.f k bt463.1 bt463.2.1 bt463.2.2.1 x432000 x432001 x432002).bind fun t470 => (if t470 = true then (laws_FnExactCompleteChart.j2 k bt455.1 (bt463.2.2.2 != x7) x445000 x445001 bt455.2) else (laws_FnExactCompleteChart.j2 k bt455.1 true x445000 x445001 bt455.2))))) else (some false)))))
def laws_FnExactCompleteChart.j2 : Nat → Int → Bool → Int → Int → List Int → Option (Bool)
  | 0, _, _, _, _, _ => none
  | k + 1, x12, x92, x445000, x445001, x445002 => if x92 = true then (some false) else ((laws_heldChart.f k x445000 x445001 x445002 1).bind fun t471 => (if t471 < 0 then (some false) else (if t471 = x12 then (some true) else (some false))))
end
def laws_FnExactCompleteChart.f (k : Nat) (a0_0 : Int) (a0_1 : Int) (l0_2 : List Int) (a1 : Int) : Option (Bool) := (laws_szChart.f a0_0 a0_1 l0_2 1048576).bind fun t419 => (if t419 < 0 then (some true) else ((laws_toChart.f k a0_0 a0_1 l0_2).bind fun bt420 => ((spec_CompleteChart.f k bt420.1 bt420.2.1 bt420.2.2 a1).bind fun bt425 => ((laws_toChart.f k a0_0 a0_1 l0_2).bind fun bt432 => ((impl_CompleteChart.f k bt432.1 bt432.2.1 bt432.2.2 a1).bind fun bt438 => ((laws_eqChart.f k bt438.1 bt438.2.1 bt438.2.2.1 bt425.1 bt425.2.1 bt425.2.2.1).bind fun t445 => (if t445 = true then (laws_FnExactCompleteChart.j0 k a1 bt425.2.2.2 bt438.2.2.2 (bt438.2.2.2 != bt425.2.2.2) a0_0 a0_1 l0_2 bt425.1 bt425.2.1 bt425.2.2.1 bt432.1 bt432.2.1 bt432.2.2 bt438.1 bt438.2.1 bt438.2.2.1) else (laws_FnExactCompleteChart.j0 k a1 bt425.2.2.2 bt438.2.2.2 true a0_0 a0_1 l0_2 bt425.1 bt425.2.1 bt425.2.2.1 bt432.1 bt432.2.1 bt432.2.2 bt438.1 bt438.2.1 bt438.2.2.1))))))))
theorem laws_FnExactCompleteChart.mono_l : ∀ k, (∀ y0 y1 y2 y3 y4 y5 y6 y7 y8 y9 y10 y11 y12 y13 y14 y15, LeO (laws_FnExactCompleteChart.j0 k y0 y1 y2 y3 y4 y5 y6 y7 y8 y9 y10 y11 y12 y13 y14 y15) (laws_FnExactCompleteChart.j0 (k + 1) y0 y1 y2 y3 y4 y5 y6 y7 y8 y9 y10 y11 y12 y13 y14 y15)) ∧ (∀ y0 y1 y2 y3 y4 y5 y6 y7 y8 y9 y10 y11, LeO (laws_FnExactCompleteChart.j1 k y0 y1 y2 y3 y4 y5 y6 y7 y8 y9 y10 y11) (laws_FnExactCompleteChart.j1 (k + 1) y0 y1 y2 y3 y4 y5 y6 y7 y8 y9 y10 y11)) ∧ (∀ y0 y1 y2 y3 y4, LeO (laws_FnExactCompleteChart.j2 k y0 y1 y2 y3 y4) (laws_FnExactCompleteChart.j2 (k + 1) y0 y1 y2 y3 y4))
  | 0 => ⟨fun _ _ _ _ _ _ _ _ _ _ _ _ _ _ _ _ r h => by simp [laws_FnExactCompleteChart.j0] at h, fun _ _ _ _ _ _ _ _ _ _ _ _ r h => by simp [laws_FnExactCompleteChart.j1] at h, fun _ _ _ _ _ r h => by simp [laws_FnExactCompleteChart.j2] at h⟩
  | k + 1 => by
    obtain ⟨ih0, ih1, ih2⟩ := laws_FnExactCompleteChart.mono_l k
    refine ⟨?_, ?_, ?_⟩
    · intro y0 y1 y2 y3 y4 y5 y6 y7 y8 y9 y10 y11 y12 y13 y14 y15
      unfold laws_FnExactCompleteChart.j0
      repeat' first
      | (with_reducible exact ih0 _ _ _ _ _ _ _ _ _ _ _ _ _ _ _ _)
      | (with_reducible exact ih1 _ _ _ _ _ _ _ _ _ _ _ _)
      | (with_reducible exact ih2 _ _ _ _ _)
      | (with_reducible exact impl_CompleteChart.mono _ _ _ _ _)
      | (with_reducible exact laws_eqChart.mono _ _ _ _ _ _ _)
      | (with_reducible exact laws_heldChart.mono _ _ _ _ _)
      | (with_reducible exact laws_markChart.mono _ _ _ _ _)
      | (with_reducible exact laws_toChart.mono _ _ _ _)
      | (with_reducible exact spec_CompleteChart.mono _ _ _ _ _)
      | (with_reducible exact LeO.refl _)
      | (with_reducible exact LeO.none _)
      | (with_reducible refine LeO.ite ?_ ?_)
      | (with_reducible refine LeO.bind ?_ (fun _ => ?_))
      | exact ih0 _ _ _ _ _ _ _ _ _ _ _ _ _ _ _ _
      | exact ih1 _ _ _ _ _ _ _ _ _ _ _ _
      | exact ih2 _ _ _ _ _
      | exact impl_CompleteChart.mono _ _ _ _ _
      | exact laws_eqChart.mono _ _ _ _ _ _ _
      | exact laws_heldChart.mono _ _ _ _ _
      | exact laws_markChart.mono _ _ _ _ _
      | exact laws_toChart.mono _ _ _ _
      | exact spec_CompleteChart.mono _ _ _ _ _
      | exact LeO.none _
      | refine LeO.ite ?_ ?_
      | refine LeO.bind ?_ (fun _ => ?_)
    · intro y0 y1 y2 y3 y4 y5 y6 y7 y8 y9 y10 y11
      unfold laws_FnExactCompleteChart.j1
      repeat' first
      | (with_reducible exact ih0 _ _ _ _ _ _ _ _ _ _ _ _ _ _ _ _)
      | (with_reducible exact ih1 _ _ _ _ _ _ _ _ _ _ _ _)
      | (with_reducible exact ih2 _ _ _ _ _)
      | (with_reducible exact impl_CompleteChart.mono _ _ _ _ _)
      | (with_reducible exact laws_eqChart.mono _ _ _ _ _ _ _)
      | (with_reducible exact laws_heldChart.mono _ _ _ _ _)
      | (with_reducible exact laws_markChart.mono _ _ _ _ _)
      | (with_reducible exact laws_toChart.mono _ _ _ _)
      | (with_reducible exact spec_CompleteChart.mono _ _ _ _ _)
      | (with_reducible exact LeO.refl _)
      | (with_reducible exact LeO.none _)
      | (with_reducible refine LeO.ite ?_ ?_)
      | (with_reducible refine LeO.bind ?_ (fun _ => ?_))
      | exact ih0 _ _ _ _ _ _ _ _ _ _ _ _ _ _ _ _
      | exact ih1 _ _ _ _ _ _ _ _ _ _ _ _
      | exact ih2 _ _ _ _ _
      | exact impl_CompleteChart.mono _ _ _ _ _
      | exact laws_eqChart.mono _ _ _ _ _ _ _
      | exact laws_heldChart.mono _ _ _ _ _
      | exact laws_markChart.mono _ _ _ _ _
      | exact laws_toChart.mono _ _ _ _
      | exact spec_CompleteChart.mono _ _ _ _ _
      | exact LeO.none _
      | refine LeO.ite ?_ ?_
      | refine LeO.bind ?_ (fun _ => ?_)
    · intro y0 y1 y2 y3 y4
      unfold laws_FnExactCompleteChart.j2
      repeat' first
      | (with_reducible exact ih0 _ _ _ _ _ _ _ _ _ _ _ _ _ _ _ _)
      | (with_reducible exact ih1 _ _ _ _ _ _ _ _ _ _ _ _)
      | (with_reducible exact ih2 _ _ _ _ _)
      | (with_reducible exact impl_CompleteChart.mono _ _ _ _ _)
      | (with_reducible exact laws_eqChart.mono _ _ _ _ _ _ _)
      | (with_reducible exact laws_heldChart.mono _ _ _ _ _)
      | (with_reducible exact laws_markChart.mono _ _ _ _ _)
      | (with_reducible exact laws_toChart.mono _ _ _ _)
      | (with_reducible exact spec_CompleteChart.mono _ _ _ _ _)
      | (with_reducible exact LeO.refl _)
      | (with_reducible exact LeO.none _)
      | (with_reducible refine LeO.ite ?_ ?_)
      | (with_reducible refine LeO.bind ?_ (fun _ => ?_))
      | exact ih0 _ _ _ _ _ _ _ _ _ _ _ _ _ _ _ _
      | exact ih1 _ _ _ _ _ _ _ _ _ _ _ _
      | exact ih2 _ _ _ _ _
      | exact impl_CompleteChart.mono _ _ _ _ _
      | exact laws_eqChart.mono _ _ _ _ _ _ _
      | exact laws_heldChart.mono _ _ _ _ _
      | exact laws_markChart.mono _ _ _ _ _
      | exact laws_toChart.mono _ _ _ _
      | exact spec_CompleteChart.mono _ _ _ _ _
      | exact LeO.none _
      | refine LeO.ite ?_ ?_
      | refine LeO.bind ?_ (fun _ => ?_)
theorem laws_FnExactCompleteChart.mono : ∀ a0 a1 a2 a3 k, LeO (laws_FnExactCompleteChart.f k a0 a1 a2 a3) (laws_FnExactCompleteChart.f (k + 1) a0 a1 a2 a3) := by
  intro a0 a1 a2 a3 k
  obtain ⟨ih0, ih1, ih2⟩ := laws_FnExactCompleteChart.mono_l k
  unfold laws_FnExactCompleteChart.f
  repeat' first
      | (with_reducible exact ih0 _ _ _ _ _ _ _ _ _ _ _ _ _ _ _ _)
      | (with_reducible exact ih1 _ _ _ _ _ _ _ _ _ _ _ _)
      | (with_reducible exact ih2 _ _ _ _ _)
      | (with_reducible exact impl_CompleteChart.mono _ _ _ _ _)
      | (with_reducible exact laws_eqChart.mono _ _ _ _ _ _ _)
      | (with_reducible exact laws_heldChart.mono _ _ _ _ _)
      | (with_reducible exact laws_markChart.mono _ _ _ _ _)
      | (with_reducible exact laws_toChart.mono _ _ _ _)
      | (with_reducible exact spec_CompleteChart.mono _ _ _ _ _)
      | (with_reducible exact LeO.refl _)
      | (with_reducible exact LeO.none _)
      | (with_reducible refine LeO.ite ?_ ?_)
      | (with_reducible refine LeO.bind ?_ (fun _ => ?_))
      | exact ih0 _ _ _ _ _ _ _ _ _ _ _ _ _ _ _ _
      | exact ih1 _ _ _ _ _ _ _ _ _ _ _ _
      | exact ih2 _ _ _ _ _
      | exact impl_CompleteChart.mono _ _ _ _ _
      | exact laws_eqChart.mono _ _ _ _ _ _ _
      | exact laws_heldChart.mono _ _ _ _ _
      | exact laws_markChart.mono _ _ _ _ _
      | exact laws_toChart.mono _ _ _ _
      | exact spec_CompleteChart.mono _ _ _ _ _
      | exact LeO.none _
      | refine LeO.ite ?_ ?_
      | refine LeO.bind ?_ (fun _ => ?_)
set_option maxHeartbeats 8000000 in
set_option maxRecDepth 100000 in
theorem laws_FnExactCompleteChart.calls (k : Nat) (a0_0 : Int) (a0_1 : Int) (A0_2 : Option Addr) (c0_2 : Nat) (l0_2 : List Int) (a1 : Int) (w : World) (hr0_2 : Kd.C (Kd.int .i64) w A0_2 l0_2.length l0_2) (hc0_2 : l0_2.length ≤ c0_2) (h : laws_FnExactCompleteChart.f k a0_0 a0_1 l0_2 a1 = some true) :
  Calls Try.prog 5 #[.agg #[.int .i64 a0_0, .int .i64 a0_1, .slice A0_2 l0_2.length c0_2], .int .i64 a1] w fun e w' => e = .returned (.bool true) ∧ Below w.heap.size w w' := by
 obtain ⟨r, hrt_⟩ : ∃ r : Bool, true = r := ⟨true, rfl⟩
 rw [hrt_] at h ⊢
 have HRT := Aside0.mk hrt_.symm
 clear hrt_
 have hu24 := Try.underlying24
 have hu26 := Try.underlying26
 have HR0_2 := Aside0.mk hr0_2
 have HC0_2 := Aside0.mk hc0_2
 clear hr0_2 hc0_2
 have HB := Aside0.mk (Below.refl w.heap.size w)
 have H : ((laws_szChart.f a0_0 a0_1 l0_2 1048576).bind fun t419 => (if t419 < 0 then (some true) else ((laws_toChart.f k a0_0 a0_1 l0_2).bind fun bt420 => ((spec_CompleteChart.f k bt420.1 bt420.2.1 bt420.2.2 a1).bind fun bt425 => ((laws_toChart.f k a0_0 a0_1 l0_2).bind fun bt432 => ((impl_CompleteChart.f k bt432.1 bt432.2.1 bt432.2.2 a1).bind fun bt438 => ((laws_eqChart.f k bt438.1 bt438.2.1 bt438.2.2.1 bt425.1 bt425.2.1 bt425.2.2.1).bind fun t445 => (if t445 = true then (laws_FnExactCompleteChart.j0 k a1 bt425.2.2.2 bt438.2.2.2 (bt438.2.2.2 != bt425.2.2.2) a0_0 a0_1 l0_2 bt425.1 bt425.2.1 bt425.2.2.1 bt432.1 bt432.2.1 bt432.2.2 bt438.1 bt438.2.1 bt438.2.2.1) else (laws_FnExactCompleteChart.j0 k a1 bt425.2.2.2 bt438.2.2.2 true a0_0 a0_1 l0_2 bt425.1 bt425.2.1 bt425.2.2.1 bt432.1 bt432.2.1 bt432.2.2 bt438.1 bt438.2.1 bt438.2.2.1))))))))) = some r := h
 clear h
 replace H := Option.bind_eq_some_iff.mp H
 obtain ⟨t419, A30, H⟩ := H
 replace H : (if t419 < 0 then (some true) else ((laws_toChart.f k a0_0 a0_1 l0_2).bind fun bt420 => ((spec_CompleteChart.f k bt420.1 bt420.2.1 bt420.2.2 a1).bind fun bt425 => ((laws_toChart.f k a0_0 a0_1 l0_2).bind fun bt432 => ((impl_CompleteChart.f k bt432.1 bt432.2.1 bt432.2.2 a1).bind fun bt438 => ((laws_eqChart.f k bt438.1 bt438.2.1 bt438.2.2.1 bt425.1 bt425.2.1 bt425.2.2.1).bind fun t445 => (if t445 = true then (laws_FnExactCompleteChart.j0 k a1 bt425.2.2.2 bt438.2.2.2 (bt438.2.2.2 != bt425.2.2.2) a0_0 a0_1 l0_2 bt425.1 bt425.2.1 bt425.2.2.1 bt432.1 bt432.2.1 bt432.2.2 bt438.1 bt438.2.1 bt438.2.2.1) else (laws_FnExactCompleteChart.j0 k a1 bt425.2.2.2 bt438.2.2.2 true a0_0 a0_1 l0_2 bt425.1 bt425.2.1 bt425.2.2.1 bt432.1 bt432.2.1 bt432.2.2 bt438.1 bt438.2.1 bt438.2.2.1)))))))) = some r := H
 have A3 := Aside0.mk A30
 clear A30
 by_cases c4 : t419 < 0
 ·rw [if_pos c4] at H
  have c4b0 : decide (t419 < 0) = true := decide_eq_true c4
  clear c4
  obtain rfl := Option.some.inj H
  go_enter Try.func5, Try.ntmps5
  go_wp2_with (first | ((with_reducible refine gate_dst (N := 2) rfl ?_); refine box_ (N := 2) (cs := #[.int .i64 a0_0, .int .i64 a0_1, .slice A0_2 l0_2.length c0_2]) (t := 24) ?_; intro gb418 hg w5 hbox hb; have BK418 := Aside0.mk (hbox); have GW418 := gz_ w hg; have GE418 := gz_ w hg; replace HB := Aside0.mk (below_step (bw_ w) hb); clear hb hbox hg; obtain ⟨hcz6_0, hcz6_1, hcz6_2, hfz6_0, hfz6_1, hfz6_2⟩ := bc3_ (w := w5) BK418) | ((with_reducible refine gate_callee (f := 14) rfl ?_); refine goesB (some 18) Try.func14 #[.agg #[.int .i64 a0_0, .int .i64 a0_1, .slice A0_2 l0_2.length c0_2], .int .i64 1048576] ?_; (with_reducible refine (laws_szChart.calls a0_0 a0_1 _ _ l0_2 1048576 t419 _ ?side1 ?side2 A3.out).mono ?_); (case side1 => exact cb_ HR0_2 HB); (case side2 => exact HC0_2.out); rintro e w7 ⟨rfl, hb⟩; refine ⟨_, rfl, ?_⟩; replace BK418 := bb_ BK418 hb; replace HB := Aside0.mk (below_step (bw_ w) hb); (try clear hb); (try clear hb2); (try clear hk); (try clear hi)))
  go_ret
  exact ⟨by first | rfl | (simp [errW_none, errW_some] <;> rfl) | (simp [*, errW_none, errW_some] <;> rfl), (bw_ w)⟩
 ·rw [if_neg c4] at H
  have c4b0 : decide (t419 < 0) = false := decide_eq_false c4
  clear c4
  replace H := Option.bind_eq_some_iff.mp H
  obtain ⟨⟨t420, t421, t422⟩, A80, H⟩ := H
  replace H : ((spec_CompleteChart.f k t420 t421 t422 a1).bind fun bt425 => ((laws_toChart.f k a0_0 a0_1 l0_2).bind fun bt432 => ((impl_CompleteChart.f k bt432.1 bt432.2.1 bt432.2.2 a1).bind fun bt438 => ((laws_eqChart.f k bt438.1 bt438.2.1 bt438.2.2.1 bt425.1 bt425.2.1 bt425.2.2.1).bind fun t445 => (if t445 = true then (laws_FnExactCompleteChart.j0 k a1 bt425.2.2.2 bt438.2.2.2 (bt438.2.2.2 != bt425.2.2.2) a0_0 a0_1 l0_2 bt425.1 bt425.2.1 bt425.2.2.1 bt432.1 bt432.2.1 bt432.2.2 bt438.1 bt438.2.1 bt438.2.2.1) else (laws_FnExactCompleteChart.j0 k a1 bt425.2.2.2 bt438.2.2.2 true a0_0 a0_1 l0_2 bt425.1 bt425.2.1 bt425.2.2.1 bt432.1 bt432.2.1 bt432.2.2 bt438.1 bt438.2.1 bt438.2.2.1)))))) = some r := H
  have A8 := Aside0.mk A80
  clear A80
  replace H := Option.bind_eq_some_iff.mp H
  obtain ⟨⟨t425, t426, t427, t430⟩, A90, H⟩ := H
  replace H : ((laws_toChart.f k a0_0 a0_1 l0_2).bind fun bt432 => ((impl_CompleteChart.f k bt432.1 bt432.2.1 bt432.2.2 a1).bind fun bt438 => ((laws_eqChart.f k bt438.1 bt438.2.1 bt438.2.2.1 t425 t426 t427).bind fun t445 => (if t445 = true then (laws_FnExactCompleteChart.j0 k a1 t430 bt438.2.2.2 (bt438.2.2.2 != t430) a0_0 a0_1 l0_2 t425 t426 t427 bt432.1 bt432.2.1 bt432.2.2 bt438.1 bt438.2.1 bt438.2.2.1) else (laws_FnExactCompleteChart.j0 k a1 t430 bt438.2.2.2 true a0_0 a0_1 l0_2 t425 t426 t427 bt432.1 bt432.2.1 bt432.2.2 bt438.1 bt438.2.1 bt438.2.2.1))))) = some r := H
  have A9 := Aside0.mk A90
  clear A90
  replace H := Option.bind_eq_some_iff.mp H
  obtain ⟨⟨t432, t433, t434⟩, A100, H⟩ := H
  replace H : ((impl_CompleteChart.f k t432 t433 t434 a1).bind fun bt438 => ((laws_eqChart.f k bt438.1 bt438.2.1 bt438.2.2.1 t425 t426 t427).bind fun t445 => (if t445 = true then (laws_FnExactCompleteChart.j0 k a1 t430 bt438.2.2.2 (bt438.2.2.2 != t430) a0_0 a0_1 l0_2 t425 t426 t427 t432 t433 t434 bt438.1 bt438.2.1 bt438.2.2.1) else (laws_FnExactCompleteChart.j0 k a1 t430 bt438.2.2.2 true a0_0 a0_1 l0_2 t425 t426 t427 t432 t433 t434 bt438.1 bt438.2.1 bt438.2.2.1)))) = some r := H
  have A10 := Aside0.mk A100
  clear A100
  replace H := Option.bind_eq_some_iff.mp H
  obtain ⟨⟨t438, t439, t440, t443⟩, A110, H⟩ := H
  replace H : ((laws_eqChart.f k t438 t439 t440 t425 t426 t427).bind fun t445 => (if t445 = true then (laws_FnExactCompleteChart.j0 k a1 t430 t443 (t443 != t430) a0_0 a0_1 l0_2 t425 t426 t427 t432 t433 t434 t438 t439 t440) else (laws_FnExactCompleteChart.j0 k a1 t430 t443 true a0_0 a0_1 l0_2 t425 t426 t427 t432 t433 t434 t438 t439 t440))) = some r := H
  have A11 := Aside0.mk A110
  clear A110
  have HC12 := Aside0.mk H
  clear H
  go_enter Try.func5, Try.ntmps5
  go_upto_region 8 with (first | ((with_reducible refine gate_dst (N := 2) rfl ?_); refine box_ (N := 2) (cs := #[.int .i64 a0_0, .int .i64 a0_1, .slice A0_2 l0_2.length c0_2]) (t := 24) ?_; intro gb418 hg w13 hbox hb; have BK418 := Aside0.mk (hbox); have GW418 := gz_ w hg; have GE418 := gz_ w hg; replace HB := Aside0.mk (below_step (bw_ w) hb); clear hb hbox hg; obtain ⟨hcz14_0, hcz14_1, hcz14_2, hfz14_0, hfz14_1, hfz14_2⟩ := bc3_ (w := w13) BK418) | ((with_reducible refine gate_callee (f := 14) rfl ?_); refine goesB (some 18) Try.func14 #[.agg #[.int .i64 a0_0, .int .i64 a0_1, .slice A0_2 l0_2.length c0_2], .int .i64 1048576] ?_; (with_reducible refine (laws_szChart.calls a0_0 a0_1 _ _ l0_2 1048576 t419 _ ?side1 ?side2 A3.out).mono ?_); (case side1 => exact cb_ HR0_2 HB); (case side2 => exact HC0_2.out); rintro e w15 ⟨rfl, hb⟩; refine ⟨_, rfl, ?_⟩; replace BK418 := bb_ BK418 hb; replace HB := Aside0.mk (below_step (bw_ w) hb); (try clear hb); (try clear hb2); (try clear hk); (try clear hi); obtain ⟨hcz16_0, hcz16_1, hcz16_2, hfz16_0, hfz16_1, hfz16_2⟩ := bc3_ (w := w15) BK418) | ((with_reducible refine gate_callee (f := 16) rfl ?_); refine goesB (some 23) Try.func16 #[.agg #[.int .i64 a0_0, .int .i64 a0_1, .slice A0_2 l0_2.length c0_2]] ?_; (with_reducible refine (laws_toChart.calls k a0_0 a0_1 _ _ l0_2 t420 t421 t422 _ ?side1 ?side2 A8.out).mono ?_); (case side1 => exact cb_ HR0_2 HB); (case side2 => exact HC0_2.out); rintro e w17 ⟨v423, rfl, ho0, hb⟩; refine ⟨_, rfl, ?_⟩; have HO424 := Aside0.mk (Kd.R_lower ho0 (below_size (bw_ w))); replace BK418 := bb_ BK418 hb; replace HB := Aside0.mk (below_step (bw_ w) hb); (try clear hb); (try clear hb2); (try clear hk); (try clear hi); (try clear ho0); obtain ⟨Ao18, co18, eo18⟩ := Kd.R_slice HO424.out; subst eo18) | ((with_reducible refine gate_callee (f := 23) rfl ?_); refine goesB (some 25) Try.func23 #[.agg #[.int .i64 t420, .int .i64 t421, .slice Ao18 t422.length co18], .int .i64 a1] ?_; (with_reducible refine (spec_CompleteChart.calls k t420 t421 _ _ t422 a1 t425 t426 t427 t430 _ ?side1 ?side2 A9.out).mono ?_); (case side1 => exact co_ (Kd.R_reads' HO424.out).2.2); (case side2 => exact (Kd.R_reads' HO424.out).2.1); rintro e w19 ⟨v428, rfl, ho0, hb⟩; refine ⟨_, rfl, ?_⟩; have n0_ := Aside0.mk (Kd.R_elder' (ra_ HO424) (Kd.R_base ho0) hb); have n1_ := Aside0.mk (Kd.R_lower (Kd.R_new' ho0 (Kd.R_lt (ra_ HO424))) (below_size (bw_ w))); have n2_ := bb_ BK418 hb; have n3_ := Aside0.mk (below_step (bw_ w) hb); clear HO424; clear BK418; clear HB; have HO424 := n0_; have HO429 := n1_; have BK418 := n2_; have HB := n3_; clear n0_ n1_ n2_ n3_; (try clear hb); (try clear hb2); (try clear hk); (try clear hi); (try clear ho0)) | ((with_reducible refine gate_dst (N := 6) rfl ?_); refine box_ (N := 6) (cs := #[.int .i64 0, .int .i64 0, .slice none 0 0]) (t := 26) ?_; intro gb431 hg w20 hbox hb; have n0_ := Aside0.mk (Kd.R_below (ra_ HO424) hb); have n1_ := Aside0.mk (Kd.R_below (ra_ HO429) hb); have n2_ := bb_ BK418 hb; have n3_ := Aside0.mk (below_step (bw_ w) hb); have n4_ := Aside0.mk (hbox); have n5_ := gz_ w hg; have n6_ := gz_ w hg; have n7_ := ne_ hg BK418; have n8_ := en_ hg BK418; clear HO424; clear HO429; clear BK418; clear HB; have HO424 := n0_; have HO429 := n1_; have BK418 := n2_; have HB := n3_; have BK431 := n4_; have GW431 := n5_; have GE431 := n6_; have NB418_431 := n7_; have NB431_418 := n8_; clear n0_ n1_ n2_ n3_ n4_ n5_ n6_ n7_ n8_; clear hb hbox hg; have hnb21 := NB431_418.out; have hnc21 := NB418_431.out; obtain ⟨hcz22_0, hcz22_1, hcz22_2, hfz22_0, hfz22_1, hfz22_2⟩ := bc3_ (w := w20) BK431; obtain ⟨Ao23, co23, eo23⟩ := Kd.R_slice HO429.out; subst eo23; obtain ⟨hcz24_0, hcz24_1, hcz24_2, hfz24_0, hfz24_1, hfz24_2⟩ := bc3_ (w := w20) BK418) | ((with_reducible refine gate_callee (f := 16) rfl ?_); refine goesB (some 29) Try.func16 #[.agg #[.int .i64 a0_0, .int .i64 a0_1, .slice A0_2 l0_2.length c0_2]] ?_; (with_reducible refine (laws_toChart.calls k a0_0 a0_1 _ _ l0_2 t432 t433 t434 _ ?side1 ?side2 A10.out).mono ?_); (case side1 => exact Kd.C_below HR0_2.out (bw_ w)); (case side2 => exact HC0_2.out); rintro e w25 ⟨v435, rfl, ho0, hb⟩; refine ⟨_, rfl, ?_⟩; have n0_ := Aside0.mk (Kd.R_elder' (by exact rf_ (Kd.R_types HO424.out BK431.out (by decide)) (fun _ h_ => h_.1)) (Kd.R_base ho0) hb); have n1_ := Aside0.mk (Kd.R_elder' (by exact rf_ (Kd.R_types HO429.out BK431.out (by decide)) (fun _ h_ => h_.1)) (Kd.R_base ho0) hb); have n2_ := Aside0.mk (Kd.R_lower (Kd.R_new' (Kd.R_new' ho0 (Kd.R_lt (by exact rf_ (Kd.R_types HO424.out BK431.out (by decide)) (fun _ h_ => h_.1)))) (Kd.R_lt (by exact rf_ (Kd.R_types HO429.out BK431.out (by decide)) (fun _ h_ => h_.1)))) (below_size (bw_ w))); have n3_ := bb_ BK418 hb; have n4_ := Aside0.mk (blk_below (g := gb431) (o := .cells #[.int .i64 t425, .int .i64 t426, .slice Ao23 t427.length co23] 26 (0, 0)) (bq_ BK431) hb); have n5_ := Aside0.mk (below_step (bw_ w) hb); clear HO424; clear HO429; clear BK418; clear BK431; clear HB; have HO424 := n0_; have HO429 := n1_; have HO436 := n2_; have BK418 := n3_; have BK431 := n4_; have HB := n5_; clear n0_ n1_ n2_ n3_ n4_ n5_; (try clear hb); (try clear hb2); (try clear hk); (try clear hi); (try clear ho0)) | ((with_reducible refine gate_dst (N := 8) rfl ?_); refine box_ (N := 8) (cs := #[.int .i64 0, .int .i64 0, .slice none 0 0]) (t := 26) ?_; intro gb437 hg w26 hbox hb; have n0_ := Aside0.mk (Kd.R_below (ra_ HO424) hb); have n1_ := Aside0.mk (Kd.R_below (ra_ HO429) hb); have n2_ := Aside0.mk (Kd.R_below (ra_ HO436) hb); have n3_ := bb_ BK418 hb; have n4_ := bb_ BK431 hb; have n5_ := Aside0.mk (below_step (bw_ w) hb); have n6_ := Aside0.mk (hbox); have n7_ := gz_ w hg; have n8_ := gz_ w hg; have n9_ := ne_ hg BK418; have n10_ := en_ hg BK418; have n11_ := ne_ hg BK431; have n12_ := en_ hg BK431; clear HO424; clear HO429; clear HO436; clear BK418; clear BK431; clear HB; have HO424 := n0_; have HO429 := n1_; have HO436 := n2_; have BK418 := n3_; have BK431 := n4_; have HB := n5_; have BK437 := n6_; have GW437 := n7_; have GE437 := n8_; have NB418_437 := n9_; have NB437_418 := n10_; have NB431_437 := n11_; have NB437_431 := n12_; clear n0_ n1_ n2_ n3_ n4_ n5_ n6_ n7_ n8_ n9_ n10_ n11_ n12_; clear hb hbox hg; have hnb27 := NB437_418.out; have hnc27 := NB418_437.out; have hnb28 := NB437_431.out; have hnc28 := NB431_437.out; obtain ⟨hcz29_0, hcz29_1, hcz29_2, hfz29_0, hfz29_1, hfz29_2⟩ := bc3_ (w := w26) BK437; obtain ⟨Ao30, co30, eo30⟩ := Kd.R_slice HO436.out; subst eo30) | ((with_reducible refine gate_callee (f := 24) rfl ?_); refine goesB (some 33) Try.func24 #[.agg #[.int .i64 t432, .int .i64 t433, .slice Ao30 t434.length co30], .int .i64 a1] ?_; (with_reducible refine (impl_CompleteChart.calls k t432 t433 _ _ t434 a1 t438 t439 t440 t443 _ ?side1 ?side2 A11.out).mono ?_); (case side1 => refine (Kd.R_reads' (e := 3) (base := w.heap.size) (ok := fun k_ => ((True ∧ some k_ ≠ (.slice Ao18 t422.length co18 : Value).ownBlock) ∧ some k_ ≠ (.slice Ao23 t427.length co23 : Value).ownBlock)) (n := t434.length) (c := co30) ?_).2.2; exact (by exact rf_ (Kd.R_types HO436.out BK437.out (by decide)) (fun _ h_ => h_.1))); (case side2 => exact (Kd.R_reads' HO436.out).2.1); rintro e w31 ⟨v441, rfl, ho0, hb⟩; refine ⟨_, rfl, ?_⟩; have n0_ := Aside0.mk (Kd.R_elder' (by exact rf_ (Kd.R_types HO424.out BK437.out (by decide)) (fun _ h_ => h_.1)) (Kd.R_base ho0) hb); have n1_ := Aside0.mk (Kd.R_elder' (by exact rf_ (Kd.R_types HO429.out BK437.out (by decide)) (fun _ h_ => h_.1)) (Kd.R_base ho0) hb); have n2_ := Aside0.mk (Kd.R_elder' (by exact rf_ (Kd.R_types HO436.out BK437.out (by decide)) (fun _ h_ => h_.1)) (Kd.R_base ho0) hb); have n3_ := Aside0.mk (Kd.R_lower (Kd.R_new' (Kd.R_new' (Kd.R_new' ho0 (Kd.R_lt (by exact rf_ (Kd.R_types HO424.out BK437.out (by decide)) (fun _ h_ => h_.1)))) (Kd.R_lt (by exact rf_ (Kd.R_types HO429.out BK437.out (by decide)) (fun _ h_ => h_.1)))) (Kd.R_lt (by exact rf_ (Kd.R_types HO436.out BK437.out (by decide)) (fun _ h_ => h_.1)))) (below_size (bw_ w))); have n4_ := bb_ BK418 hb; have n5_ := bb_ BK431 hb; have n6_ := Aside0.mk (blk_below (g := gb437) (o := .cells #[.int .i64 t432, .int .i64 t433, .slice Ao30 t434.length co30] 26 (0, 0)) (bq_ BK437) hb); have n7_ := Aside0.mk (below_step (bw_ w) hb); clear HO424; clear HO429; clear HO436; clear BK418; clear BK431; clear BK437; clear HB; have HO424 := n0_; have HO429 := n1_; have HO436 := n2_; have HO442 := n3_; have BK418 := n4_; have BK431 := n5_; have BK437 := n6_; have HB := n7_; clear n0_ n1_ n2_ n3_ n4_ n5_ n6_ n7_; (try clear hb); (try clear hb2); (try clear hk); (try clear hi); (try clear ho0)) | ((with_reducible refine gate_dst (N := 9) rfl ?_); refine box_ (N := 9) (cs := #[.int .i64 0, .int .i64 0, .slice none 0 0]) (t := 26) ?_; intro gb444 hg w32 hbox hb; have n0_ := Aside0.mk (Kd.R_below (ra_ HO424) hb); have n1_ := Aside0.mk (Kd.R_below (ra_ HO429) hb); have n2_ := Aside0.mk (Kd.R_below (ra_ HO436) hb); have n3_ := Aside0.mk (Kd.R_below (ra_ HO442) hb); have n4_ := bb_ BK418 hb; have n5_ := bb_ BK431 hb; have n6_ := bb_ BK437 hb; have n7_ := Aside0.mk (below_step (bw_ w) hb); have n8_ := Aside0.mk (hbox); have n9_ := gz_ w hg; have n10_ := gz_ w hg; have n11_ := ne_ hg BK418; have n12_ := en_ hg BK418; have n13_ := ne_ hg BK431; have n14_ := en_ hg BK431; have n15_ := ne_ hg BK437; have n16_ := en_ hg BK437; clear HO424; clear HO429; clear HO436; clear HO442; clear BK418; clear BK431; clear BK437; clear HB; have HO424 := n0_; have HO429 := n1_; have HO436 := n2_; have HO442 := n3_; have BK418 := n4_; have BK431 := n5_; have BK437 := n6_; have HB := n7_; have BK444 := n8_; have GW444 := n9_; have GE444 := n10_; have NB418_444 := n11_; have NB444_418 := n12_; have NB431_444 := n13_; have NB444_431 := n14_; have NB437_444 := n15_; have NB444_437 := n16_; clear n0_ n1_ n2_ n3_ n4_ n5_ n6_ n7_ n8_ n9_ n10_ n11_ n12_ n13_ n14_ n15_ n16_; clear hb hbox hg; have hnb33 := NB444_418.out; have hnc33 := NB418_444.out; have hnb34 := NB444_431.out; have hnc34 := NB431_444.out; have hnb35 := NB444_437.out; have hnc35 := NB437_444.out; obtain ⟨hcz36_0, hcz36_1, hcz36_2, hfz36_0, hfz36_1, hfz36_2⟩ := bc3_ (w := w32) BK444; obtain ⟨Ao37, co37, eo37⟩ := Kd.R_slice HO442.out; subst eo37))
  (try simp only [Act.put, List.setIfInBounds_toArray, List.set_cons_zero, List.set_cons_succ])
  go_cut [44] (fun v44 wc => ∃ (kq : Nat) (x44_11 : Bool), v44 = .bool x44_11 ∧ Aside0 (laws_FnExactCompleteChart.j0 kq a1 t430 t443 x44_11 a0_0 a0_1 l0_2 t425 t426 t427 t432 t433 t434 t438 t439 t440 = some r) ∧ Aside0 (kq ≤ k) ∧ Aside0 (Kd.R (Kd.int .i64) 3 wc w.heap.size (fun k_ => some k_ ≠ ((.slice Ao30 t434.length co30) : Value).ownBlock ∧ some k_ ≠ ((.slice Ao37 t440.length co37) : Value).ownBlock) (.slice Ao23 t427.length co23) t427) ∧ Aside0 (Kd.R (Kd.int .i64) 3 wc w.heap.size (fun k_ => some k_ ≠ ((.slice Ao23 t427.length co23) : Value).ownBlock ∧ some k_ ≠ ((.slice Ao37 t440.length co37) : Value).ownBlock) (.slice Ao30 t434.length co30) t434) ∧ Aside0 (Kd.R (Kd.int .i64) 3 wc w.heap.size (fun k_ => some k_ ≠ ((.slice Ao23 t427.length co23) : Value).ownBlock ∧ some k_ ≠ ((.slice Ao30 t434.length co30) : Value).ownBlock) (.slice Ao37 t440.length co37) t440) ∧ Aside0 (wc.heap[gb418]? = some (.cells #[.int .i64 a0_0, .int .i64 a0_1, (.slice A0_2 l0_2.length c0_2)] 24 (0, 0))) ∧ Aside0 (wc.heap[gb431]? = some (.cells #[.int .i64 t425, .int .i64 t426, (.slice Ao23 t427.length co23)] 26 (0, 0))) ∧ Aside0 (wc.heap[gb437]? = some (.cells #[.int .i64 t432, .int .i64 t433, (.slice Ao30 t434.length co30)] 26 (0, 0))) ∧ Aside0 (wc.heap[gb444]? = some (.cells #[.int .i64 t438, .int .i64 t439, (.slice Ao37 t440.length co37)] 26 (0, 0))) ∧ Aside0 (Below w.heap.size w wc))
  case first =>
   have H := HC12.out
   clear HC12
   replace H := Option.bind_eq_some_iff.mp H
   obtain ⟨t445, A380, H⟩ := H
   replace H : (if t445 = true then (laws_FnExactCompleteChart.j0 k a1 t430 t443 (t443 != t430) a0_0 a0_1 l0_2 t425 t426 t427 t432 t433 t434 t438 t439 t440) else (laws_FnExactCompleteChart.j0 k a1 t430 t443 true a0_0 a0_1 l0_2 t425 t426 t427 t432 t433 t434 t438 t439 t440)) = some r := H
   have A38 := Aside0.mk A380
   clear A380
   by_cases c39 : t445 = true
   ·subst c39
    have H1 : (laws_FnExactCompleteChart.j0 k a1 t430 t443 (t443 != t430) a0_0 a0_1 l0_2 t425 t426 t427 t432 t433 t434 t438 t439 t440) = some r := by rw [if_pos rfl] at H; exact H
    clear H
    have H := H1
    clear H1
    have H' := Aside0.mk H
    clear H
    have hnb40 := NB444_418.out
    have hnc40 := NB418_444.out
    have hnb41 := NB444_431.out
    have hnc41 := NB431_444.out
    have hnb42 := NB444_437.out
    have hnc42 := NB437_444.out
    obtain ⟨hcz43_0, hcz43_1, hcz43_2, hfz43_0, hfz43_1, hfz43_2⟩ := bc3_ (w := w32) BK444
    have hnb44 := NB431_418.out
    have hnc44 := NB418_431.out
    have hnb45 := NB431_437.out
    have hnc45 := NB437_431.out
    obtain ⟨hcz46_0, hcz46_1, hcz46_2, hfz46_0, hfz46_1, hfz46_2⟩ := bc3_ (w := w32) BK431
    go_wp2_with (first | ((with_reducible refine gate_callee (f := 18) rfl ?_); refine goesB (some 38) Try.func18 #[.agg #[.int .i64 t438, .int .i64 t439, .slice Ao37 t440.length co37], .agg #[.int .i64 t425, .int .i64 t426, .slice Ao23 t427.length co23]] ?_; (with_reducible refine (laws_eqChart.calls k t438 t439 _ _ t440 t425 t426 _ _ t427 true _ ?side1 ?side2 ?side3 ?side4 A38.out).mono ?_); (case side1 => refine (Kd.R_reads' (e := 3) (base := w.heap.size) (ok := fun k_ => (((True ∧ some k_ ≠ (.slice Ao18 t422.length co18 : Value).ownBlock) ∧ some k_ ≠ (.slice Ao23 t427.length co23 : Value).ownBlock) ∧ some k_ ≠ (.slice Ao30 t434.length co30 : Value).ownBlock)) (n := t440.length) (c := co37) ?_).2.2; exact (by exact rf_ (Kd.R_types HO442.out BK444.out (by decide)) (fun _ h_ => h_.1))); (case side2 => exact (Kd.R_reads' HO442.out).2.1); (case side3 => refine (Kd.R_reads' (e := 3) (base := w.heap.size) (ok := fun k_ => (((True ∧ some k_ ≠ (.slice Ao18 t422.length co18 : Value).ownBlock) ∧ some k_ ≠ (.slice Ao30 t434.length co30 : Value).ownBlock) ∧ some k_ ≠ (.slice Ao37 t440.length co37 : Value).ownBlock)) (n := t427.length) (c := co23) ?_).2.2; exact (by exact rf_ (Kd.R_types HO429.out BK444.out (by decide)) (fun _ h_ => h_.1))); (case side4 => exact (Kd.R_reads' HO429.out).2.1); rintro e w47 ⟨rfl, hb⟩; refine ⟨_, rfl, ?_⟩; replace HO424 := Aside0.mk (Kd.R_below (by exact rf_ (Kd.R_types HO424.out BK444.out (by decide)) (fun _ h_ => h_.1)) hb); replace HO429 := Aside0.mk (Kd.R_below (by exact rf_ (Kd.R_types HO429.out BK444.out (by decide)) (fun _ h_ => h_.1)) hb); replace HO436 := Aside0.mk (Kd.R_below (by exact rf_ (Kd.R_types HO436.out BK444.out (by decide)) (fun _ h_ => h_.1)) hb); replace HO442 := Aside0.mk (Kd.R_below (by exact rf_ (Kd.R_types HO442.out BK444.out (by decide)) (fun _ h_ => h_.1)) hb); replace BK418 := bb_ BK418 hb; replace BK431 := bb_ BK431 hb; replace BK437 := bb_ BK437 hb; replace BK444 := Aside0.mk (blk_below (g := gb444) (o := .cells #[.int .i64 t438, .int .i64 t439, .slice Ao37 t440.length co37] 26 (0, 0)) (bq_ BK444) hb); replace HB := Aside0.mk (below_step (bw_ w) hb); (try clear hb); (try clear hb2); (try clear hk); (try clear hi)))
    go_meet
    case rel => exact ⟨_, ((t443 != t430)), (by first | rfl | (simp; done) | (simp [*]; done)), H', ⟨by first | omega | exact Nat.le_refl _⟩, ⟨by exact rf_ HO429.out (fun _ hk => ⟨hk.1.2, hk.2⟩)⟩, ⟨by exact rf_ HO436.out (fun _ hk => ⟨hk.1.2, hk.2⟩)⟩, ⟨by exact rf_ HO442.out (fun _ hk => ⟨hk.1.2, hk.2⟩)⟩, ⟨bk_ BK418⟩, ⟨bk_ BK431⟩, ⟨bk_ BK437⟩, ⟨bk_ BK444⟩, ⟨(bw_ w)⟩⟩
   ·replace c39 := Bool.eq_false_iff.mpr c39
    subst c39
    have H1 : (laws_FnExactCompleteChart.j0 k a1 t430 t443 true a0_0 a0_1 l0_2 t425 t426 t427 t432 t433 t434 t438 t439 t440) = some r := by rw [if_neg (show ¬ (false = true) by decide)] at H; exact H
    clear H
    have H := H1
    clear H1
    have H' := Aside0.mk H
    clear H
    have hnb48 := NB444_418.out
    have hnc48 := NB418_444.out
    have hnb49 := NB444_431.out
    have hnc49 := NB431_444.out
    have hnb50 := NB444_437.out
    have hnc50 := NB437_444.out
    obtain ⟨hcz51_0, hcz51_1, hcz51_2, hfz51_0, hfz51_1, hfz51_2⟩ := bc3_ (w := w32) BK444
    have hnb52 := NB431_418.out
    have hnc52 := NB418_431.out
    have hnb53 := NB431_437.out
    have hnc53 := NB437_431.out
    obtain ⟨hcz54_0, hcz54_1, hcz54_2, hfz54_0, hfz54_1, hfz54_2⟩ := bc3_ (w := w32) BK431
    go_wp2_with (first | ((with_reducible refine gate_callee (f := 18) rfl ?_); refine goesB (some 38) Try.func18 #[.agg #[.int .i64 t438, .int .i64 t439, .slice Ao37 t440.length co37], .agg #[.int .i64 t425, .int .i64 t426, .slice Ao23 t427.length co23]] ?_; (with_reducible refine (laws_eqChart.calls k t438 t439 _ _ t440 t425 t426 _ _ t427 false _ ?side1 ?side2 ?side3 ?side4 A38.out).mono ?_); (case side1 => refine (Kd.R_reads' (e := 3) (base := w.heap.size) (ok := fun k_ => (((True ∧ some k_ ≠ (.slice Ao18 t422.length co18 : Value).ownBlock) ∧ some k_ ≠ (.slice Ao23 t427.length co23 : Value).ownBlock) ∧ some k_ ≠ (.slice Ao30 t434.length co30 : Value).ownBlock)) (n := t440.length) (c := co37) ?_).2.2; exact (by exact rf_ (Kd.R_types HO442.out BK444.out (by decide)) (fun _ h_ => h_.1))); (case side2 => exact (Kd.R_reads' HO442.out).2.1); (case side3 => refine (Kd.R_reads' (e := 3) (base := w.heap.size) (ok := fun k_ => (((True ∧ some k_ ≠ (.slice Ao18 t422.length co18 : Value).ownBlock) ∧ some k_ ≠ (.slice Ao30 t434.length co30 : Value).ownBlock) ∧ some k_ ≠ (.slice Ao37 t440.length co37 : Value).ownBlock)) (n := t427.length) (c := co23) ?_).2.2; exact (by exact rf_ (Kd.R_types HO429.out BK444.out (by decide)) (fun _ h_ => h_.1))); (case side4 => exact (Kd.R_reads' HO429.out).2.1); rintro e w55 ⟨rfl, hb⟩; refine ⟨_, rfl, ?_⟩; replace HO424 := Aside0.mk (Kd.R_below (by exact rf_ (Kd.R_types HO424.out BK444.out (by decide)) (fun _ h_ => h_.1)) hb); replace HO429 := Aside0.mk (Kd.R_below (by exact rf_ (Kd.R_types HO429.out BK444.out (by decide)) (fun _ h_ => h_.1)) hb); replace HO436 := Aside0.mk (Kd.R_below (by exact rf_ (Kd.R_types HO436.out BK444.out (by decide)) (fun _ h_ => h_.1)) hb); replace HO442 := Aside0.mk (Kd.R_below (by exact rf_ (Kd.R_types HO442.out BK444.out (by decide)) (fun _ h_ => h_.1)) hb); replace BK418 := bb_ BK418 hb; replace BK431 := bb_ BK431 hb; replace BK437 := bb_ BK437 hb; replace BK444 := Aside0.mk (blk_below (g := gb444) (o := .cells #[.int .i64 t438, .int .i64 t439, .slice Ao37 t440.length co37] 26 (0, 0)) (bq_ BK444) hb); replace HB := Aside0.mk (below_step (bw_ w) hb); (try clear hb); (try clear hb2); (try clear hk); (try clear hi)))
    go_meet
    case rel => exact ⟨_, (true), (by first | rfl | (simp; done) | (simp [*]; done)), H', ⟨by first | omega | exact Nat.le_refl _⟩, ⟨by exact rf_ HO429.out (fun _ hk => ⟨hk.1.2, hk.2⟩)⟩, ⟨by exact rf_ HO436.out (fun _ hk => ⟨hk.1.2, hk.2⟩)⟩, ⟨by exact rf_ HO442.out (fun _ hk => ⟨hk.1.2, hk.2⟩)⟩, ⟨bk_ BK418⟩, ⟨bk_ BK431⟩, ⟨bk_ BK437⟩, ⟨bk_ BK444⟩, ⟨(bw_ w)⟩⟩
  case rest =>
   clear HC12
   try clear c1
   try clear c2
   try clear p2
   try clear c3
   try clear c4
   try clear c4b0
   try clear c5
   try clear c14
   try clear c16
   try clear c18
   try clear c21
   try clear c23
   try clear c24
   try clear c27
   try clear c28
   try clear c33
   try clear c34
   try clear c35
   try clear c39
   try clear c40
   try clear c41
   try clear c42
   try clear c44
   try clear c45
   try clear c48
   try clear c49
   try clear c50
   try clear c52
   try clear c53
   try clear hcz14_0
   try clear hcz14_1
   try clear hcz14_2
   try clear hcz16_0
   try clear hcz16_1
   try clear hcz16_2
   try clear hcz22_0
   try clear hcz22_1
   try clear hcz22_2
   try clear hcz24_0
   try clear hcz24_1
   try clear hcz24_2
   try clear hcz29_0
   try clear hcz29_1
   try clear hcz29_2
   try clear hcz36_0
   try clear hcz36_1
   try clear hcz36_2
   try clear hcz43_0
   try clear hcz43_1
   try clear hcz43_2
   try clear hcz46_0
   try clear hcz46_1
   try clear hcz46_2
   try clear hcz51_0
   try clear hcz51_1
   try clear hcz51_2
   try clear hcz54_0
   try clear hcz54_1
   try clear hcz54_2
   try clear hcz6_0
   try clear hcz6_1
   try clear hcz6_2
   try clear hfz14_0
   try clear hfz14_1
   try clear hfz14_2
   try clear hfz16_0
   try clear hfz16_1
   try clear hfz16_2
   try clear hfz22_0
   try clear hfz22_1
   try clear hfz22_2
   try clear hfz24_0
   try clear hfz24_1
   try clear hfz24_2
   try clear hfz29_0
   try clear hfz29_1
   try clear hfz29_2
   try clear hfz36_0
   try clear hfz36_1
   try clear hfz36_2
   try clear hfz43_0
   try clear hfz43_1
   try clear hfz43_2
   try clear hfz46_0
   try clear hfz46_1
   try clear hfz46_2
   try clear hfz51_0
   try clear hfz51_1
   try clear hfz51_2
   try clear hfz54_0
   try clear hfz54_1
   try clear hfz54_2
   try clear hfz6_0
   try clear hfz6_1
   try clear hfz6_2
   obtain ⟨kq, x44_11, rfl, HA, HJ11, HO_432002, HO_438002, HO_445002, BK418, BK431, BK437, BK444, HB⟩ := hcut
   cases kq with
   | zero => exact absurd HA.out (by simp [laws_FnExactCompleteChart.j0])
   | succ kj11 =>
    have H := HA.out
    clear HA
    simp only [laws_FnExactCompleteChart.j0] at H
    by_cases c56 : x44_11 = true
    ·subst c56
     have H1 : (some false) = some r := by rw [if_pos rfl] at H; exact H
     clear H
     have H := H1
     clear H1
     exact absurd (H.trans (congrArg some HRT.out)) (by simp)
    ·replace c56 := Bool.eq_false_iff.mpr c56
     subst c56
     have H1 : ((laws_toChart.f kj11 a0_0 a0_1 l0_2).bind fun bt446 => ((laws_eqChart.f kj11 t432 t433 t434 bt446.1 bt446.2.1 bt446.2.2).bind fun t451 => (if t451 = true then ((laws_markChart.f kj11 t432 t433 t434 1).bind fun bt452 => (if bt452.1 < 0 then (laws_FnExactCompleteChart.j1 kj11 a1 t430 true a0_0 a0_1 l0_2 t425 t426 t427 t438 t439 t440) else ((laws_eqChart.f kj11 t438 t439 t440 t425 t426 t427).bind fun t454 => (if t454 = true then (laws_FnExactCompleteChart.j1 kj11 a1 t430 (t443 != t430) a0_0 a0_1 l0_2 t425 t426 t427 t438 t439 t440) else (laws_FnExactCompleteChart.j1 kj11 a1 t430 true a0_0 a0_1 l0_2 t425 t426 t427 t438 t439 t440))))) else (some false)))) = some r := by rw [if_neg (show ¬ (false = true) by decide)] at H; exact H
     clear H
     have H := H1
     clear H1
     replace H := Option.bind_eq_some_iff.mp H
     obtain ⟨⟨t446, t447, t448⟩, A570, H⟩ := H
     replace H : ((laws_eqChart.f kj11 t432 t433 t434 t446 t447 t448).bind fun t451 => (if t451 = true then ((laws_markChart.f kj11 t432 t433 t434 1).bind fun bt452 => (if bt452.1 < 0 then (laws_FnExactCompleteChart.j1 kj11 a1 t430 true a0_0 a0_1 l0_2 t425 t426 t427 t438 t439 t440) else ((laws_eqChart.f kj11 t438 t439 t440 t425 t426 t427).bind fun t454 => (if t454 = true then (laws_FnExactCompleteChart.j1 kj11 a1 t430 (t443 != t430) a0_0 a0_1 l0_2 t425 t426 t427 t438 t439 t440) else (laws_FnExactCompleteChart.j1 kj11 a1 t430 true a0_0 a0_1 l0_2 t425 t426 t427 t438 t439 t440))))) else (some false))) = some r := H
     have A57 := Aside0.mk A570
     clear A570
     replace H := Option.bind_eq_some_iff.mp H
     obtain ⟨t451, A580, H⟩ := H
     replace H : (if t451 = true then ((laws_markChart.f kj11 t432 t433 t434 1).bind fun bt452 => (if bt452.1 < 0 then (laws_FnExactCompleteChart.j1 kj11 a1 t430 true a0_0 a0_1 l0_2 t425 t426 t427 t438 t439 t440) else ((laws_eqChart.f kj11 t438 t439 t440 t425 t426 t427).bind fun t454 => (if t454 = true then (laws_FnExactCompleteChart.j1 kj11 a1 t430 (t443 != t430) a0_0 a0_1 l0_2 t425 t426 t427 t438 t439 t440) else (laws_FnExactCompleteChart.j1 kj11 a1 t430 true a0_0 a0_1 l0_2 t425 t426 t427 t438 t439 t440))))) else (some false)) = some r := H
     have A58 := Aside0.mk A580
     clear A580
     by_cases c59 : t451 = true
     ·subst c59
      have H1 : ((laws_markChart.f kj11 t432 t433 t434 1).bind fun bt452 => (if bt452.1 < 0 then (laws_FnExactCompleteChart.j1 kj11 a1 t430 true a0_0 a0_1 l0_2 t425 t426 t427 t438 t439 t440) else ((laws_eqChart.f kj11 t438 t439 t440 t425 t426 t427).bind fun t454 => (if t454 = true then (laws_FnExactCompleteChart.j1 kj11 a1 t430 (t443 != t430) a0_0 a0_1 l0_2 t425 t426 t427 t438 t439 t440) else (laws_FnExactCompleteChart.j1 kj11 a1 t430 true a0_0 a0_1 l0_2 t425 t426 t427 t438 t439 t440))))) = some r := by rw [if_pos rfl] at H; exact H
      clear H
      have H := H1
      clear H1
      replace H := Option.bind_eq_some_iff.mp H
      obtain ⟨⟨t452, t453⟩, A600, H⟩ := H
      replace H : (if t452 < 0 then (laws_FnExactCompleteChart.j1 kj11 a1 t430 true a0_0 a0_1 l0_2 t425 t426 t427 t438 t439 t440) else ((laws_eqChart.f kj11 t438 t439 t440 t425 t426 t427).bind fun t454 => (if t454 = true then (laws_FnExactCompleteChart.j1 kj11 a1 t430 (t443 != t430) a0_0 a0_1 l0_2 t425 t426 t427 t438 t439 t440) else (laws_FnExactCompleteChart.j1 kj11 a1 t430 true a0_0 a0_1 l0_2 t425 t426 t427 t438 t439 t440)))) = some r := H
      have A60 := Aside0.mk A600
      clear A600
      have HC61 := Aside0.mk H
      clear H
      try go_wp2
      replace HO_432002 := Aside0.mk (Kd.R_drew HO_432002.out)
      replace HO_438002 := Aside0.mk (Kd.R_drew HO_438002.out)
      replace HO_445002 := Aside0.mk (Kd.R_drew HO_445002.out)
      replace BK418 := Aside0.mk (blk_drew BK418.out)
      replace BK431 := Aside0.mk (blk_drew BK431.out)
      replace BK437 := Aside0.mk (blk_drew BK437.out)
      replace BK444 := Aside0.mk (blk_drew BK444.out)
      replace HB := Aside0.mk (below_drew1 HB.out)
      refine start_ (n := 5) (S := fun w' => w'.cell? ⟨gb437, 0, none⟩ = some (.int .i64 t432) ∧ w'.cell? ⟨gb437, 1, none⟩ = some (.int .i64 t433) ∧ w'.cell? ⟨gb437, 2, none⟩ = some (.slice Ao30 t434.length co30) ∧ w'.cell? ⟨gb418, 0, none⟩ = some (.int .i64 a0_0) ∧ w'.cell? ⟨gb418, 1, none⟩ = some (.int .i64 a0_1) ∧ w'.cell? ⟨gb418, 2, none⟩ = some (.slice A0_2 l0_2.length c0_2)) (ds := []) #[false, false, false, false, false] (by kernel_rfl) rfl rfl ⟨bc_ BK437 0, bc_ BK437 1, bc_ BK437 2, bc_ BK418 0, bc_ BK418 1, bc_ BK418 2⟩ (fun hHeld => ?_)
      generalize wc.drew = w62 at HO_432002 HO_438002 HO_445002 BK418 BK431 BK437 BK444 HB hHeld ⊢
      refine take_ (i := 0) (N := some 45) (v := ?_) (a' := ?_) #[true, false, false, false, false] rfl rfl (by kernel_rfl) (fun _ _ _ h => h) (Or.inl ⟨by rfl, ?_⟩) hHeld ?_ ?_
      rotate_left
      ·rintro w' ⟨s0, s1, s2, s3, s4, s5⟩
       go_simp
       with_reducible rfl
      rotate_left
      ·simp only [Act.put, List.setIfInBounds_toArray, List.set_cons_zero, List.set_cons_succ, i64_w, i32_w]
       rfl
      refine take_ (i := 1) (N := some 46) (v := ?_) (a' := ?_) #[true, true, false, false, false] rfl rfl (by kernel_rfl) (fun _ _ _ h => h) (Or.inl ⟨by rfl, ?_⟩) hHeld ?_ ?_
      rotate_left
      ·rintro w' ⟨s0, s1, s2, s3, s4, s5⟩
       go_simp
       with_reducible rfl
      rotate_left
      ·simp only [Act.put, List.setIfInBounds_toArray, List.set_cons_zero, List.set_cons_succ, i64_w, i32_w]
       rfl
      refine one_ (i := 2) (N := some 47) #[true, true, true, false, false] rfl rfl (by kernel_rfl) (by decide) (fun K hK => ?_)
      refine goesA Try.func16 #[.agg #[.int .i64 a0_0, .int .i64 a0_1, .slice A0_2 l0_2.length c0_2]] ?_
      with_reducible refine (laws_toChart.calls kj11 a0_0 a0_1 _ _ l0_2 t446 t447 t448 _ ?side1 ?side2 A57.out).mono ?_
      (case side1 => exact cb_ HR0_2 HB)
      (case side2 => exact HC0_2.out)
      rintro e w63 ⟨v449, rfl, ho0, hb⟩
      refine ⟨_, rfl, ?_⟩
      have n0_ := Aside0.mk (Kd.R_elder' (ra_ HO_432002) (Kd.R_base ho0) hb)
      have n1_ := Aside0.mk (Kd.R_elder' (ra_ HO_438002) (Kd.R_base ho0) hb)
      have n2_ := Aside0.mk (Kd.R_elder' (ra_ HO_445002) (Kd.R_base ho0) hb)
      have n3_ := Aside0.mk (Kd.R_lower (Kd.R_new' (Kd.R_new' (Kd.R_new' ho0 (Kd.R_lt (ra_ HO_432002))) (Kd.R_lt (ra_ HO_438002))) (Kd.R_lt (ra_ HO_445002))) (below_size (bw_ w)))
      have n4_ := bb_ BK418 hb
      have n5_ := bb_ BK431 hb
      have n6_ := bb_ BK437 hb
      have n7_ := bb_ BK444 hb
      have n8_ := Aside0.mk (below_step (bw_ w) hb)
      clear HO_432002
      clear HO_438002
      clear HO_445002
      clear BK418
      clear BK431
      clear BK437
      clear BK444
      clear HB
      have HO_432002 := n0_
      have HO_438002 := n1_
      have HO_445002 := n2_
      have HO450 := n3_
      have BK418 := n4_
      have BK431 := n5_
      have BK437 := n6_
      have BK444 := n7_
      have HB := n8_
      clear n0_ n1_ n2_ n3_ n4_ n5_ n6_ n7_ n8_
      (try clear hb)
      (try clear hb2)
      (try clear hk)
      (try clear hi)
      (try clear ho0)
      obtain ⟨Ao64, co64, eo64⟩ := Kd.R_slice HO450.out
      (first | subst eo64 | (injection eo64 with f1_ f2_ f3_; have f4_ := f1_.symm; have f5_ := f3_.symm; clear f1_ f2_ f3_; subst f4_; subst f5_))
      refine hK.out _ _ ⟨bc_ BK437 0, bc_ BK437 1, bc_ BK437 2, bc_ BK418 0, bc_ BK418 1, bc_ BK418 2⟩ (fun hHeld => ?_)
      clear hK K
      refine normA (N := some 47) ?_
      refine one_ (i := 3) (N := some 48) #[true, true, true, true, false] rfl rfl (by kernel_rfl) (by decide) (fun K hK => ?_)
      refine goesA Try.func18 #[.agg #[.int .i64 t432, .int .i64 t433, .slice Ao30 t434.length co30], .agg #[.int .i64 t446, .int .i64 t447, .slice Ao64 t448.length co64]] ?_
      with_reducible refine (laws_eqChart.calls kj11 t432 t433 _ _ t434 t446 t447 _ _ t448 true _ ?side1 ?side2 ?side3 ?side4 A58.out).mono ?_
      (case side1 => exact co_ (Kd.R_reads' HO_438002.out).2.2)
      (case side2 => exact (Kd.R_reads' HO_438002.out).2.1)
      (case side3 => exact co_ (Kd.R_reads' HO450.out).2.2)
      (case side4 => exact (Kd.R_reads' HO450.out).2.1)
      rintro e w65 ⟨rfl, hb⟩
      refine ⟨_, rfl, ?_⟩
      replace HO_432002 := Aside0.mk (Kd.R_below (ra_ HO_432002) hb)
      replace HO_438002 := Aside0.mk (Kd.R_below (ra_ HO_438002) hb)
      replace HO_445002 := Aside0.mk (Kd.R_below (ra_ HO_445002) hb)
      replace HO450 := Aside0.mk (Kd.R_below (ra_ HO450) hb)
      replace BK418 := bb_ BK418 hb
      replace BK431 := bb_ BK431 hb
      replace BK437 := bb_ BK437 hb
      replace BK444 := bb_ BK444 hb
      replace HB := Aside0.mk (below_step (bw_ w) hb)
      (try clear hb)
      (try clear hb2)
      (try clear hk)
      (try clear hi)
      refine hK.out _ _ ⟨bc_ BK437 0, bc_ BK437 1, bc_ BK437 2, bc_ BK418 0, bc_ BK418 1, bc_ BK418 2⟩ (fun hHeld => ?_)
      clear hK K
      refine normA (N := some 48) ?_
      refine pureK (N := some 49) 4 ?_
      refine done_ (by kernel_rfl) ?_
      have hnb66 := NB437_418.out
      have hnc66 := NB418_437.out
      have hnb67 := NB437_431.out
      have hnc67 := NB431_437.out
      have hnb68 := NB437_444.out
      have hnc68 := NB444_437.out
      obtain ⟨hcz69_0, hcz69_1, hcz69_2, hfz69_0, hfz69_1, hfz69_2⟩ := bc3_ (w := w65) BK437
      go_upto_region 14 with (first | ((with_reducible refine gate_callee (f := 19) rfl ?_); refine goesB (some 52) Try.func19 #[.agg #[.int .i64 t432, .int .i64 t433, .slice Ao30 t434.length co30], .int .i64 1] ?_; (with_reducible refine (laws_markChart.calls kj11 t432 t433 (fun k_ => some k_ = (.slice Ao30 t434.length co30 : Value).ownBlock) (.slice Ao30 t434.length co30) t434 1 t452 t453 w _ ?side1 ?side2 A60.out).mono ?_); (case side1 => repeat (first | (with_reducible first | exact HB.out | apply below_alloc | apply pw_below_drewN | apply below_drew1 | refine below_set ?_ GE418.out | refine below_set ?_ GE431.out | refine below_set ?_ GE437.out | refine below_set ?_ GE444.out) | exact HB.out)); (case side2 => exact Kd.R_tight rfl HO_438002.out); rintro e w70 ⟨rfl, hy0, hb, hkp⟩; refine ⟨_, rfl, ?_⟩; have n0_ := Aside0.mk (Kd.R_mono (ok' := fun k_ => some k_ ≠ (.slice Ao30 t434.length co30 : Value).ownBlock ∧ some k_ ≠ (.slice Ao37 t440.length co37 : Value).ownBlock ∧ some k_ ≠ (.slice Ao64 t448.length co64 : Value).ownBlock) (Kd.R_keptB (HO_432002.out) hkp (fun k_ hk_ hs_ => (hk_.1.1) hs_)) (fun k_ hk_ => ⟨hk_.1.1.1, hk_.1.1.2, hk_.1.2⟩)); have n1_ := Aside0.mk (Kd.R_reok rfl hy0 (fun k_ e_ => HO_438002.out.1 k_ e_)); have n2_ := Aside0.mk (Kd.R_mono (ok' := fun k_ => some k_ ≠ (.slice Ao23 t427.length co23 : Value).ownBlock ∧ some k_ ≠ (.slice Ao30 t434.length co30 : Value).ownBlock ∧ some k_ ≠ (.slice Ao64 t448.length co64 : Value).ownBlock) (Kd.R_keptB (HO_445002.out) hkp (fun k_ hk_ hs_ => (hk_.1.2) hs_)) (fun k_ hk_ => ⟨hk_.1.1.1, hk_.1.1.2, hk_.1.2⟩)); have n3_ := Aside0.mk (blk_kept (bk_ BK418) hkp (fun hs_ => (fun e_ => (Kd.R_ne HO_438002.out BK418.out (by decide)) e_) hs_)); have n4_ := Aside0.mk (blk_kept (bk_ BK431) hkp (fun hs_ => (fun e_ => (Kd.R_ne HO_438002.out BK431.out (by decide)) e_) hs_)); have n5_ := Aside0.mk (blk_kept (bk_ BK437) hkp (fun hs_ => (fun e_ => (Kd.R_ne HO_438002.out BK437.out (by decide)) e_) hs_)); have n6_ := Aside0.mk (blk_kept (bk_ BK444) hkp (fun hs_ => (fun e_ => (Kd.R_ne HO_438002.out BK444.out (by decide)) e_) hs_)); have n7_ := Aside0.mk (Kd.R_mono (ok' := fun k_ => some k_ ≠ (.slice Ao23 t427.length co23 : Value).ownBlock ∧ some k_ ≠ (.slice Ao30 t434.length co30 : Value).ownBlock ∧ some k_ ≠ (.slice Ao37 t440.length co37 : Value).ownBlock) (Kd.R_keptB (HO450.out) hkp (fun k_ hk_ hs_ => (hk_.1.2) hs_)) (fun k_ hk_ => ⟨hk_.1.1.1.2, hk_.1.1.2, hk_.1.2⟩)); have n8_ := Aside0.mk (hb); clear HO_432002; clear HO_438002; clear HO_445002; clear BK418; clear BK431; clear BK437; clear BK444; clear HO450; clear HB; have HO_432002 := n0_; have HO_438002 := n1_; have HO_445002 := n2_; have BK418 := n3_; have BK431 := n4_; have BK437 := n5_; have BK444 := n6_; have HO450 := n7_; have HB := n8_; clear n0_ n1_ n2_ n3_ n4_ n5_ n6_ n7_ n8_; (try clear hb); (try clear hkp); (try clear hy0)))
      (try simp only [Act.put, List.setIfInBounds_toArray, List.set_cons_zero, List.set_cons_succ])
      go_cut [65] (fun v65 wc => ∃ (kq : Nat) (x65_60 : Bool), v65 = .bool x65_60 ∧ Aside0 (laws_FnExactCompleteChart.j1 kq a1 t430 x65_60 a0_0 a0_1 l0_2 t425 t426 t427 t438 t439 t440 = some r) ∧ Aside0 (kq ≤ kj11) ∧ Aside0 (Kd.R (Kd.int .i64) 3 wc w.heap.size (fun k_ => some k_ ≠ ((.slice Ao30 t434.length co30) : Value).ownBlock ∧ some k_ ≠ ((.slice Ao37 t440.length co37) : Value).ownBlock) (.slice Ao23 t427.length co23) t427) ∧ Aside0 (Kd.R (Kd.int .i64) 3 wc w.heap.size (fun k_ => some k_ ≠ ((.slice Ao23 t427.length co23) : Value).ownBlock ∧ some k_ ≠ ((.slice Ao37 t440.length co37) : Value).ownBlock) (.slice Ao30 t434.length co30) t453) ∧ Aside0 (Kd.R (Kd.int .i64) 3 wc w.heap.size (fun k_ => some k_ ≠ ((.slice Ao23 t427.length co23) : Value).ownBlock ∧ some k_ ≠ ((.slice Ao30 t434.length co30) : Value).ownBlock) (.slice Ao37 t440.length co37) t440) ∧ Aside0 (wc.heap[gb418]? = some (.cells #[.int .i64 a0_0, .int .i64 a0_1, (.slice A0_2 l0_2.length c0_2)] 24 (0, 0))) ∧ Aside0 (wc.heap[gb431]? = some (.cells #[.int .i64 t425, .int .i64 t426, (.slice Ao23 t427.length co23)] 26 (0, 0))) ∧ Aside0 (wc.heap[gb437]? = some (.cells #[.int .i64 t432, .int .i64 t433, (.slice Ao30 t434.length co30)] 26 (0, 0))) ∧ Aside0 (wc.heap[gb444]? = some (.cells #[.int .i64 t438, .int .i64 t439, (.slice Ao37 t440.length co37)] 26 (0, 0))) ∧ Aside0 (Below w.heap.size w wc))
      case first =>
       have H := HC61.out
       clear HC61
       by_cases c71 : t452 < 0
       ·rw [if_pos c71] at H
        have c71b0 : decide (t452 < 0) = true := decide_eq_true c71
        clear c71
        (first | rw [c71b0] | (simp only [i64_w, i32_w]; rw [c71b0]) | skip)
        have H' := Aside0.mk H
        clear H
        go_wp2
        go_meet
        case rel => exact ⟨_, (true), (by first | rfl | (simp; done) | (simp [*]; done)), H', ⟨by have := HJ11.out; first | omega | exact Nat.le_refl _⟩, ⟨by exact rf_ HO_432002.out (fun _ hk => ⟨hk.1, hk.2.1⟩)⟩, ⟨by exact rf_ HO_438002.out (fun _ hk => ⟨hk.1.1, hk.1.2⟩)⟩, ⟨by exact rf_ HO_445002.out (fun _ hk => ⟨hk.1, hk.2.1⟩)⟩, ⟨bk_ BK418⟩, ⟨bk_ BK431⟩, ⟨bk_ BK437⟩, ⟨bk_ BK444⟩, ⟨(bw_ w)⟩⟩
       ·rw [if_neg c71] at H
        have c71b0 : decide (t452 < 0) = false := decide_eq_false c71
        clear c71
        (first | rw [c71b0] | (simp only [i64_w, i32_w]; rw [c71b0]) | skip)
        replace H := Option.bind_eq_some_iff.mp H
        obtain ⟨t454, A720, H⟩ := H
        replace H : (if t454 = true then (laws_FnExactCompleteChart.j1 kj11 a1 t430 (t443 != t430) a0_0 a0_1 l0_2 t425 t426 t427 t438 t439 t440) else (laws_FnExactCompleteChart.j1 kj11 a1 t430 true a0_0 a0_1 l0_2 t425 t426 t427 t438 t439 t440)) = some r := H
        have A72 := Aside0.mk A720
        clear A720
        by_cases c73 : t454 = true
        ·subst c73
         have H1 : (laws_FnExactCompleteChart.j1 kj11 a1 t430 (t443 != t430) a0_0 a0_1 l0_2 t425 t426 t427 t438 t439 t440) = some r := by rw [if_pos rfl] at H; exact H
         clear H
         have H := H1
         clear H1
         have H' := Aside0.mk H
         clear H
         have hnb74 := NB444_418.out
         have hnc74 := NB418_444.out
         have hnb75 := NB444_431.out
         have hnc75 := NB431_444.out
         have hnb76 := NB444_437.out
         have hnc76 := NB437_444.out
         obtain ⟨hcz77_0, hcz77_1, hcz77_2, hfz77_0, hfz77_1, hfz77_2⟩ := bc3_ (w := w70) BK444
         have hnb78 := NB431_418.out
         have hnc78 := NB418_431.out
         have hnb79 := NB431_437.out
         have hnc79 := NB437_431.out
         obtain ⟨hcz80_0, hcz80_1, hcz80_2, hfz80_0, hfz80_1, hfz80_2⟩ := bc3_ (w := w70) BK431
         go_wp2_with (first | (go_at_call 18; (with_reducible refine (laws_eqChart.calls kj11 t438 t439 _ _ t440 t425 t426 _ _ t427 true _ ?side1 ?side2 ?side3 ?side4 A72.out).mono ?_); (case side1 => exact co_ (Kd.R_reads' HO_445002.out).2.2); (case side2 => exact (Kd.R_reads' HO_445002.out).2.1); (case side3 => exact co_ (Kd.R_reads' HO_432002.out).2.2); (case side4 => exact (Kd.R_reads' HO_432002.out).2.1); rintro e w81 ⟨rfl, hb⟩; replace HO_432002 := Aside0.mk (Kd.R_below (ra_ HO_432002) hb); replace HO_438002 := Aside0.mk (Kd.R_below (ra_ HO_438002) hb); replace HO_445002 := Aside0.mk (Kd.R_below (ra_ HO_445002) hb); replace HO450 := Aside0.mk (Kd.R_below (ra_ HO450) hb); replace BK418 := bb_ BK418 hb; replace BK431 := bb_ BK431 hb; replace BK437 := bb_ BK437 hb; replace BK444 := bb_ BK444 hb; replace HB := Aside0.mk (below_step (bw_ w) hb); (try clear hb); (try clear hb2); (try clear hk); (try clear hi)))
         go_meet
         case rel => exact ⟨_, ((t443 != t430)), (by first | rfl | (simp; done) | (simp [*]; done)), H', ⟨by have := HJ11.out; first | omega | exact Nat.le_refl _⟩, ⟨by exact rf_ HO_432002.out (fun _ hk => ⟨hk.1, hk.2.1⟩)⟩, ⟨by exact rf_ HO_438002.out (fun _ hk => ⟨hk.1.1, hk.1.2⟩)⟩, ⟨by exact rf_ HO_445002.out (fun _ hk => ⟨hk.1, hk.2.1⟩)⟩, ⟨bk_ BK418⟩, ⟨bk_ BK431⟩, ⟨bk_ BK437⟩, ⟨bk_ BK444⟩, ⟨(bw_ w)⟩⟩
        ·replace c73 := Bool.eq_false_iff.mpr c73
         subst c73
         have H1 : (laws_FnExactCompleteChart.j1 kj11 a1 t430 true a0_0 a0_1 l0_2 t425 t426 t427 t438 t439 t440) = some r := by rw [if_neg (show ¬ (false = true) by decide)] at H; exact H
         clear H
         have H := H1
         clear H1
         have H' := Aside0.mk H
         clear H
         have hnb82 := NB444_418.out
         have hnc82 := NB418_444.out
         have hnb83 := NB444_431.out
         have hnc83 := NB431_444.out
         have hnb84 := NB444_437.out
         have hnc84 := NB437_444.out
         obtain ⟨hcz85_0, hcz85_1, hcz85_2, hfz85_0, hfz85_1, hfz85_2⟩ := bc3_ (w := w70) BK444
         have hnb86 := NB431_418.out
         have hnc86 := NB418_431.out
         have hnb87 := NB431_437.out
         have hnc87 := NB437_431.out
         obtain ⟨hcz88_0, hcz88_1, hcz88_2, hfz88_0, hfz88_1, hfz88_2⟩ := bc3_ (w := w70) BK431
         go_wp2_with (first | (go_at_call 18; (with_reducible refine (laws_eqChart.calls kj11 t438 t439 _ _ t440 t425 t426 _ _ t427 false _ ?side1 ?side2 ?side3 ?side4 A72.out).mono ?_); (case side1 => exact co_ (Kd.R_reads' HO_445002.out).2.2); (case side2 => exact (Kd.R_reads' HO_445002.out).2.1); (case side3 => exact co_ (Kd.R_reads' HO_432002.out).2.2); (case side4 => exact (Kd.R_reads' HO_432002.out).2.1); rintro e w89 ⟨rfl, hb⟩; replace HO_432002 := Aside0.mk (Kd.R_below (ra_ HO_432002) hb); replace HO_438002 := Aside0.mk (Kd.R_below (ra_ HO_438002) hb); replace HO_445002 := Aside0.mk (Kd.R_below (ra_ HO_445002) hb); replace HO450 := Aside0.mk (Kd.R_below (ra_ HO450) hb); replace BK418 := bb_ BK418 hb; replace BK431 := bb_ BK431 hb; replace BK437 := bb_ BK437 hb; replace BK444 := bb_ BK444 hb; replace HB := Aside0.mk (below_step (bw_ w) hb); (try clear hb); (try clear hb2); (try clear hk); (try clear hi)))
         go_meet
         case rel => exact ⟨_, (true), (by first | rfl | (simp; done) | (simp [*]; done)), H', ⟨by have := HJ11.out; first | omega | exact Nat.le_refl _⟩, ⟨by exact rf_ HO_432002.out (fun _ hk => ⟨hk.1, hk.2.1⟩)⟩, ⟨by exact rf_ HO_438002.out (fun _ hk => ⟨hk.1.1, hk.1.2⟩)⟩, ⟨by exact rf_ HO_445002.out (fun _ hk => ⟨hk.1, hk.2.1⟩)⟩, ⟨bk_ BK418⟩, ⟨bk_ BK431⟩, ⟨bk_ BK437⟩, ⟨bk_ BK444⟩, ⟨(bw_ w)⟩⟩
      case rest =>
       clear HC61
       try clear c1
       try clear c2
       try clear p2
       try clear c3
       try clear c4
       try clear c4b0
       try clear c5
       try clear c6
       try clear c7
       try clear c8
       try clear c14
       try clear c16
       try clear c18
       try clear c19
       try clear c21
       try clear c23
       try clear c24
       try clear c27
       try clear c28
       try clear c33
       try clear c34
       try clear c35
       try clear c39
       try clear c40
       try clear c41
       try clear c42
       try clear c44
       try clear c45
       try clear c48
       try clear c49
       try clear c50
       try clear c52
       try clear c53
       try clear c56
       try clear c59
       try clear c66
       try clear c67
       try clear c68
       try clear c71
       try clear c71b0
       try clear c73
       try clear c74
       try clear c75
       try clear c76
       try clear c78
       try clear c79
       try clear c82
       try clear c83
       try clear c84
       try clear c86
       try clear c87
       try clear hcz14_0
       try clear hcz14_1
       try clear hcz14_2
       try clear hcz16_0
       try clear hcz16_1
       try clear hcz16_2
       try clear hcz22_0
       try clear hcz22_1
       try clear hcz22_2
       try clear hcz24_0
       try clear hcz24_1
       try clear hcz24_2
       try clear hcz29_0
       try clear hcz29_1
       try clear hcz29_2
       try clear hcz36_0
       try clear hcz36_1
       try clear hcz36_2
       try clear hcz43_0
       try clear hcz43_1
       try clear hcz43_2
       try clear hcz46_0
       try clear hcz46_1
       try clear hcz46_2
       try clear hcz51_0
       try clear hcz51_1
       try clear hcz51_2
       try clear hcz54_0
       try clear hcz54_1
       try clear hcz54_2
       try clear hcz69_0
       try clear hcz69_1
       try clear hcz69_2
       try clear hcz6_0
       try clear hcz6_1
       try clear hcz6_2
       try clear hcz77_0
       try clear hcz77_1
       try clear hcz77_2
       try clear hcz80_0
       try clear hcz80_1
       try clear hcz80_2
       try clear hcz85_0
       try clear hcz85_1
       try clear hcz85_2
       try clear hcz88_0
       try clear hcz88_1
       try clear hcz88_2
       try clear hfz14_0
       try clear hfz14_1
       try clear hfz14_2
       try clear hfz16_0
       try clear hfz16_1
       try clear hfz16_2
       try clear hfz22_0
       try clear hfz22_1
       try clear hfz22_2
       try clear hfz24_0
       try clear hfz24_1
       try clear hfz24_2
       try clear hfz29_0
       try clear hfz29_1
       try clear hfz29_2
       try clear hfz36_0
       try clear hfz36_1
       try clear hfz36_2
       try clear hfz43_0
       try clear hfz43_1
       try clear hfz43_2
       try clear hfz46_0
       try clear hfz46_1
       try clear hfz46_2
       try clear hfz51_0
       try clear hfz51_1
       try clear hfz51_2
       try clear hfz54_0
       try clear hfz54_1
       try clear hfz54_2
       try clear hfz69_0
       try clear hfz69_1
       try clear hfz69_2
       try clear hfz6_0
       try clear hfz6_1
       try clear hfz6_2
       try clear hfz77_0
       try clear hfz77_1
       try clear hfz77_2
       try clear hfz80_0
       try clear hfz80_1
       try clear hfz80_2
       try clear hfz85_0
       try clear hfz85_1
       try clear hfz85_2
       try clear hfz88_0
       try clear hfz88_1
       try clear hfz88_2
       try clear p2
       obtain ⟨kq, x65_60, rfl, HA, HJ60, HO_432002, HO_438002, HO_445002, BK418, BK431, BK437, BK444, HB⟩ := hcut
       have hl438002_60 := (Kd.R_reads' HO_438002.out).1
       rw [hl438002_60] at HO_438002
       (try simp only [hl438002_60])
       (try simp only [hl438002_60] at BK418)
       (try simp only [hl438002_60] at BK431)
       (try simp only [hl438002_60] at BK437)
       (try simp only [hl438002_60] at BK444)
       (try simp only [hl438002_60] at HO_432002)
       (try simp only [hl438002_60] at HO_445002)
       cases kq with
       | zero => exact absurd HA.out (by simp [laws_FnExactCompleteChart.j1])
       | succ kj60 =>
        have H := HA.out
        clear HA
        simp only [laws_FnExactCompleteChart.j1] at H
        by_cases c90 : x65_60 = true
        ·subst c90
         have H1 : (some false) = some r := by rw [if_pos rfl] at H; exact H
         clear H
         have H := H1
         clear H1
         exact absurd (H.trans (congrArg some HRT.out)) (by simp)
        ·replace c90 := Bool.eq_false_iff.mpr c90
         subst c90
         have H1 : ((laws_markChart.f kj60 t438 t439 t440 1).bind fun bt455 => ((laws_heldChart.f kj60 t438 t439 bt455.2 1).bind fun t457 => (if t457 < 0 then (some false) else (if t457 = bt455.1 then ((laws_toChart.f kj60 a0_0 a0_1 l0_2).bind fun bt458 => ((impl_CompleteChart.f kj60 bt458.1 bt458.2.1 bt458.2.2 a1).bind fun bt463 => ((laws_eqChart.f kj60 bt463.1 bt463.2.1 bt463.2.2.1 t425 t426 t427).bind fun t470 => (if t470 = true then (laws_FnExactCompleteChart.j2 kj60 bt455.1 (bt463.2.2.2 != t430) t438 t439 bt455.2) else (laws_FnExactCompleteChart.j2 kj60 bt455.1 true t438 t439 bt455.2))))) else (some false))))) = some r := by rw [if_neg (show ¬ (false = true) by decide)] at H; exact H
         clear H
         have H := H1
         clear H1
         replace H := Option.bind_eq_some_iff.mp H
         obtain ⟨⟨t455, t456⟩, A910, H⟩ := H
         replace H : ((laws_heldChart.f kj60 t438 t439 t456 1).bind fun t457 => (if t457 < 0 then (some false) else (if t457 = t455 then ((laws_toChart.f kj60 a0_0 a0_1 l0_2).bind fun bt458 => ((impl_CompleteChart.f kj60 bt458.1 bt458.2.1 bt458.2.2 a1).bind fun bt463 => ((laws_eqChart.f kj60 bt463.1 bt463.2.1 bt463.2.2.1 t425 t426 t427).bind fun t470 => (if t470 = true then (laws_FnExactCompleteChart.j2 kj60 t455 (bt463.2.2.2 != t430) t438 t439 t456) else (laws_FnExactCompleteChart.j2 kj60 t455 true t438 t439 t456))))) else (some false)))) = some r := H
         have A91 := Aside0.mk A910
         clear A910
         replace H := Option.bind_eq_some_iff.mp H
         obtain ⟨t457, A920, H⟩ := H
         replace H : (if t457 < 0 then (some false) else (if t457 = t455 then ((laws_toChart.f kj60 a0_0 a0_1 l0_2).bind fun bt458 => ((impl_CompleteChart.f kj60 bt458.1 bt458.2.1 bt458.2.2 a1).bind fun bt463 => ((laws_eqChart.f kj60 bt463.1 bt463.2.1 bt463.2.2.1 t425 t426 t427).bind fun t470 => (if t470 = true then (laws_FnExactCompleteChart.j2 kj60 t455 (bt463.2.2.2 != t430) t438 t439 t456) else (laws_FnExactCompleteChart.j2 kj60 t455 true t438 t439 t456))))) else (some false))) = some r := H
         have A92 := Aside0.mk A920
         clear A920
         by_cases c93 : t457 < 0
         ·rw [if_pos c93] at H
          have c93b0 : decide (t457 < 0) = true := decide_eq_true c93
          clear c93
          exact absurd (H.trans (congrArg some HRT.out)) (by simp)
         ·rw [if_neg c93] at H
          have c93b0 : decide (t457 < 0) = false := decide_eq_false c93
          clear c93
          by_cases c94 : t457 = t455
          ·rw [if_pos c94] at H
           have c94b0 : (t457 == t455) = true := beq_iff_eq.mpr c94
           have c94b1 : (t457 != t455) = false := bne_eq_false_iff_eq.mpr c94
           clear c94
           replace H := Option.bind_eq_some_iff.mp H
           obtain ⟨⟨t458, t459, t460⟩, A950, H⟩ := H
           replace H : ((impl_CompleteChart.f kj60 t458 t459 t460 a1).bind fun bt463 => ((laws_eqChart.f kj60 bt463.1 bt463.2.1 bt463.2.2.1 t425 t426 t427).bind fun t470 => (if t470 = true then (laws_FnExactCompleteChart.j2 kj60 t455 (bt463.2.2.2 != t430) t438 t439 t456) else (laws_FnExactCompleteChart.j2 kj60 t455 true t438 t439 t456)))) = some r := H
           have A95 := Aside0.mk A950
           clear A950
           replace H := Option.bind_eq_some_iff.mp H
           obtain ⟨⟨t463, t464, t465, t468⟩, A960, H⟩ := H
           replace H : ((laws_eqChart.f kj60 t463 t464 t465 t425 t426 t427).bind fun t470 => (if t470 = true then (laws_FnExactCompleteChart.j2 kj60 t455 (t468 != t430) t438 t439 t456) else (laws_FnExactCompleteChart.j2 kj60 t455 true t438 t439 t456))) = some r := H
           have A96 := Aside0.mk A960
           clear A960
           have HC97 := Aside0.mk H
           clear H
           have hnb98 := NB444_418.out
           have hnc98 := NB418_444.out
           have hnb99 := NB444_431.out
           have hnc99 := NB431_444.out
           have hnb100 := NB444_437.out
           have hnc100 := NB437_444.out
           obtain ⟨hcz101_0, hcz101_1, hcz101_2, hfz101_0, hfz101_1, hfz101_2⟩ := bc3_ (w := wc) BK444
           go_upto_region 25 with (first | ((with_reducible refine gate_callee (f := 19) rfl ?_); refine goesB (some 68) Try.func19 #[.agg #[.int .i64 t438, .int .i64 t439, .slice Ao37 t440.length co37], .int .i64 1] ?_; (with_reducible refine (laws_markChart.calls kj60 t438 t439 (fun k_ => some k_ = (.slice Ao37 t440.length co37 : Value).ownBlock) (.slice Ao37 t440.length co37) t440 1 t455 t456 w _ ?side1 ?side2 A91.out).mono ?_); (case side1 => repeat (first | (with_reducible first | exact HB.out | apply below_alloc | apply pw_below_drewN | apply below_drew1 | refine below_set ?_ GE418.out | refine below_set ?_ GE431.out | refine below_set ?_ GE437.out | refine below_set ?_ GE444.out) | exact HB.out)); (case side2 => exact Kd.R_tight rfl HO_445002.out); rintro e w102 ⟨rfl, hy0, hb, hkp⟩; refine ⟨_, rfl, ?_⟩; have n0_ := Aside0.mk (Kd.R_mono (ok' := fun k_ => some k_ ≠ (.slice Ao30 t453.length co30 : Value).ownBlock ∧ some k_ ≠ (.slice Ao37 t440.length co37 : Value).ownBlock) (Kd.R_keptB (HO_432002.out) hkp (fun k_ hk_ hs_ => (hk_.2) hs_)) (fun k_ hk_ => ⟨hk_.1.1, hk_.1.2⟩)); have n1_ := Aside0.mk (Kd.R_mono (ok' := fun k_ => some k_ ≠ (.slice Ao23 t427.length co23 : Value).ownBlock ∧ some k_ ≠ (.slice Ao37 t440.length co37 : Value).ownBlock) (Kd.R_keptB (HO_438002.out) hkp (fun k_ hk_ hs_ => (hk_.2) hs_)) (fun k_ hk_ => ⟨hk_.1.1, hk_.1.2⟩)); have n2_ := Aside0.mk (Kd.R_reok rfl hy0 (fun k_ e_ => HO_445002.out.1 k_ e_)); have n3_ := Aside0.mk (blk_kept (bk_ BK418) hkp (fun hs_ => (fun e_ => (Kd.R_ne HO_445002.out BK418.out (by decide)) e_) hs_)); have n4_ := Aside0.mk (blk_kept (bk_ BK431) hkp (fun hs_ => (fun e_ => (Kd.R_ne HO_445002.out BK431.out (by decide)) e_) hs_)); have n5_ := Aside0.mk (blk_kept (bk_ BK437) hkp (fun hs_ => (fun e_ => (Kd.R_ne HO_445002.out BK437.out (by decide)) e_) hs_)); have n6_ := Aside0.mk (blk_kept (bk_ BK444) hkp (fun hs_ => (fun e_ => (Kd.R_ne HO_445002.out BK444.out (by decide)) e_) hs_)); have n7_ := Aside0.mk (hb); clear HO_432002; clear HO_438002; clear HO_445002; clear BK418; clear BK431; clear BK437; clear BK444; clear HB; have HO_432002 := n0_; have HO_438002 := n1_; have HO_445002 := n2_; have BK418 := n3_; have BK431 := n4_; have BK437 := n5_; have BK444 := n6_; have HB := n7_; clear n0_ n1_ n2_ n3_ n4_ n5_ n6_ n7_; (try clear hb); (try clear hkp); (try clear hy0); obtain ⟨hcz103_0, hcz103_1, hcz103_2, hfz103_0, hfz103_1, hfz103_2⟩ := bc3_ (w := w102) BK444) | ((with_reducible refine gate_callee (f := 20) rfl ?_); refine goesL_ (some 71) rfl rfl Try.func20 (by kernel_rfl) rfl #[.agg #[.int .i64 t438, .int .i64 t439, .slice Ao37 t456.length co37], .int .i64 1] rfl (by (try simp only [List.map_toArray, List.map_cons, List.map_nil]); first | done | (rw [show t456.length = t440.length from (Kd.R_reads' HO_445002.out).1.symm] <;> rfl) | rfl | (simp only [List.length_drop, List.length_take]; rfl)) ?_; (with_reducible refine (laws_heldChart.calls kj60 t438 t439 _ _ t456 1 t457 _ ?side1 ?side2 A92.out).mono ?_); (case side1 => exact co_ (Kd.R_reads' HO_445002.out).2.2); (case side2 => rw [show t456.length = t440.length from (Kd.R_reads' HO_445002.out).1.symm]; exact (Kd.R_reads' HO_445002.out).2.1); rintro e w104 ⟨rfl, hb⟩; refine ⟨_, rfl, ?_⟩; replace HO_432002 := Aside0.mk (Kd.R_below (ra_ HO_432002) hb); replace HO_438002 := Aside0.mk (Kd.R_below (ra_ HO_438002) hb); replace HO_445002 := Aside0.mk (Kd.R_below (ra_ HO_445002) hb); replace BK418 := bb_ BK418 hb; replace BK431 := bb_ BK431 hb; replace BK437 := bb_ BK437 hb; replace BK444 := bb_ BK444 hb; replace HB := Aside0.mk (below_step (bw_ w) hb); (try clear hb); (try clear hb2); (try clear hk); (try clear hi); have hnb105 := NB418_431.out; have hnc105 := NB431_418.out; have hnb106 := NB418_437.out; have hnc106 := NB437_418.out; obtain ⟨hcz107_0, hcz107_1, hcz107_2, hfz107_0, hfz107_1, hfz107_2⟩ := bc3_ (w := w104) BK418) | ((with_reducible refine gate_callee (f := 16) rfl ?_); refine goesB (some 79) Try.func16 #[.agg #[.int .i64 a0_0, .int .i64 a0_1, .slice A0_2 l0_2.length c0_2]] ?_; (with_reducible refine (laws_toChart.calls kj60 a0_0 a0_1 _ _ l0_2 t458 t459 t460 _ ?side1 ?side2 A95.out).mono ?_); (case side1 => exact cb_ HR0_2 HB); (case side2 => exact HC0_2.out); rintro e w108 ⟨v461, rfl, ho0, hb⟩; refine ⟨_, rfl, ?_⟩; have n0_ := Aside0.mk (Kd.R_elder' (ra_ HO_432002) (Kd.R_base ho0) hb); have n1_ := Aside0.mk (Kd.R_elder' (ra_ HO_438002) (Kd.R_base ho0) hb); have n2_ := Aside0.mk (Kd.R_elder' (ra_ HO_445002) (Kd.R_base ho0) hb); have n3_ := Aside0.mk (Kd.R_lower (Kd.R_new' (Kd.R_new' (Kd.R_new' ho0 (Kd.R_lt (ra_ HO_432002))) (Kd.R_lt (ra_ HO_438002))) (Kd.R_lt (ra_ HO_445002))) (below_size (bw_ w))); have n4_ := bb_ BK418 hb; have n5_ := bb_ BK431 hb; have n6_ := bb_ BK437 hb; have n7_ := bb_ BK444 hb; have n8_ := Aside0.mk (below_step (bw_ w) hb); clear HO_432002; clear HO_438002; clear HO_445002; clear BK418; clear BK431; clear BK437; clear BK444; clear HB; have HO_432002 := n0_; have HO_438002 := n1_; have HO_445002 := n2_; have HO462 := n3_; have BK418 := n4_; have BK431 := n5_; have BK437 := n6_; have BK444 := n7_; have HB := n8_; clear n0_ n1_ n2_ n3_ n4_ n5_ n6_ n7_ n8_; (try clear hb); (try clear hb2); (try clear hk); (try clear hi); (try clear ho0); obtain ⟨Ao109, co109, eo109⟩ := Kd.R_slice HO462.out; subst eo109) | ((with_reducible refine gate_callee (f := 24) rfl ?_); refine goesB (some 81) Try.func24 #[.agg #[.int .i64 t458, .int .i64 t459, .slice Ao109 t460.length co109], .int .i64 a1] ?_; (with_reducible refine (impl_CompleteChart.calls kj60 t458 t459 _ _ t460 a1 t463 t464 t465 t468 _ ?side1 ?side2 A96.out).mono ?_); (case side1 => exact co_ (Kd.R_reads' HO462.out).2.2); (case side2 => exact (Kd.R_reads' HO462.out).2.1); rintro e w110 ⟨v466, rfl, ho0, hb⟩; refine ⟨_, rfl, ?_⟩; have n0_ := Aside0.mk (Kd.R_elder' (ra_ HO_432002) (Kd.R_base ho0) hb); have n1_ := Aside0.mk (Kd.R_elder' (ra_ HO_438002) (Kd.R_base ho0) hb); have n2_ := Aside0.mk (Kd.R_elder' (ra_ HO_445002) (Kd.R_base ho0) hb); have n3_ := Aside0.mk (Kd.R_elder' (ra_ HO462) (Kd.R_base ho0) hb); have n4_ := Aside0.mk (Kd.R_lower (Kd.R_new' (Kd.R_new' (Kd.R_new' (Kd.R_new' ho0 (Kd.R_lt (ra_ HO_432002))) (Kd.R_lt (ra_ HO_438002))) (Kd.R_lt (ra_ HO_445002))) (Kd.R_lt (ra_ HO462))) (below_size (bw_ w))); have n5_ := bb_ BK418 hb; have n6_ := bb_ BK431 hb; have n7_ := bb_ BK437 hb; have n8_ := bb_ BK444 hb; have n9_ := Aside0.mk (below_step (bw_ w) hb); clear HO_432002; clear HO_438002; clear HO_445002; clear HO462; clear BK418; clear BK431; clear BK437; clear BK444; clear HB; have HO_432002 := n0_; have HO_438002 := n1_; have HO_445002 := n2_; have HO462 := n3_; have HO467 := n4_; have BK418 := n5_; have BK431 := n6_; have BK437 := n7_; have BK444 := n8_; have HB := n9_; clear n0_ n1_ n2_ n3_ n4_ n5_ n6_ n7_ n8_ n9_; (try clear hb); (try clear hb2); (try clear hk); (try clear hi); (try clear ho0)) | ((with_reducible refine gate_dst (N := 14) rfl ?_); refine box_ (N := 14) (cs := #[.int .i64 0, .int .i64 0, .slice none 0 0]) (t := 26) ?_; intro gb469 hg w111 hbox hb; have n0_ := Aside0.mk (Kd.R_below (ra_ HO_432002) hb); have n1_ := Aside0.mk (Kd.R_below (ra_ HO_438002) hb); have n2_ := Aside0.mk (Kd.R_below (ra_ HO_445002) hb); have n3_ := Aside0.mk (Kd.R_below (ra_ HO462) hb); have n4_ := Aside0.mk (Kd.R_below (ra_ HO467) hb); have n5_ := bb_ BK418 hb; have n6_ := bb_ BK431 hb; have n7_ := bb_ BK437 hb; have n8_ := bb_ BK444 hb; have n9_ := Aside0.mk (below_step (bw_ w) hb); have n10_ := Aside0.mk (hbox); have n11_ := gz_ w hg; have n12_ := gz_ w hg; have n13_ := ne_ hg BK418; have n14_ := en_ hg BK418; have n15_ := ne_ hg BK431; have n16_ := en_ hg BK431; have n17_ := ne_ hg BK437; have n18_ := en_ hg BK437; have n19_ := ne_ hg BK444; have n20_ := en_ hg BK444; clear HO_432002; clear HO_438002; clear HO_445002; clear HO462; clear HO467; clear BK418; clear BK431; clear BK437; clear BK444; clear HB; have HO_432002 := n0_; have HO_438002 := n1_; have HO_445002 := n2_; have HO462 := n3_; have HO467 := n4_; have BK418 := n5_; have BK431 := n6_; have BK437 := n7_; have BK444 := n8_; have HB := n9_; have BK469 := n10_; have GW469 := n11_; have GE469 := n12_; have NB418_469 := n13_; have NB469_418 := n14_; have NB431_469 := n15_; have NB469_431 := n16_; have NB437_469 := n17_; have NB469_437 := n18_; have NB444_469 := n19_; have NB469_444 := n20_; clear n0_ n1_ n2_ n3_ n4_ n5_ n6_ n7_ n8_ n9_ n10_ n11_ n12_ n13_ n14_ n15_ n16_ n17_ n18_ n19_ n20_; clear hb hbox hg; have hnb112 := NB469_418.out; have hnc112 := NB418_469.out; have hnb113 := NB469_431.out; have hnc113 := NB431_469.out; have hnb114 := NB469_437.out; have hnc114 := NB437_469.out; have hnb115 := NB469_444.out; have hnc115 := NB444_469.out; obtain ⟨hcz116_0, hcz116_1, hcz116_2, hfz116_0, hfz116_1, hfz116_2⟩ := bc3_ (w := w111) BK469; obtain ⟨Ao117, co117, eo117⟩ := Kd.R_slice HO467.out; subst eo117))
           (try simp only [Act.put, List.setIfInBounds_toArray, List.set_cons_zero, List.set_cons_succ])
           go_cut [92] (fun v92 wc => ∃ (kq : Nat) (x92_96 : Bool), v92 = .bool x92_96 ∧ Aside0 (laws_FnExactCompleteChart.j2 kq t455 x92_96 t438 t439 t456 = some r) ∧ Aside0 (kq ≤ kj60) ∧ Aside0 (Kd.R (Kd.int .i64) 3 wc w.heap.size (fun k_ => some k_ ≠ ((.slice Ao30 t453.length co30) : Value).ownBlock ∧ some k_ ≠ ((.slice Ao37 t440.length co37) : Value).ownBlock ∧ some k_ ≠ ((.slice Ao117 t465.length co117) : Value).ownBlock) (.slice Ao23 t427.length co23) t427) ∧ Aside0 (Kd.R (Kd.int .i64) 3 wc w.heap.size (fun k_ => some k_ ≠ ((.slice Ao23 t427.length co23) : Value).ownBlock ∧ some k_ ≠ ((.slice Ao37 t440.length co37) : Value).ownBlock ∧ some k_ ≠ ((.slice Ao117 t465.length co117) : Value).ownBlock) (.slice Ao30 t453.length co30) t453) ∧ Aside0 (Kd.R (Kd.int .i64) 3 wc w.heap.size (fun k_ => some k_ ≠ ((.slice Ao23 t427.length co23) : Value).ownBlock ∧ some k_ ≠ ((.slice Ao30 t453.length co30) : Value).ownBlock ∧ some k_ ≠ ((.slice Ao117 t465.length co117) : Value).ownBlock) (.slice Ao37 t440.length co37) t456) ∧ Aside0 (Kd.R (Kd.int .i64) 3 wc w.heap.size (fun k_ => some k_ ≠ ((.slice Ao23 t427.length co23) : Value).ownBlock ∧ some k_ ≠ ((.slice Ao30 t453.length co30) : Value).ownBlock ∧ some k_ ≠ ((.slice Ao37 t440.length co37) : Value).ownBlock) (.slice Ao117 t465.length co117) t465) ∧ Aside0 (wc.heap[gb418]? = some (.cells #[.int .i64 a0_0, .int .i64 a0_1, (.slice A0_2 l0_2.length c0_2)] 24 (0, 0))) ∧ Aside0 (wc.heap[gb431]? = some (.cells #[.int .i64 t425, .int .i64 t426, (.slice Ao23 t427.length co23)] 26 (0, 0))) ∧ Aside0 (wc.heap[gb437]? = some (.cells #[.int .i64 t432, .int .i64 t433, (.slice Ao30 t453.length co30)] 26 (0, 0))) ∧ Aside0 (wc.heap[gb444]? = some (.cells #[.int .i64 t438, .int .i64 t439, (.slice Ao37 t440.length co37)] 26 (0, 0))) ∧ Aside0 (wc.heap[gb469]? = some (.cells #[.int .i64 t463, .int .i64 t464, (.slice Ao117 t465.length co117)] 26 (0, 0))) ∧ Aside0 (Below w.heap.size w wc))
           case first =>
            have H := HC97.out
            clear HC97
            replace H := Option.bind_eq_some_iff.mp H
            obtain ⟨t470, A1180, H⟩ := H
            replace H : (if t470 = true then (laws_FnExactCompleteChart.j2 kj60 t455 (t468 != t430) t438 t439 t456) else (laws_FnExactCompleteChart.j2 kj60 t455 true t438 t439 t456)) = some r := H
            have A118 := Aside0.mk A1180
            clear A1180
            by_cases c119 : t470 = true
            ·subst c119
             have H1 : (laws_FnExactCompleteChart.j2 kj60 t455 (t468 != t430) t438 t439 t456) = some r := by rw [if_pos rfl] at H; exact H
             clear H
             have H := H1
             clear H1
             have H' := Aside0.mk H
             clear H
             have hnb120 := NB469_418.out
             have hnc120 := NB418_469.out
             have hnb121 := NB469_431.out
             have hnc121 := NB431_469.out
             have hnb122 := NB469_437.out
             have hnc122 := NB437_469.out
             have hnb123 := NB469_444.out
             have hnc123 := NB444_469.out
             obtain ⟨hcz124_0, hcz124_1, hcz124_2, hfz124_0, hfz124_1, hfz124_2⟩ := bc3_ (w := w111) BK469
             have hnb125 := NB431_418.out
             have hnc125 := NB418_431.out
             have hnb126 := NB431_437.out
             have hnc126 := NB437_431.out
             have hnb127 := NB431_444.out
             have hnc127 := NB444_431.out
             obtain ⟨hcz128_0, hcz128_1, hcz128_2, hfz128_0, hfz128_1, hfz128_2⟩ := bc3_ (w := w111) BK431
             go_wp2_with (first | ((with_reducible refine gate_callee (f := 18) rfl ?_); refine goesB (some 86) Try.func18 #[.agg #[.int .i64 t463, .int .i64 t464, .slice Ao117 t465.length co117], .agg #[.int .i64 t425, .int .i64 t426, .slice Ao23 t427.length co23]] ?_; (with_reducible refine (laws_eqChart.calls kj60 t463 t464 _ _ t465 t425 t426 _ _ t427 true _ ?side1 ?side2 ?side3 ?side4 A118.out).mono ?_); (case side1 => refine (Kd.R_reads' (e := 3) (base := w.heap.size) (ok := fun k_ => ((((True ∧ some k_ ≠ (.slice Ao23 t427.length co23 : Value).ownBlock) ∧ some k_ ≠ (.slice Ao30 t453.length co30 : Value).ownBlock) ∧ some k_ ≠ (.slice Ao37 t440.length co37 : Value).ownBlock) ∧ some k_ ≠ (.slice Ao109 t460.length co109 : Value).ownBlock)) (n := t465.length) (c := co117) ?_).2.2; exact (by exact rf_ (Kd.R_types HO467.out BK469.out (by decide)) (fun _ h_ => h_.1))); (case side2 => exact (Kd.R_reads' HO467.out).2.1); (case side3 => refine (Kd.R_reads' (e := 3) (base := w.heap.size) (ok := fun k_ => (((some k_ ≠ (.slice Ao30 t453.length co30 : Value).ownBlock ∧ some k_ ≠ (.slice Ao37 t440.length co37 : Value).ownBlock) ∧ some k_ ≠ (.slice Ao109 t460.length co109 : Value).ownBlock) ∧ some k_ ≠ (.slice Ao117 t465.length co117 : Value).ownBlock)) (n := t427.length) (c := co23) ?_).2.2; exact (by exact rf_ (Kd.R_types HO_432002.out BK469.out (by decide)) (fun _ h_ => h_.1))); (case side4 => exact (Kd.R_reads' HO_432002.out).2.1); rintro e w129 ⟨rfl, hb⟩; refine ⟨_, rfl, ?_⟩; replace HO_432002 := Aside0.mk (Kd.R_below (by exact rf_ (Kd.R_types HO_432002.out BK469.out (by decide)) (fun _ h_ => h_.1)) hb); replace HO_438002 := Aside0.mk (Kd.R_below (by exact rf_ (Kd.R_types HO_438002.out BK469.out (by decide)) (fun _ h_ => h_.1)) hb); replace HO_445002 := Aside0.mk (Kd.R_below (by exact rf_ (Kd.R_types HO_445002.out BK469.out (by decide)) (fun _ h_ => h_.1)) hb); replace HO462 := Aside0.mk (Kd.R_below (by exact rf_ (Kd.R_types HO462.out BK469.out (by decide)) (fun _ h_ => h_.1)) hb); replace HO467 := Aside0.mk (Kd.R_below (by exact rf_ (Kd.R_types HO467.out BK469.out (by decide)) (fun _ h_ => h_.1)) hb); replace BK418 := bb_ BK418 hb; replace BK431 := bb_ BK431 hb; replace BK437 := bb_ BK437 hb; replace BK444 := bb_ BK444 hb; replace BK469 := Aside0.mk (blk_below (g := gb469) (o := .cells #[.int .i64 t463, .int .i64 t464, .slice Ao117 t465.length co117] 26 (0, 0)) (bq_ BK469) hb); replace HB := Aside0.mk (below_step (bw_ w) hb); (try clear hb); (try clear hb2); (try clear hk); (try clear hi)))
             go_meet
             case rel => exact ⟨_, ((t468 != t430)), (by first | rfl | (simp; done) | (simp [*]; done)), H', ⟨by have := HJ11.out; have := HJ60.out; first | omega | exact Nat.le_refl _⟩, ⟨by (try simp only [hl438002_60]); (with_reducible repeat (first | apply Kd.R_alloc | apply Kd.R_drewN | apply Kd.R_drew)); exact Kd.R_mono HO_432002.out (fun _ hk => ⟨hk.1.1.1, ⟨hk.1.1.2, hk.2⟩⟩)⟩, ⟨by (try simp only [hl438002_60]); (with_reducible repeat (first | apply Kd.R_alloc | apply Kd.R_drewN | apply Kd.R_drew)); exact Kd.R_mono HO_438002.out (fun _ hk => ⟨hk.1.1.1, ⟨hk.1.1.2, hk.2⟩⟩)⟩, ⟨by (try simp only [hl438002_60]); (with_reducible repeat (first | apply Kd.R_alloc | apply Kd.R_drewN | apply Kd.R_drew)); exact Kd.R_mono HO_445002.out (fun _ hk => ⟨hk.1.1.1, ⟨hk.1.1.2, hk.2⟩⟩)⟩, ⟨by (try simp only [hl438002_60]); (with_reducible repeat (first | apply Kd.R_alloc | apply Kd.R_drewN | apply Kd.R_drew)); exact Kd.R_mono HO467.out (fun _ hk => ⟨hk.1.1.1.2, ⟨hk.1.1.2, hk.1.2⟩⟩)⟩, ⟨by (try simp only [hl438002_60]); (with_reducible repeat (first | refine blk_drewN ?_ _ | refine blk_drew ?_ | refine blk_alloc ?_ _)); exact BK418.out⟩, ⟨by (try simp only [hl438002_60]); (with_reducible repeat (first | refine blk_drewN ?_ _ | refine blk_drew ?_ | refine blk_alloc ?_ _)); exact BK431.out⟩, ⟨by (try simp only [hl438002_60]); (with_reducible repeat (first | refine blk_drewN ?_ _ | refine blk_drew ?_ | refine blk_alloc ?_ _)); exact BK437.out⟩, ⟨by (try simp only [hl438002_60]); (with_reducible repeat (first | refine blk_drewN ?_ _ | refine blk_drew ?_ | refine blk_alloc ?_ _)); exact BK444.out⟩, ⟨by (try simp only [hl438002_60]); (with_reducible repeat (first | refine blk_drewN ?_ _ | refine blk_drew ?_ | refine blk_alloc ?_ _)); exact BK469.out⟩, ⟨(bw_ w)⟩⟩
            ·replace c119 := Bool.eq_false_iff.mpr c119
             subst c119
             have H1 : (laws_FnExactCompleteChart.j2 kj60 t455 true t438 t439 t456) = some r := by rw [if_neg (show ¬ (false = true) by decide)] at H; exact H
             clear H
             have H := H1
             clear H1
             have H' := Aside0.mk H
             clear H
             have hnb130 := NB469_418.out
             have hnc130 := NB418_469.out
             have hnb131 := NB469_431.out
             have hnc131 := NB431_469.out
             have hnb132 := NB469_437.out
             have hnc132 := NB437_469.out
             have hnb133 := NB469_444.out
             have hnc133 := NB444_469.out
             obtain ⟨hcz134_0, hcz134_1, hcz134_2, hfz134_0, hfz134_1, hfz134_2⟩ := bc3_ (w := w111) BK469
             have hnb135 := NB431_418.out
             have hnc135 := NB418_431.out
             have hnb136 := NB431_437.out
             have hnc136 := NB437_431.out
             have hnb137 := NB431_444.out
             have hnc137 := NB444_431.out
             obtain ⟨hcz138_0, hcz138_1, hcz138_2, hfz138_0, hfz138_1, hfz138_2⟩ := bc3_ (w := w111) BK431
             go_wp2_with (first | ((with_reducible refine gate_callee (f := 18) rfl ?_); refine goesB (some 86) Try.func18 #[.agg #[.int .i64 t463, .int .i64 t464, .slice Ao117 t465.length co117], .agg #[.int .i64 t425, .int .i64 t426, .slice Ao23 t427.length co23]] ?_; (with_reducible refine (laws_eqChart.calls kj60 t463 t464 _ _ t465 t425 t426 _ _ t427 false _ ?side1 ?side2 ?side3 ?side4 A118.out).mono ?_); (case side1 => refine (Kd.R_reads' (e := 3) (base := w.heap.size) (ok := fun k_ => ((((True ∧ some k_ ≠ (.slice Ao23 t427.length co23 : Value).ownBlock) ∧ some k_ ≠ (.slice Ao30 t453.length co30 : Value).ownBlock) ∧ some k_ ≠ (.slice Ao37 t440.length co37 : Value).ownBlock) ∧ some k_ ≠ (.slice Ao109 t460.length co109 : Value).ownBlock)) (n := t465.length) (c := co117) ?_).2.2; exact (by exact rf_ (Kd.R_types HO467.out BK469.out (by decide)) (fun _ h_ => h_.1))); (case side2 => exact (Kd.R_reads' HO467.out).2.1); (case side3 => refine (Kd.R_reads' (e := 3) (base := w.heap.size) (ok := fun k_ => (((some k_ ≠ (.slice Ao30 t453.length co30 : Value).ownBlock ∧ some k_ ≠ (.slice Ao37 t440.length co37 : Value).ownBlock) ∧ some k_ ≠ (.slice Ao109 t460.length co109 : Value).ownBlock) ∧ some k_ ≠ (.slice Ao117 t465.length co117 : Value).ownBlock)) (n := t427.length) (c := co23) ?_).2.2; exact (by exact rf_ (Kd.R_types HO_432002.out BK469.out (by decide)) (fun _ h_ => h_.1))); (case side4 => exact (Kd.R_reads' HO_432002.out).2.1); rintro e w139 ⟨rfl, hb⟩; refine ⟨_, rfl, ?_⟩; replace HO_432002 := Aside0.mk (Kd.R_below (by exact rf_ (Kd.R_types HO_432002.out BK469.out (by decide)) (fun _ h_ => h_.1)) hb); replace HO_438002 := Aside0.mk (Kd.R_below (by exact rf_ (Kd.R_types HO_438002.out BK469.out (by decide)) (fun _ h_ => h_.1)) hb); replace HO_445002 := Aside0.mk (Kd.R_below (by exact rf_ (Kd.R_types HO_445002.out BK469.out (by decide)) (fun _ h_ => h_.1)) hb); replace HO462 := Aside0.mk (Kd.R_below (by exact rf_ (Kd.R_types HO462.out BK469.out (by decide)) (fun _ h_ => h_.1)) hb); replace HO467 := Aside0.mk (Kd.R_below (by exact rf_ (Kd.R_types HO467.out BK469.out (by decide)) (fun _ h_ => h_.1)) hb); replace BK418 := bb_ BK418 hb; replace BK431 := bb_ BK431 hb; replace BK437 := bb_ BK437 hb; replace BK444 := bb_ BK444 hb; replace BK469 := Aside0.mk (blk_below (g := gb469) (o := .cells #[.int .i64 t463, .int .i64 t464, .slice Ao117 t465.length co117] 26 (0, 0)) (bq_ BK469) hb); replace HB := Aside0.mk (below_step (bw_ w) hb); (try clear hb); (try clear hb2); (try clear hk); (try clear hi)))
             go_meet
             case rel => exact ⟨_, (true), (by first | rfl | (simp; done) | (simp [*]; done)), H', ⟨by have := HJ11.out; have := HJ60.out; first | omega | exact Nat.le_refl _⟩, ⟨by (try simp only [hl438002_60]); (with_reducible repeat (first | apply Kd.R_alloc | apply Kd.R_drewN | apply Kd.R_drew)); exact Kd.R_mono HO_432002.out (fun _ hk => ⟨hk.1.1.1, ⟨hk.1.1.2, hk.2⟩⟩)⟩, ⟨by (try simp only [hl438002_60]); (with_reducible repeat (first | apply Kd.R_alloc | apply Kd.R_drewN | apply Kd.R_drew)); exact Kd.R_mono HO_438002.out (fun _ hk => ⟨hk.1.1.1, ⟨hk.1.1.2, hk.2⟩⟩)⟩, ⟨by (try simp only [hl438002_60]); (with_reducible repeat (first | apply Kd.R_alloc | apply Kd.R_drewN | apply Kd.R_drew)); exact Kd.R_mono HO_445002.out (fun _ hk => ⟨hk.1.1.1, ⟨hk.1.1.2, hk.2⟩⟩)⟩, ⟨by (try simp only [hl438002_60]); (with_reducible repeat (first | apply Kd.R_alloc | apply Kd.R_drewN | apply Kd.R_drew)); exact Kd.R_mono HO467.out (fun _ hk => ⟨hk.1.1.1.2, ⟨hk.1.1.2, hk.1.2⟩⟩)⟩, ⟨by (try simp only [hl438002_60]); (with_reducible repeat (first | refine blk_drewN ?_ _ | refine blk_drew ?_ | refine blk_alloc ?_ _)); exact BK418.out⟩, ⟨by (try simp only [hl438002_60]); (with_reducible repeat (first | refine blk_drewN ?_ _ | refine blk_drew ?_ | refine blk_alloc ?_ _)); exact BK431.out⟩, ⟨by (try simp only [hl438002_60]); (with_reducible repeat (first | refine blk_drewN ?_ _ | refine blk_drew ?_ | refine blk_alloc ?_ _)); exact BK437.out⟩, ⟨by (try simp only [hl438002_60]); (with_reducible repeat (first | refine blk_drewN ?_ _ | refine blk_drew ?_ | refine blk_alloc ?_ _)); exact BK444.out⟩, ⟨by (try simp only [hl438002_60]); (with_reducible repeat (first | refine blk_drewN ?_ _ | refine blk_drew ?_ | refine blk_alloc ?_ _)); exact BK469.out⟩, ⟨(bw_ w)⟩⟩
           case rest =>
            clear HC97
            try clear c1
            try clear c2
            try clear p2
            try clear c3
            try clear c4
            try clear c4b0
            try clear c5
            try clear c6
            try clear c7
            try clear c8
            try clear c9
            try clear c10
            try clear c11
            try clear c12
            try clear c13
            try clear c14
            try clear c16
            try clear c18
            try clear c19
            try clear c20
            try clear c21
            try clear c23
            try clear c24
            try clear c27
            try clear c28
            try clear c33
            try clear c34
            try clear c35
            try clear c39
            try clear c40
            try clear c41
            try clear c42
            try clear c44
            try clear c45
            try clear c48
            try clear c49
            try clear c50
            try clear c52
            try clear c53
            try clear c56
            try clear c59
            try clear c66
            try clear c67
            try clear c68
            try clear c71
            try clear c71b0
            try clear c73
            try clear c74
            try clear c75
            try clear c76
            try clear c78
            try clear c79
            try clear c82
            try clear c83
            try clear c84
            try clear c86
            try clear c87
            try clear c90
            try clear c93
            try clear c93b0
            try clear c94
            try clear c94b0
            try clear c94b1
            try clear c98
            try clear c99
            try clear c100
            try clear c105
            try clear c106
            try clear c112
            try clear c113
            try clear c114
            try clear c115
            try clear c119
            try clear c120
            try clear c121
            try clear c122
            try clear c123
            try clear c125
            try clear c126
            try clear c127
            try clear c130
            try clear c131
            try clear c132
            try clear c133
            try clear c135
            try clear c136
            try clear c137
            try clear hcz101_0
            try clear hcz101_1
            try clear hcz101_2
            try clear hcz103_0
            try clear hcz103_1
            try clear hcz103_2
            try clear hcz107_0
            try clear hcz107_1
            try clear hcz107_2
            try clear hcz116_0
            try clear hcz116_1
            try clear hcz116_2
            try clear hcz124_0
            try clear hcz124_1
            try clear hcz124_2
            try clear hcz128_0
            try clear hcz128_1
            try clear hcz128_2
            try clear hcz134_0
            try clear hcz134_1
            try clear hcz134_2
            try clear hcz138_0
            try clear hcz138_1
            try clear hcz138_2
            try clear hcz14_0
            try clear hcz14_1
            try clear hcz14_2
            try clear hcz16_0
            try clear hcz16_1
            try clear hcz16_2
            try clear hcz22_0
            try clear hcz22_1
            try clear hcz22_2
            try clear hcz24_0
            try clear hcz24_1
            try clear hcz24_2
            try clear hcz29_0
            try clear hcz29_1
            try clear hcz29_2
            try clear hcz36_0
            try clear hcz36_1
            try clear hcz36_2
            try clear hcz43_0
            try clear hcz43_1
            try clear hcz43_2
            try clear hcz46_0
            try clear hcz46_1
            try clear hcz46_2
            try clear hcz51_0
            try clear hcz51_1
            try clear hcz51_2
            try clear hcz54_0
            try clear hcz54_1
            try clear hcz54_2
            try clear hcz69_0
            try clear hcz69_1
            try clear hcz69_2
            try clear hcz6_0
            try clear hcz6_1
            try clear hcz6_2
            try clear hcz77_0
            try clear hcz77_1
            try clear hcz77_2
            try clear hcz80_0
            try clear hcz80_1
            try clear hcz80_2
            try clear hcz85_0
            try clear hcz85_1
            try clear hcz85_2
            try clear hcz88_0
            try clear hcz88_1
            try clear hcz88_2
            try clear hfz101_0
            try clear hfz101_1
            try clear hfz101_2
            try clear hfz103_0
            try clear hfz103_1
            try clear hfz103_2
            try clear hfz107_0
            try clear hfz107_1
            try clear hfz107_2
            try clear hfz116_0
            try clear hfz116_1
            try clear hfz116_2
            try clear hfz124_0
            try clear hfz124_1
            try clear hfz124_2
            try clear hfz128_0
            try clear hfz128_1
            try clear hfz128_2
            try clear hfz134_0
            try clear hfz134_1
            try clear hfz134_2
            try clear hfz138_0
            try clear hfz138_1
            try clear hfz138_2
            try clear hfz14_0
            try clear hfz14_1
            try clear hfz14_2
            try clear hfz16_0
            try clear hfz16_1
            try clear hfz16_2
            try clear hfz22_0
            try clear hfz22_1
            try clear hfz22_2
            try clear hfz24_0
            try clear hfz24_1
            try clear hfz24_2
            try clear hfz29_0
            try clear hfz29_1
            try clear hfz29_2
            try clear hfz36_0
            try clear hfz36_1
            try clear hfz36_2
            try clear hfz43_0
            try clear hfz43_1
            try clear hfz43_2
            try clear hfz46_0
            try clear hfz46_1
            try clear hfz46_2
            try clear hfz51_0
            try clear hfz51_1
            try clear hfz51_2
            try clear hfz54_0
            try clear hfz54_1
            try clear hfz54_2
            try clear hfz69_0
            try clear hfz69_1
            try clear hfz69_2
            try clear hfz6_0
            try clear hfz6_1
            try clear hfz6_2
            try clear hfz77_0
            try clear hfz77_1
            try clear hfz77_2
            try clear hfz80_0
            try clear hfz80_1
            try clear hfz80_2
            try clear hfz85_0
            try clear hfz85_1
            try clear hfz85_2
            try clear hfz88_0
            try clear hfz88_1
            try clear hfz88_2
            try clear p2
            obtain ⟨kq, x92_96, rfl, HA, HJ96, HO_432002, HO_438002, HO_445002, HO_470002, BK418, BK431, BK437, BK444, BK469, HB⟩ := hcut
            have hl445002_96 := (Kd.R_reads' HO_445002.out).1
            rw [hl445002_96] at HO_445002
            (try simp only [hl445002_96])
            (try simp only [hl445002_96] at BK418)
            (try simp only [hl445002_96] at BK431)
            (try simp only [hl445002_96] at BK437)
            (try simp only [hl445002_96] at BK444)
            (try simp only [hl445002_96] at BK469)
            (try simp only [hl445002_96] at HO_432002)
            (try simp only [hl445002_96] at HO_438002)
            (try simp only [hl445002_96] at HO_470002)
            cases kq with
            | zero => exact absurd HA.out (by simp [laws_FnExactCompleteChart.j2])
            | succ kj96 =>
             have H := HA.out
             clear HA
             simp only [laws_FnExactCompleteChart.j2] at H
             by_cases c140 : x92_96 = true
             ·subst c140
              have H1 : (some false) = some r := by rw [if_pos rfl] at H; exact H
              clear H
              have H := H1
              clear H1
              exact absurd (H.trans (congrArg some HRT.out)) (by simp)
             ·replace c140 := Bool.eq_false_iff.mpr c140
              subst c140
              have H1 : ((laws_heldChart.f kj96 t438 t439 t456 1).bind fun t471 => (if t471 < 0 then (some false) else (if t471 = t455 then (some true) else (some false)))) = some r := by rw [if_neg (show ¬ (false = true) by decide)] at H; exact H
              clear H
              have H := H1
              clear H1
              replace H := Option.bind_eq_some_iff.mp H
              obtain ⟨t471, A1410, H⟩ := H
              replace H : (if t471 < 0 then (some false) else (if t471 = t455 then (some true) else (some false))) = some r := H
              have A141 := Aside0.mk A1410
              clear A1410
              by_cases c142 : t471 < 0
              ·rw [if_pos c142] at H
               have c142b0 : decide (t471 < 0) = true := decide_eq_true c142
               clear c142
               exact absurd (H.trans (congrArg some HRT.out)) (by simp)
              ·rw [if_neg c142] at H
               have c142b0 : decide (t471 < 0) = false := decide_eq_false c142
               clear c142
               by_cases c143 : t471 = t455
               ·rw [if_pos c143] at H
                have c143b0 : (t471 == t455) = true := beq_iff_eq.mpr c143
                have c143b1 : (t471 != t455) = false := bne_eq_false_iff_eq.mpr c143
                clear c143
                obtain rfl := Option.some.inj H
                have hnb144 := NB444_418.out
                have hnc144 := NB418_444.out
                have hnb145 := NB444_431.out
                have hnc145 := NB431_444.out
                have hnb146 := NB444_437.out
                have hnc146 := NB437_444.out
                have hnb147 := NB444_469.out
                have hnc147 := NB469_444.out
                obtain ⟨hcz148_0, hcz148_1, hcz148_2, hfz148_0, hfz148_1, hfz148_2⟩ := bc3_ (w := wc) BK444
                go_wp2_with (first | ((with_reducible refine gate_callee (f := 20) rfl ?_); refine goesB (some 95) Try.func20 #[.agg #[.int .i64 t438, .int .i64 t439, .slice Ao37 t456.length co37], .int .i64 1] ?_; (with_reducible refine (laws_heldChart.calls kj96 t438 t439 _ _ t456 1 t471 _ ?side1 ?side2 A141.out).mono ?_); (case side1 => exact co_ (Kd.R_reads' HO_445002.out).2.2); (case side2 => exact (Kd.R_reads' HO_445002.out).2.1); rintro e w149 ⟨rfl, hb⟩; refine ⟨_, rfl, ?_⟩; replace HO_432002 := Aside0.mk (Kd.R_below (ra_ HO_432002) hb); replace HO_438002 := Aside0.mk (Kd.R_below (ra_ HO_438002) hb); replace HO_445002 := Aside0.mk (Kd.R_below (ra_ HO_445002) hb); replace HO_470002 := Aside0.mk (Kd.R_below (ra_ HO_470002) hb); replace BK418 := bb_ BK418 hb; replace BK431 := bb_ BK431 hb; replace BK437 := bb_ BK437 hb; replace BK444 := bb_ BK444 hb; replace BK469 := bb_ BK469 hb; replace HB := Aside0.mk (below_step (bw_ w) hb); (try clear hb); (try clear hb2); (try clear hk); (try clear hi)))
                go_ret
                exact ⟨by first | rfl | (simp [errW_none, errW_some] <;> rfl) | (simp [*, errW_none, errW_some] <;> rfl), (bw_ w)⟩
               ·rw [if_neg c143] at H
                have c143b0 : (t471 == t455) = false := beq_eq_false_iff_ne.mpr c143
                have c143b1 : (t471 != t455) = true := bne_iff_ne.mpr c143
                exact absurd (H.trans (congrArg some HRT.out)) (by simp)
          ·rw [if_neg c94] at H
           have c94b0 : (t457 == t455) = false := beq_eq_false_iff_ne.mpr c94
           have c94b1 : (t457 != t455) = true := bne_iff_ne.mpr c94
           exact absurd (H.trans (congrArg some HRT.out)) (by simp)
     ·replace c59 := Bool.eq_false_iff.mpr c59
      subst c59
      have H1 : (some false) = some r := by rw [if_neg (show ¬ (false = true) by decide)] at H; exact H
      clear H
      have H := H1
      clear H1
      exact absurd (H.trans (congrArg some HRT.out)) (by simp)

/-- The pure statement of laws_FnExactCompleteChart. -/
def laws_FnExactCompleteChart.Pure : Prop := ∀ (a0_0 : Int) (a0_1 : Int) (l0_2 : List Int) (a1 : Int), ((Lit.int .i64 a0_0).wf = true) → ((Lit.int .i64 a0_1).wf = true) → (l0_2.length * 8 ≤ 140737488351232) → (∀ y0 ∈ l0_2, (Lit.int .i64 y0).wf = true) → ((Lit.int .i64 a1).wf = true) → ∃ k, laws_FnExactCompleteChart.f k a0_0 a0_1 l0_2 a1 = some true

end Go.Proofs.Ytijmljaemalgmaa.PFnExactCompleteChart
