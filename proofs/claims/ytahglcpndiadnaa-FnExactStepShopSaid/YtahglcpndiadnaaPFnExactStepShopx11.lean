-- Printed by this session's own program (wip/tool/myprint.py, over the kit's print); Lean checks it.
import Derived.Test.YtahglcpndiadnaaPFnExactStepShopx0
import Derived.Test.YtahglcpndiadnaaPFnExactStepShopx4
import Derived.Test.YtahglcpndiadnaaPFnExactStepShopx5
import Derived.Test.YtahglcpndiadnaaPFnExactStepShopx9
import Derived.Test.YtahglcpndiadnaaPFnExactStepShopx10
namespace Go.Proofs.Ytahglcpndiadnaa.PFnExactStepShop
open Go.RowKit Go.Proofs.YtahglcpndiadnaaW.PrintWords Go.Proofs.YtahglcpndiadnaaW.PrintLast Go.Proofs.YtahglcpndiadnaaW.PrintMore
attribute [local go_sem] max2_int min2_int max_two min_two max_three min_three max_four min_four   -- for this text's walks alone
set_option linter.unusedVariables false
set_option linter.unusedSimpArgs false

/-! ### laws_FnExactStepShop: function 4 -/
mutual
def laws_FnExactStepShop.j0 : Nat → Bool → Bool → Bool → Int → Int → List (S143) → Int → Int → Int → Int → Int → Int → List (S34) → Int → Int → Int → List (S34) → Int → Int → Int → List (S34) → Int → Option (Bool)
  | 0, _, _, _, _, _, _, _, _, _, _, _, _, _, _, _, _, _, _, _, _, _, _ => none
  | k + 1, x7, x10, x46, x337000, x337001, x337002, x337003, x338000, x338001, x338002, x356000, x356001, x356002, x356003, x363000, x363001, x363002, x363003, x374000, x374001, x374002, x374003 => if x46 = true then (some false) else ((laws_toShop.f k x337000 x337001 x337002 x337003).bind fun bt375 => ((laws_eqShop.f k x363000 x363001 x363002 x363003 bt375.1 bt375.2.1 bt375.2.2.1 bt375.2.2.2).bind fun t381 => (if t381 = true then ((laws_markShop.f k x363000 x363001 x363002 x363003 1).bind fun bt382 => (if bt382.1 < 0 then (laws_FnExactStepShop.j1 k x7 true x337000 x337001 x337002 x337003 x338000 x338001 x338002 x356000 x356001 x356002 x356003 x374000 x374001 x374002 x374003) else ((laws_eqShop.f k x374000 x374001 x374002 x374003 x356000 x356001 x356002 x356003).bind fun t384 => (if t384 = true then (laws_FnExactStepShop.j1 k x7 (x10 != x7) x337000 x337001 x337002 x337003 x338000 x338001 x338002 x356000 x356001 x356002 x356003 x374000 x374001 x374002 x374003) else (laws_FnExactStepShop.j1 k x7 true x337000 x337001 x337002 x337003 x338000 x338001 x338002 x356000 x356001 x356002 x356003 x374000 x374001 x374002 x374003))))) else (some false))))
def laws_FnExactStepShop.j1 : Nat → Bool → Bool → Int → Int → List (S143) → Int → Int → Int → Int → Int → Int → List (S34) → Int → Int → Int → List (S34) → Int → Option (Bool)
  | 0, _, _, _, _, _, _, _, _, _, _, _, _, _, _, _, _, _ => none
  | k + 1, x7, x67, x337000, x337001, x337002, x337003, x338000, x338001, x338002, x356000, x356001, x356002, x356003, x374000, x374001, x374002, x374003 => if x67 = true then (some false) else ((laws_markShop.f k x374000 x374001 x374002 x374003 1).bind fun bt385 => ((laws_heldShop.f k x374000 x374001 bt385.2 x374003 1).bind fun t387 => (if t387 < 0 then (some false) else (if t387 = bt385.1 then ((laws_toShop.f k x337000 x337001 x337002 x337003).bind fun bt388 => ((laws_toShopStep.f x338000 x338001 x338002).bind fun bt394 => ((impl_StepShop.f k bt388.1 bt388.2.1 bt388.2.2.1 bt388.2.2.2 bt394.1 bt394.2.1 bt394.2.2).bind fun bt397 => ((laws_eqShop.f k bt397.1 bt397.2.1 bt397.2.2.1 bt397.2.2.2.1 x356000 x356001 x356002 x356003).bind fun t405 => (if t405 = true then (laws_FnExactStepShop.j2 k bt385.1 (bt397.2.2.2.2 != x7) x374000 x374001 bt385.2 x374003) else (laws_FnExactStepShop.j2 k bt385.1 true x374000 x374001 bt385.2 x374003)))))) else (some false)))))
def laws_FnExactStepShop.j2 : Nat → Int → Bool → Int → Int → List (S34) → Int → Option (Bool)
  | 0, _, _, _, _, _, _ => none
  | k + 1, x12, x95, x374000, x374001, x374002, x374003 => if x95 = true then (some false) else ((laws_heldShop.f k x374000 x374001 x374002 x374003 1).bind fun t406 => (if t406 < 0 then (some false) else (if t406 = x12 then (some true) else (some false))))
end
def laws_FnExactStepShop.f (k : Nat) (a0_0 : Int) (a0_1 : Int) (l0_2 : List (S143)) (a0_3 : Int) (a1_0 : Int) (a1_1 : Int) (a1_2 : Int) : Option (Bool) := (laws_szShop.f a0_0 a0_1 l0_2 a0_3 1048576).bind fun t338 => (if t338 < 0 then (some true) else ((laws_toShop.f k a0_0 a0_1 l0_2 a0_3).bind fun bt339 => ((laws_toShopStep.f a1_0 a1_1 a1_2).bind fun bt345 => ((spec_StepShop.f k bt339.1 bt339.2.1 bt339.2.2.1 bt339.2.2.2 bt345.1 bt345.2.1 bt345.2.2).bind fun bt348 => ((laws_toShop.f k a0_0 a0_1 l0_2 a0_3).bind fun bt356 => ((laws_toShopStep.f a1_0 a1_1 a1_2).bind fun bt363 => ((impl_StepShop.f k bt356.1 bt356.2.1 bt356.2.2.1 bt356.2.2.2 bt363.1 bt363.2.1 bt363.2.2).bind fun bt366 => ((laws_eqShop.f k bt366.1 bt366.2.1 bt366.2.2.1 bt366.2.2.2.1 bt348.1 bt348.2.1 bt348.2.2.1 bt348.2.2.2.1).bind fun t374 => (if t374 = true then (laws_FnExactStepShop.j0 k bt348.2.2.2.2 bt366.2.2.2.2 (bt366.2.2.2.2 != bt348.2.2.2.2) a0_0 a0_1 l0_2 a0_3 a1_0 a1_1 a1_2 bt348.1 bt348.2.1 bt348.2.2.1 bt348.2.2.2.1 bt356.1 bt356.2.1 bt356.2.2.1 bt356.2.2.2 bt366.1 bt366.2.1 bt366.2.2.1 bt366.2.2.2.1) else (laws_FnExactStepShop.j0 k bt348.2.2.2.2 bt366.2.2.2.2 true a0_0 a0_1 l0_2 a0_3 a1_0 a1_1 a1_2 bt348.1 bt348.2.1 bt348.2.2.1 bt348.2.2.2.1 bt356.1 bt356.2.1 bt356.2.2.1 bt356.2.2.2 bt366.1 bt366.2.1 bt366.2.2.1 bt366.2.2.2.1))))))))))
theorem laws_FnExactStepShop.mono_l : ∀ k, (∀ y0 y1 y2 y3 y4 y5 y6 y7 y8 y9 y10 y11 y12 y13 y14 y15 y16 y17 y18 y19 y20 y21, LeO (laws_FnExactStepShop.j0 k y0 y1 y2 y3 y4 y5 y6 y7 y8 y9 y10 y11 y12 y13 y14 y15 y16 y17 y18 y19 y20 y21) (laws_FnExactStepShop.j0 (k + 1) y0 y1 y2 y3 y4 y5 y6 y7 y8 y9 y10 y11 y12 y13 y14 y15 y16 y17 y18 y19 y20 y21)) ∧ (∀ y0 y1 y2 y3 y4 y5 y6 y7 y8 y9 y10 y11 y12 y13 y14 y15 y16, LeO (laws_FnExactStepShop.j1 k y0 y1 y2 y3 y4 y5 y6 y7 y8 y9 y10 y11 y12 y13 y14 y15 y16) (laws_FnExactStepShop.j1 (k + 1) y0 y1 y2 y3 y4 y5 y6 y7 y8 y9 y10 y11 y12 y13 y14 y15 y16)) ∧ (∀ y0 y1 y2 y3 y4 y5, LeO (laws_FnExactStepShop.j2 k y0 y1 y2 y3 y4 y5) (laws_FnExactStepShop.j2 (k + 1) y0 y1 y2 y3 y4 y5))
  | 0 => ⟨fun _ _ _ _ _ _ _ _ _ _ _ _ _ _ _ _ _ _ _ _ _ _ r h => by simp [laws_FnExactStepShop.j0] at h, fun _ _ _ _ _ _ _ _ _ _ _ _ _ _ _ _ _ r h => by simp [laws_FnExactStepShop.j1] at h, fun _ _ _ _ _ _ r h => by simp [laws_FnExactStepShop.j2] at h⟩
  | k + 1 => by
    obtain ⟨ih0, ih1, ih2⟩ := laws_FnExactStepShop.mono_l k
    refine ⟨?_, ?_, ?_⟩
    · intro y0 y1 y2 y3 y4 y5 y6 y7 y8 y9 y10 y11 y12 y13 y14 y15 y16 y17 y18 y19 y20 y21
      unfold laws_FnExactStepShop.j0
      repeat' first
      | (with_reducible exact ih0 _ _ _ _ _ _ _ _ _ _ _ _ _ _ _ _ _ _ _ _ _ _)
      | (with_reducible exact ih1 _ _ _ _ _ _ _ _ _ _ _ _ _ _ _ _ _)
      | (with_reducible exact ih2 _ _ _ _ _ _)
      | (with_reducible exact impl_StepShop.mono _ _ _ _ _ _ _ _)
      | (with_reducible exact laws_eqShop.mono _ _ _ _ _ _ _ _ _)
      | (with_reducible exact laws_heldShop.mono _ _ _ _ _ _)
      | (with_reducible exact laws_markShop.mono _ _ _ _ _ _)
      | (with_reducible exact laws_toShop.mono _ _ _ _ _)
      | (with_reducible exact spec_StepShop.mono _ _ _ _ _ _ _ _)
      | (with_reducible exact LeO.refl _)
      | (with_reducible exact LeO.none _)
      | (with_reducible refine LeO.ite ?_ ?_)
      | (with_reducible refine LeO.bind ?_ (fun _ => ?_))
      | exact ih0 _ _ _ _ _ _ _ _ _ _ _ _ _ _ _ _ _ _ _ _ _ _
      | exact ih1 _ _ _ _ _ _ _ _ _ _ _ _ _ _ _ _ _
      | exact ih2 _ _ _ _ _ _
      | exact impl_StepShop.mono _ _ _ _ _ _ _ _
      | exact laws_eqShop.mono _ _ _ _ _ _ _ _ _
      | exact laws_heldShop.mono _ _ _ _ _ _
      | exact laws_markShop.mono _ _ _ _ _ _
      | exact laws_toShop.mono _ _ _ _ _
      | exact spec_StepShop.mono _ _ _ _ _ _ _ _
      | exact LeO.none _
      | refine LeO.ite ?_ ?_
      | refine LeO.bind ?_ (fun _ => ?_)
    · intro y0 y1 y2 y3 y4 y5 y6 y7 y8 y9 y10 y11 y12 y13 y14 y15 y16
      unfold laws_FnExactStepShop.j1
      repeat' first
      | (with_reducible exact ih0 _ _ _ _ _ _ _ _ _ _ _ _ _ _ _ _ _ _ _ _ _ _)
      | (with_reducible exact ih1 _ _ _ _ _ _ _ _ _ _ _ _ _ _ _ _ _)
      | (with_reducible exact ih2 _ _ _ _ _ _)
      | (with_reducible exact impl_StepShop.mono _ _ _ _ _ _ _ _)
      | (with_reducible exact laws_eqShop.mono _ _ _ _ _ _ _ _ _)
      | (with_reducible exact laws_heldShop.mono _ _ _ _ _ _)
      | (with_reducible exact laws_markShop.mono _ _ _ _ _ _)
      | (with_reducible exact laws_toShop.mono _ _ _ _ _)
      | (with_reducible exact spec_StepShop.mono _ _ _ _ _ _ _ _)
      | (with_reducible exact LeO.refl _)
      | (with_reducible exact LeO.none _)
      | (with_reducible refine LeO.ite ?_ ?_)
      | (with_reducible refine LeO.bind ?_ (fun _ => ?_))
      | exact ih0 _ _ _ _ _ _ _ _ _ _ _ _ _ _ _ _ _ _ _ _ _ _
      | exact ih1 _ _ _ _ _ _ _ _ _ _ _ _ _ _ _ _ _
      | exact ih2 _ _ _ _ _ _
      | exact impl_StepShop.mono _ _ _ _ _ _ _ _
      | exact laws_eqShop.mono _ _ _ _ _ _ _ _ _
      | exact laws_heldShop.mono _ _ _ _ _ _
      | exact laws_markShop.mono _ _ _ _ _ _
      | exact laws_toShop.mono _ _ _ _ _
      | exact spec_StepShop.mono _ _ _ _ _ _ _ _
      | exact LeO.none _
      | refine LeO.ite ?_ ?_
      | refine LeO.bind ?_ (fun _ => ?_)
    · intro y0 y1 y2 y3 y4 y5
      unfold laws_FnExactStepShop.j2
      repeat' first
      | (with_reducible exact ih0 _ _ _ _ _ _ _ _ _ _ _ _ _ _ _ _ _ _ _ _ _ _)
      | (with_reducible exact ih1 _ _ _ _ _ _ _ _ _ _ _ _ _ _ _ _ _)
      | (with_reducible exact ih2 _ _ _ _ _ _)
      | (with_reducible exact impl_StepShop.mono _ _ _ _ _ _ _ _)
      | (with_reducible exact laws_eqShop.mono _ _ _ _ _ _ _ _ _)
      | (with_reducible exact laws_heldShop.mono _ _ _ _ _ _)
      | (with_reducible exact laws_markShop.mono _ _ _ _ _ _)
      | (with_reducible exact laws_toShop.mono _ _ _ _ _)
      | (with_reducible exact spec_StepShop.mono _ _ _ _ _ _ _ _)
      | (with_reducible exact LeO.refl _)
      | (with_reducible exact LeO.none _)
      | (with_reducible refine LeO.ite ?_ ?_)
      | (with_reducible refine LeO.bind ?_ (fun _ => ?_))
      | exact ih0 _ _ _ _ _ _ _ _ _ _ _ _ _ _ _ _ _ _ _ _ _ _
      | exact ih1 _ _ _ _ _ _ _ _ _ _ _ _ _ _ _ _ _
      | exact ih2 _ _ _ _ _ _
      | exact impl_StepShop.mono _ _ _ _ _ _ _ _
      | exact laws_eqShop.mono _ _ _ _ _ _ _ _ _
      | exact laws_heldShop.mono _ _ _ _ _ _
      | exact laws_markShop.mono _ _ _ _ _ _
      | exact laws_toShop.mono _ _ _ _ _
      | exact spec_StepShop.mono _ _ _ _ _ _ _ _
      | exact LeO.none _
      | refine LeO.ite ?_ ?_
      | refine LeO.bind ?_ (fun _ => ?_)
theorem laws_FnExactStepShop.mono : ∀ a0 a1 a2 a3 a4 a5 a6 k, LeO (laws_FnExactStepShop.f k a0 a1 a2 a3 a4 a5 a6) (laws_FnExactStepShop.f (k + 1) a0 a1 a2 a3 a4 a5 a6) := by
  intro a0 a1 a2 a3 a4 a5 a6 k
  obtain ⟨ih0, ih1, ih2⟩ := laws_FnExactStepShop.mono_l k
  unfold laws_FnExactStepShop.f
  repeat' first
      | (with_reducible exact ih0 _ _ _ _ _ _ _ _ _ _ _ _ _ _ _ _ _ _ _ _ _ _)
      | (with_reducible exact ih1 _ _ _ _ _ _ _ _ _ _ _ _ _ _ _ _ _)
      | (with_reducible exact ih2 _ _ _ _ _ _)
      | (with_reducible exact impl_StepShop.mono _ _ _ _ _ _ _ _)
      | (with_reducible exact laws_eqShop.mono _ _ _ _ _ _ _ _ _)
      | (with_reducible exact laws_heldShop.mono _ _ _ _ _ _)
      | (with_reducible exact laws_markShop.mono _ _ _ _ _ _)
      | (with_reducible exact laws_toShop.mono _ _ _ _ _)
      | (with_reducible exact spec_StepShop.mono _ _ _ _ _ _ _ _)
      | (with_reducible exact LeO.refl _)
      | (with_reducible exact LeO.none _)
      | (with_reducible refine LeO.ite ?_ ?_)
      | (with_reducible refine LeO.bind ?_ (fun _ => ?_))
      | exact ih0 _ _ _ _ _ _ _ _ _ _ _ _ _ _ _ _ _ _ _ _ _ _
      | exact ih1 _ _ _ _ _ _ _ _ _ _ _ _ _ _ _ _ _
      | exact ih2 _ _ _ _ _ _
      | exact impl_StepShop.mono _ _ _ _ _ _ _ _
      | exact laws_eqShop.mono _ _ _ _ _ _ _ _ _
      | exact laws_heldShop.mono _ _ _ _ _ _
      | exact laws_markShop.mono _ _ _ _ _ _
      | exact laws_toShop.mono _ _ _ _ _
      | exact spec_StepShop.mono _ _ _ _ _ _ _ _
      | exact LeO.none _
      | refine LeO.ite ?_ ?_
      | refine LeO.bind ?_ (fun _ => ?_)
def laws_FnExactStepShop.T5 : Bool × List (List Nat × List Nat) := (true, [([], []), ([0], [0]), ([], []), ([2, 1], [2]), ([1, 3, 3], [1, 3]), ([4], [4]), ([5], [5]), ([5], [5]), ([], []), ([8, 6, 4, 0, 1, 2, 3, 4, 5, 6, 8], [6, 8]), ([7, 9, 0, 1, 2, 3, 4, 5, 6, 7, 8, 9], [7])])
def laws_FnExactStepShop.B5 : List Nat := [0, 1, 0, 7, 15, 31, 63, 63, 0, 383, 1023]
theorem laws_FnExactStepShop.tab5 : rtab .any (opsOf Try.f4 5) = laws_FnExactStepShop.T5 := by kernel_rfl
theorem laws_FnExactStepShop.bits5 : waitsOk laws_FnExactStepShop.T5.2 laws_FnExactStepShop.B5 = true := by kernel_rfl
def laws_FnExactStepShop.T7 : Bool × List (List Nat × List Nat) := (true, [([], []), ([], []), ([1], [1]), ([0, 2, 2], [0, 2]), ([3], [3]), ([4], [4]), ([4], [4]), ([], []), ([7, 5, 3, 0, 1, 2, 3, 4, 5, 7], [5, 7]), ([6, 8, 0, 1, 2, 3, 4, 5, 6, 7, 8], [6])])
def laws_FnExactStepShop.B7 : List Nat := [0, 0, 2, 7, 15, 31, 31, 0, 191, 511]
theorem laws_FnExactStepShop.tab7 : rtab .any (opsOf Try.f4 7) = laws_FnExactStepShop.T7 := by kernel_rfl
theorem laws_FnExactStepShop.bits7 : waitsOk laws_FnExactStepShop.T7.2 laws_FnExactStepShop.B7 = true := by kernel_rfl
def laws_FnExactStepShop.T24 : Bool × List (List Nat × List Nat) := (true, [([], []), ([0], [0]), ([], []), ([2, 1], [2]), ([1, 3, 3], [1, 3]), ([4], [4]), ([5], [5]), ([5], [5]), ([], []), ([8, 6, 4, 0, 1, 2, 3, 4, 5, 6, 8], [6, 8]), ([7, 9, 0, 1, 2, 3, 4, 5, 6, 7, 8, 9], [7])])
def laws_FnExactStepShop.B24 : List Nat := [0, 1, 0, 7, 15, 31, 63, 63, 0, 383, 1023]
theorem laws_FnExactStepShop.tab24 : rtab .any (opsOf Try.f4 24) = laws_FnExactStepShop.T24 := by kernel_rfl
theorem laws_FnExactStepShop.bits24 : waitsOk laws_FnExactStepShop.T24.2 laws_FnExactStepShop.B24 = true := by kernel_rfl
set_option maxHeartbeats 8000000 in
set_option maxRecDepth 100000 in
theorem laws_FnExactStepShop.calls (k : Nat) (a0_0 : Int) (a0_1 : Int) (A0_2 : Option Addr) (c0_2 : Nat) (l0_2 : List (S143)) (a0_3 : Int) (a1_0 : Int) (a1_1 : Int) (a1_2 : Int) (w : World) (hr0_2 : Kd.C k143 w A0_2 l0_2.length l0_2) (hc0_2 : l0_2.length ≤ c0_2) (h : laws_FnExactStepShop.f k a0_0 a0_1 l0_2 a0_3 a1_0 a1_1 a1_2 = some true) :
  Calls Try.prog 4 #[.agg #[.int .i64 a0_0, .int .i64 a0_1, .slice A0_2 l0_2.length c0_2, .int .i64 a0_3], .agg #[.int .i64 a1_0, .int .i64 a1_1, .int .i64 a1_2]] w fun e w' => e = .returned (.bool true) ∧ Below w.heap.size w w' := by
 obtain ⟨r, hrt_⟩ : ∃ r : Bool, true = r := ⟨true, rfl⟩
 rw [hrt_] at h ⊢
 have HRT := Aside0.mk hrt_.symm
 clear hrt_
 have hu38 := Try.underlying38
 have hu39 := Try.underlying39
 have hu24 := Try.underlying24
 have HR0_2 := Aside0.mk hr0_2
 have HC0_2 := Aside0.mk hc0_2
 clear hr0_2 hc0_2
 have HB := Aside0.mk (Below.refl w.heap.size w)
 have H : ((laws_szShop.f a0_0 a0_1 l0_2 a0_3 1048576).bind fun t338 => (if t338 < 0 then (some true) else ((laws_toShop.f k a0_0 a0_1 l0_2 a0_3).bind fun bt339 => ((laws_toShopStep.f a1_0 a1_1 a1_2).bind fun bt345 => ((spec_StepShop.f k bt339.1 bt339.2.1 bt339.2.2.1 bt339.2.2.2 bt345.1 bt345.2.1 bt345.2.2).bind fun bt348 => ((laws_toShop.f k a0_0 a0_1 l0_2 a0_3).bind fun bt356 => ((laws_toShopStep.f a1_0 a1_1 a1_2).bind fun bt363 => ((impl_StepShop.f k bt356.1 bt356.2.1 bt356.2.2.1 bt356.2.2.2 bt363.1 bt363.2.1 bt363.2.2).bind fun bt366 => ((laws_eqShop.f k bt366.1 bt366.2.1 bt366.2.2.1 bt366.2.2.2.1 bt348.1 bt348.2.1 bt348.2.2.1 bt348.2.2.2.1).bind fun t374 => (if t374 = true then (laws_FnExactStepShop.j0 k bt348.2.2.2.2 bt366.2.2.2.2 (bt366.2.2.2.2 != bt348.2.2.2.2) a0_0 a0_1 l0_2 a0_3 a1_0 a1_1 a1_2 bt348.1 bt348.2.1 bt348.2.2.1 bt348.2.2.2.1 bt356.1 bt356.2.1 bt356.2.2.1 bt356.2.2.2 bt366.1 bt366.2.1 bt366.2.2.1 bt366.2.2.2.1) else (laws_FnExactStepShop.j0 k bt348.2.2.2.2 bt366.2.2.2.2 true a0_0 a0_1 l0_2 a0_3 a1_0 a1_1 a1_2 bt348.1 bt348.2.1 bt348.2.2.1 bt348.2.2.2.1 bt356.1 bt356.2.1 bt356.2.2.1 bt356.2.2.2 bt366.1 bt366.2.1 bt366.2.2.1 bt366.2.2.2.1))))))))))) = some r := h
 clear h
 replace H := Option.bind_eq_some_iff.mp H
 obtain ⟨t338, A30, H⟩ := H
 replace H : (if t338 < 0 then (some true) else ((laws_toShop.f k a0_0 a0_1 l0_2 a0_3).bind fun bt339 => ((laws_toShopStep.f a1_0 a1_1 a1_2).bind fun bt345 => ((spec_StepShop.f k bt339.1 bt339.2.1 bt339.2.2.1 bt339.2.2.2 bt345.1 bt345.2.1 bt345.2.2).bind fun bt348 => ((laws_toShop.f k a0_0 a0_1 l0_2 a0_3).bind fun bt356 => ((laws_toShopStep.f a1_0 a1_1 a1_2).bind fun bt363 => ((impl_StepShop.f k bt356.1 bt356.2.1 bt356.2.2.1 bt356.2.2.2 bt363.1 bt363.2.1 bt363.2.2).bind fun bt366 => ((laws_eqShop.f k bt366.1 bt366.2.1 bt366.2.2.1 bt366.2.2.2.1 bt348.1 bt348.2.1 bt348.2.2.1 bt348.2.2.2.1).bind fun t374 => (if t374 = true then (laws_FnExactStepShop.j0 k bt348.2.2.2.2 bt366.2.2.2.2 (bt366.2.2.2.2 != bt348.2.2.2.2) a0_0 a0_1 l0_2 a0_3 a1_0 a1_1 a1_2 bt348.1 bt348.2.1 bt348.2.2.1 bt348.2.2.2.1 bt356.1 bt356.2.1 bt356.2.2.1 bt356.2.2.2 bt366.1 bt366.2.1 bt366.2.2.1 bt366.2.2.2.1) else (laws_FnExactStepShop.j0 k bt348.2.2.2.2 bt366.2.2.2.2 true a0_0 a0_1 l0_2 a0_3 a1_0 a1_1 a1_2 bt348.1 bt348.2.1 bt348.2.2.1 bt348.2.2.2.1 bt356.1 bt356.2.1 bt356.2.2.1 bt356.2.2.2 bt366.1 bt366.2.1 bt366.2.2.1 bt366.2.2.2.1)))))))))) = some r := H
 have A3 := Aside0.mk A30
 clear A30
 by_cases c4 : t338 < 0
 ·rw [if_pos c4] at H
  have c4b0 : decide (t338 < 0) = true := decide_eq_true c4
  clear c4
  obtain rfl := Option.some.inj H
  go_enter Try.func4, Try.ntmps4
  go_wp2_with (first | ((with_reducible refine gate_dst (N := 2) rfl ?_); refine box_ (N := 2) (cs := #[.int .i64 a0_0, .int .i64 a0_1, .slice A0_2 l0_2.length c0_2, .int .i64 a0_3]) (t := 38) ?_; intro gb336 hg w5 hbox hb; have BK336 := Aside0.mk (hbox); have GW336 := gz_ w hg; have GE336 := gz_ w hg; replace HB := Aside0.mk (below_step (bw_ w) hb); clear hb hbox hg) | ((with_reducible refine gate_dst (N := 3) rfl ?_); refine box_ (N := 3) (cs := #[.int .i64 a1_0, .int .i64 a1_1, .int .i64 a1_2]) (t := 39) ?_; intro gb337 hg w6 hbox hb; have n0_ := bb_ BK336 hb; have n1_ := Aside0.mk (below_step (bw_ w) hb); have n2_ := Aside0.mk (hbox); have n3_ := gz_ w hg; have n4_ := gz_ w hg; have n5_ := ne_ hg BK336; have n6_ := en_ hg BK336; clear BK336; clear HB; have BK336 := n0_; have HB := n1_; have BK337 := n2_; have GW337 := n3_; have GE337 := n4_; have NB336_337 := n5_; have NB337_336 := n6_; clear n0_ n1_ n2_ n3_ n4_ n5_ n6_; clear hb hbox hg; have hnb7 := NB336_337.out; have hnc7 := NB337_336.out; obtain ⟨hcz8_0, hcz8_1, hcz8_2, hcz8_3, hfz8_0, hfz8_1, hfz8_2, hfz8_3⟩ := bc4_ (w := w6) BK336) | ((with_reducible refine gate_callee (f := 15) rfl ?_); refine goesB (some 18) Try.func15 #[.agg #[.int .i64 a0_0, .int .i64 a0_1, .slice A0_2 l0_2.length c0_2, .int .i64 a0_3], .int .i64 1048576] ?_; (with_reducible refine (laws_szShop.calls a0_0 a0_1 _ _ l0_2 a0_3 1048576 t338 _ ?side1 ?side2 A3.out).mono ?_); (case side1 => exact cb_ HR0_2 HB); (case side2 => exact HC0_2.out); rintro e w9 ⟨rfl, hb⟩; refine ⟨_, rfl, ?_⟩; replace BK336 := bb_ BK336 hb; replace BK337 := bb_ BK337 hb; replace HB := Aside0.mk (below_step (bw_ w) hb); (try clear hb); (try clear hb2); (try clear hk); (try clear hi)))
  go_ret
  exact ⟨by first | rfl | (simp [errW_none, errW_some] <;> rfl) | (simp [*, errW_none, errW_some] <;> rfl), (bw_ w)⟩
 ·rw [if_neg c4] at H
  have c4b0 : decide (t338 < 0) = false := decide_eq_false c4
  clear c4
  replace H := Option.bind_eq_some_iff.mp H
  obtain ⟨⟨t339, t340, t341, t344⟩, A100, H⟩ := H
  replace H : ((laws_toShopStep.f a1_0 a1_1 a1_2).bind fun bt345 => ((spec_StepShop.f k t339 t340 t341 t344 bt345.1 bt345.2.1 bt345.2.2).bind fun bt348 => ((laws_toShop.f k a0_0 a0_1 l0_2 a0_3).bind fun bt356 => ((laws_toShopStep.f a1_0 a1_1 a1_2).bind fun bt363 => ((impl_StepShop.f k bt356.1 bt356.2.1 bt356.2.2.1 bt356.2.2.2 bt363.1 bt363.2.1 bt363.2.2).bind fun bt366 => ((laws_eqShop.f k bt366.1 bt366.2.1 bt366.2.2.1 bt366.2.2.2.1 bt348.1 bt348.2.1 bt348.2.2.1 bt348.2.2.2.1).bind fun t374 => (if t374 = true then (laws_FnExactStepShop.j0 k bt348.2.2.2.2 bt366.2.2.2.2 (bt366.2.2.2.2 != bt348.2.2.2.2) a0_0 a0_1 l0_2 a0_3 a1_0 a1_1 a1_2 bt348.1 bt348.2.1 bt348.2.2.1 bt348.2.2.2.1 bt356.1 bt356.2.1 bt356.2.2.1 bt356.2.2.2 bt366.1 bt366.2.1 bt366.2.2.1 bt366.2.2.2.1) else (laws_FnExactStepShop.j0 k bt348.2.2.2.2 bt366.2.2.2.2 true a0_0 a0_1 l0_2 a0_3 a1_0 a1_1 a1_2 bt348.1 bt348.2.1 bt348.2.2.1 bt348.2.2.2.1 bt356.1 bt356.2.1 bt356.2.2.1 bt356.2.2.2 bt366.1 bt366.2.1 bt366.2.2.1 bt366.2.2.2.1)))))))) = some r := H
  have A10 := Aside0.mk A100
  clear A100
  replace H := Option.bind_eq_some_iff.mp H
  obtain ⟨⟨t345, t346, t347⟩, A110, H⟩ := H
  replace H : ((spec_StepShop.f k t339 t340 t341 t344 t345 t346 t347).bind fun bt348 => ((laws_toShop.f k a0_0 a0_1 l0_2 a0_3).bind fun bt356 => ((laws_toShopStep.f a1_0 a1_1 a1_2).bind fun bt363 => ((impl_StepShop.f k bt356.1 bt356.2.1 bt356.2.2.1 bt356.2.2.2 bt363.1 bt363.2.1 bt363.2.2).bind fun bt366 => ((laws_eqShop.f k bt366.1 bt366.2.1 bt366.2.2.1 bt366.2.2.2.1 bt348.1 bt348.2.1 bt348.2.2.1 bt348.2.2.2.1).bind fun t374 => (if t374 = true then (laws_FnExactStepShop.j0 k bt348.2.2.2.2 bt366.2.2.2.2 (bt366.2.2.2.2 != bt348.2.2.2.2) a0_0 a0_1 l0_2 a0_3 a1_0 a1_1 a1_2 bt348.1 bt348.2.1 bt348.2.2.1 bt348.2.2.2.1 bt356.1 bt356.2.1 bt356.2.2.1 bt356.2.2.2 bt366.1 bt366.2.1 bt366.2.2.1 bt366.2.2.2.1) else (laws_FnExactStepShop.j0 k bt348.2.2.2.2 bt366.2.2.2.2 true a0_0 a0_1 l0_2 a0_3 a1_0 a1_1 a1_2 bt348.1 bt348.2.1 bt348.2.2.1 bt348.2.2.2.1 bt356.1 bt356.2.1 bt356.2.2.1 bt356.2.2.2 bt366.1 bt366.2.1 bt366.2.2.1 bt366.2.2.2.1))))))) = some r := H
  have A11 := Aside0.mk A110
  clear A110
  replace H := Option.bind_eq_some_iff.mp H
  obtain ⟨⟨t348, t349, t350, t353, t354⟩, A120, H⟩ := H
  replace H : ((laws_toShop.f k a0_0 a0_1 l0_2 a0_3).bind fun bt356 => ((laws_toShopStep.f a1_0 a1_1 a1_2).bind fun bt363 => ((impl_StepShop.f k bt356.1 bt356.2.1 bt356.2.2.1 bt356.2.2.2 bt363.1 bt363.2.1 bt363.2.2).bind fun bt366 => ((laws_eqShop.f k bt366.1 bt366.2.1 bt366.2.2.1 bt366.2.2.2.1 t348 t349 t350 t353).bind fun t374 => (if t374 = true then (laws_FnExactStepShop.j0 k t354 bt366.2.2.2.2 (bt366.2.2.2.2 != t354) a0_0 a0_1 l0_2 a0_3 a1_0 a1_1 a1_2 t348 t349 t350 t353 bt356.1 bt356.2.1 bt356.2.2.1 bt356.2.2.2 bt366.1 bt366.2.1 bt366.2.2.1 bt366.2.2.2.1) else (laws_FnExactStepShop.j0 k t354 bt366.2.2.2.2 true a0_0 a0_1 l0_2 a0_3 a1_0 a1_1 a1_2 t348 t349 t350 t353 bt356.1 bt356.2.1 bt356.2.2.1 bt356.2.2.2 bt366.1 bt366.2.1 bt366.2.2.1 bt366.2.2.2.1)))))) = some r := H
  have A12 := Aside0.mk A120
  clear A120
  replace H := Option.bind_eq_some_iff.mp H
  obtain ⟨⟨t356, t357, t358, t361⟩, A130, H⟩ := H
  replace H : ((laws_toShopStep.f a1_0 a1_1 a1_2).bind fun bt363 => ((impl_StepShop.f k t356 t357 t358 t361 bt363.1 bt363.2.1 bt363.2.2).bind fun bt366 => ((laws_eqShop.f k bt366.1 bt366.2.1 bt366.2.2.1 bt366.2.2.2.1 t348 t349 t350 t353).bind fun t374 => (if t374 = true then (laws_FnExactStepShop.j0 k t354 bt366.2.2.2.2 (bt366.2.2.2.2 != t354) a0_0 a0_1 l0_2 a0_3 a1_0 a1_1 a1_2 t348 t349 t350 t353 t356 t357 t358 t361 bt366.1 bt366.2.1 bt366.2.2.1 bt366.2.2.2.1) else (laws_FnExactStepShop.j0 k t354 bt366.2.2.2.2 true a0_0 a0_1 l0_2 a0_3 a1_0 a1_1 a1_2 t348 t349 t350 t353 t356 t357 t358 t361 bt366.1 bt366.2.1 bt366.2.2.1 bt366.2.2.2.1))))) = some r := H
  have A13 := Aside0.mk A130
  clear A130
  replace H := Option.bind_eq_some_iff.mp H
  obtain ⟨⟨t363, t364, t365⟩, A140, H⟩ := H
  replace H : ((impl_StepShop.f k t356 t357 t358 t361 t363 t364 t365).bind fun bt366 => ((laws_eqShop.f k bt366.1 bt366.2.1 bt366.2.2.1 bt366.2.2.2.1 t348 t349 t350 t353).bind fun t374 => (if t374 = true then (laws_FnExactStepShop.j0 k t354 bt366.2.2.2.2 (bt366.2.2.2.2 != t354) a0_0 a0_1 l0_2 a0_3 a1_0 a1_1 a1_2 t348 t349 t350 t353 t356 t357 t358 t361 bt366.1 bt366.2.1 bt366.2.2.1 bt366.2.2.2.1) else (laws_FnExactStepShop.j0 k t354 bt366.2.2.2.2 true a0_0 a0_1 l0_2 a0_3 a1_0 a1_1 a1_2 t348 t349 t350 t353 t356 t357 t358 t361 bt366.1 bt366.2.1 bt366.2.2.1 bt366.2.2.2.1)))) = some r := H
  have A14 := Aside0.mk A140
  clear A140
  replace H := Option.bind_eq_some_iff.mp H
  obtain ⟨⟨t366, t367, t368, t371, t372⟩, A150, H⟩ := H
  replace H : ((laws_eqShop.f k t366 t367 t368 t371 t348 t349 t350 t353).bind fun t374 => (if t374 = true then (laws_FnExactStepShop.j0 k t354 t372 (t372 != t354) a0_0 a0_1 l0_2 a0_3 a1_0 a1_1 a1_2 t348 t349 t350 t353 t356 t357 t358 t361 t366 t367 t368 t371) else (laws_FnExactStepShop.j0 k t354 t372 true a0_0 a0_1 l0_2 a0_3 a1_0 a1_1 a1_2 t348 t349 t350 t353 t356 t357 t358 t361 t366 t367 t368 t371))) = some r := H
  have A15 := Aside0.mk A150
  clear A150
  have HC16 := Aside0.mk H
  clear H
  go_enter Try.func4, Try.ntmps4
  try go_wp2_with (first | ((with_reducible refine gate_dst (N := 2) rfl ?_); refine box_ (N := 2) (cs := #[.int .i64 a0_0, .int .i64 a0_1, .slice A0_2 l0_2.length c0_2, .int .i64 a0_3]) (t := 38) ?_; intro gb336 hg w17 hbox hb; have BK336 := Aside0.mk (hbox); have GW336 := gz_ w hg; have GE336 := gz_ w hg; replace HB := Aside0.mk (below_step (bw_ w) hb); clear hb hbox hg) | ((with_reducible refine gate_dst (N := 3) rfl ?_); refine box_ (N := 3) (cs := #[.int .i64 a1_0, .int .i64 a1_1, .int .i64 a1_2]) (t := 39) ?_; intro gb337 hg w18 hbox hb; have n0_ := bb_ BK336 hb; have n1_ := Aside0.mk (below_step (bw_ w) hb); have n2_ := Aside0.mk (hbox); have n3_ := gz_ w hg; have n4_ := gz_ w hg; have n5_ := ne_ hg BK336; have n6_ := en_ hg BK336; clear BK336; clear HB; have BK336 := n0_; have HB := n1_; have BK337 := n2_; have GW337 := n3_; have GE337 := n4_; have NB336_337 := n5_; have NB337_336 := n6_; clear n0_ n1_ n2_ n3_ n4_ n5_ n6_; clear hb hbox hg; have hnb19 := NB336_337.out; have hnc19 := NB337_336.out; obtain ⟨hcz20_0, hcz20_1, hcz20_2, hcz20_3, hfz20_0, hfz20_1, hfz20_2, hfz20_3⟩ := bc4_ (w := w18) BK336) | ((with_reducible refine gate_callee (f := 15) rfl ?_); refine goesB (some 18) Try.func15 #[.agg #[.int .i64 a0_0, .int .i64 a0_1, .slice A0_2 l0_2.length c0_2, .int .i64 a0_3], .int .i64 1048576] ?_; (with_reducible refine (laws_szShop.calls a0_0 a0_1 _ _ l0_2 a0_3 1048576 t338 _ ?side1 ?side2 A3.out).mono ?_); (case side1 => exact cb_ HR0_2 HB); (case side2 => exact HC0_2.out); rintro e w21 ⟨rfl, hb⟩; refine ⟨_, rfl, ?_⟩; replace BK336 := bb_ BK336 hb; replace BK337 := bb_ BK337 hb; replace HB := Aside0.mk (below_step (bw_ w) hb); (try clear hb); (try clear hb2); (try clear hk); (try clear hi)))
  replace BK336 := Aside0.mk (blk_drew BK336.out)
  replace BK337 := Aside0.mk (blk_drew BK337.out)
  replace HB := Aside0.mk (below_drew1 HB.out)
  refine start_ (n := 11) (S := fun w' => w'.cell? ⟨gb336, 0, none⟩ = some (.int .i64 a0_0) ∧ w'.cell? ⟨gb336, 1, none⟩ = some (.int .i64 a0_1) ∧ w'.cell? ⟨gb336, 2, none⟩ = some (.slice A0_2 l0_2.length c0_2) ∧ w'.cell? ⟨gb336, 3, none⟩ = some (.int .i64 a0_3) ∧ w'.cell? ⟨gb337, 0, none⟩ = some (.int .i64 a1_0) ∧ w'.cell? ⟨gb337, 1, none⟩ = some (.int .i64 a1_1) ∧ w'.cell? ⟨gb337, 2, none⟩ = some (.int .i64 a1_2)) (ds := []) #[false, false, false, false, false, false, false, false, false, false, false] (by kernel_rfl) rfl rfl ⟨bc_ BK336 0, bc_ BK336 1, bc_ BK336 2, bc_ BK336 3, bc_ BK337 0, bc_ BK337 1, bc_ BK337 2⟩ (fun hHeld => ?_); refine with_tabW laws_FnExactStepShop.tab5 laws_FnExactStepShop.bits5 (fun HT_ HW_ => ?_)
  generalize w21.drew = w22 at BK336 BK337 HB hHeld ⊢
  refine takeA (N := some 22) 0 HT_ HW_ hHeld ?_
  refine takeA (N := some 24) 2 HT_ HW_ hHeld ?_
  refine join_ (σ := Value × Value × Nat) 2 #[true, true, true, true, true, true, true, true, true, false, false] (fun s_ => [(23, .agg #[.int .i64 t339, .int .i64 t340, s_.1, .int .i64 t344]), (25, .agg #[.int .i64 t345, .int .i64 t346, .int .i64 t347]), (26, .tuple #[.agg #[.int .i64 t348, .int .i64 t349, s_.2.1, .int .i64 t353], .bool t354]), (6, .pointer (some ⟨s_.2.2, 0, none⟩)), (21, .tuple #[.agg #[.int .i64 t348, .int .i64 t349, s_.2.1, .int .i64 t353], .bool t354]), (27, .agg #[.int .i64 t348, .int .i64 t349, s_.2.1, .int .i64 t353]), (28, .bool t354)]) (fun s_ w' => (w'.cell? ⟨gb336, 0, none⟩ = some (.int .i64 a0_0) ∧ w'.cell? ⟨gb336, 1, none⟩ = some (.int .i64 a0_1) ∧ w'.cell? ⟨gb336, 2, none⟩ = some (.slice A0_2 l0_2.length c0_2) ∧ w'.cell? ⟨gb336, 3, none⟩ = some (.int .i64 a0_3) ∧ w'.cell? ⟨gb337, 0, none⟩ = some (.int .i64 a1_0) ∧ w'.cell? ⟨gb337, 1, none⟩ = some (.int .i64 a1_1) ∧ w'.cell? ⟨gb337, 2, none⟩ = some (.int .i64 a1_2)) ∧ (Kd.R k34 34 w' w.heap.size (fun k_ => some k_ ≠ (s_.2.1 : Value).ownBlock) s_.1 t341) ∧ (Kd.R k34 34 w' w.heap.size (fun k_ => some k_ ≠ (s_.1 : Value).ownBlock) s_.2.1 t350) ∧ (w'.heap[gb336]? = some (.cells #[.int .i64 a0_0, .int .i64 a0_1, .slice A0_2 l0_2.length c0_2, .int .i64 a0_3] 38 (0, 0))) ∧ (w'.heap[gb337]? = some (.cells #[.int .i64 a1_0, .int .i64 a1_1, .int .i64 a1_2] 39 (0, 0))) ∧ (w'.heap[s_.2.2]? = some (.cells #[.int .i64 0, .int .i64 0, .slice none 0 0, .int .i64 0] 24 (0, 0))) ∧ (w.heap.size ≤ s_.2.2) ∧ (w.heap.size ≤ s_.2.2) ∧ (gb336 ≠ s_.2.2) ∧ (s_.2.2 ≠ gb336) ∧ (gb337 ≠ s_.2.2) ∧ (s_.2.2 ≠ gb337) ∧ (Below w.heap.size w w')) ?_ ?_
  rotate_left
  ·intro hCont
   refine twoA (Ni := some 23) (Nj := some 6) 1 8 HT_ (fun K hK => ?_) (fun K hK => ?_)
   ·skip
    refine goesA Try.func17 #[.agg #[.int .i64 a0_0, .int .i64 a0_1, .slice A0_2 l0_2.length c0_2, .int .i64 a0_3]] ?_
    with_reducible refine (laws_toShop.calls k a0_0 a0_1 _ _ l0_2 a0_3 t339 t340 t341 t344 _ ?side1 ?side2 A10.out).mono ?_
    (case side1 => exact cb_ HR0_2 HB)
    (case side2 => exact HC0_2.out)
    rintro e w23 ⟨v342, rfl, ho0, hb⟩
    refine ⟨_, rfl, ?_⟩
    have HO343 := Aside0.mk (Kd.R_lower ho0 (below_size (bw_ w)))
    replace BK336 := bb_ BK336 hb
    replace BK337 := bb_ BK337 hb
    replace HB := Aside0.mk (below_step (bw_ w) hb)
    (try clear hb)
    (try clear hb2)
    (try clear hk)
    (try clear hi)
    (try clear ho0)
    refine hK.out _ _ ⟨bc_ BK336 0, bc_ BK336 1, bc_ BK336 2, bc_ BK336 3, bc_ BK337 0, bc_ BK337 1, bc_ BK337 2⟩ (fun hHeld => ?_)
    clear hK K
    refine normA (N := some 23) ?_
    refine twoA (Ni := some 25) (Nj := some 6) 3 8 HT_ (fun K hK => ?_) (fun K hK => ?_)
    ·skip
     refine goesA Try.func18 #[.agg #[.int .i64 a1_0, .int .i64 a1_1, .int .i64 a1_2]] ?_
     with_reducible refine (laws_toShopStep.calls a1_0 a1_1 a1_2 t345 t346 t347 _ A11.out).mono ?_
     rintro e w24 ⟨rfl, hb⟩
     refine ⟨_, rfl, ?_⟩
     replace HO343 := Aside0.mk (Kd.R_below (ra_ HO343) hb)
     replace BK336 := bb_ BK336 hb
     replace BK337 := bb_ BK337 hb
     replace HB := Aside0.mk (below_step (bw_ w) hb)
     (try clear hb)
     (try clear hb2)
     (try clear hk)
     (try clear hi)
     obtain ⟨Ao25, co25, eo25⟩ := Kd.R_slice HO343.out
     (first | subst eo25 | (injection eo25 with f1_ f2_ f3_; have f4_ := f1_.symm; have f5_ := f3_.symm; clear f1_ f2_ f3_; subst f4_; subst f5_))
     refine hK.out _ _ ⟨bc_ BK336 0, bc_ BK336 1, bc_ BK336 2, bc_ BK336 3, bc_ BK337 0, bc_ BK337 1, bc_ BK337 2⟩ (fun hHeld => ?_)
     clear hK K
     refine normA (N := some 25) ?_
     refine twoA (Ni := some 26) (Nj := some 6) 4 8 HT_ (fun K hK => ?_) (fun K hK => ?_)
     ·skip
      refine goesA Try.func16 #[.agg #[.int .i64 t339, .int .i64 t340, .slice Ao25 t341.length co25, .int .i64 t344], .agg #[.int .i64 t345, .int .i64 t346, .int .i64 t347]] ?_
      with_reducible refine (spec_StepShop.calls k t339 t340 _ _ t341 t344 t345 t346 t347 t348 t349 t350 t353 t354 _ ?side1 ?side2 A12.out).mono ?_
      (case side1 => exact co_ (Kd.R_reads' HO343.out).2.2)
      (case side2 => exact (Kd.R_reads' HO343.out).2.1)
      rintro e w26 ⟨v351, rfl, ho0, hb⟩
      refine ⟨_, rfl, ?_⟩
      have n0_ := Aside0.mk (Kd.R_elder' (ra_ HO343) (Kd.R_base ho0) hb)
      have n1_ := Aside0.mk (Kd.R_lower (Kd.R_new' ho0 (Kd.R_lt (ra_ HO343))) (below_size (bw_ w)))
      have n2_ := bb_ BK336 hb
      have n3_ := bb_ BK337 hb
      have n4_ := Aside0.mk (below_step (bw_ w) hb)
      clear HO343
      clear BK336
      clear BK337
      clear HB
      have HO343 := n0_
      have HO352 := n1_
      have BK336 := n2_
      have BK337 := n3_
      have HB := n4_
      clear n0_ n1_ n2_ n3_ n4_
      (try clear hb)
      (try clear hb2)
      (try clear hk)
      (try clear hi)
      (try clear ho0)
      refine hK.out _ _ ⟨bc_ BK336 0, bc_ BK336 1, bc_ BK336 2, bc_ BK336 3, bc_ BK337 0, bc_ BK337 1, bc_ BK337 2⟩ (fun hHeld => ?_)
      clear hK K
      refine normA (N := some 26) ?_
      refine pureA (N := some 21) 5 HT_ ?_
      refine pureA (N := some 27) 6 HT_ ?_
      refine pureA (N := some 28) 7 HT_ ?_
      refine oneA (N := some 6) 8 HT_ (fun K hK => ?_)
      refine box_step ?hg (N := 6) ?hd (cs := #[.int .i64 0, .int .i64 0, .slice none 0 0, .int .i64 0]) (t := 24) ?hr ?_; (case hd => rfl); (case hg => rfl); (case hr => first | (go_simp; done) | (go_simp; rfl))
      intro gb355 hg w27 hbox hb
      have n0_ := Aside0.mk (Kd.R_below (ra_ HO343) hb)
      have n1_ := Aside0.mk (Kd.R_below (ra_ HO352) hb)
      have n2_ := bb_ BK336 hb
      have n3_ := bb_ BK337 hb
      have n4_ := Aside0.mk (below_step (bw_ w) hb)
      have n5_ := Aside0.mk (hbox)
      have n6_ := gz_ w hg
      have n7_ := gz_ w hg
      have n8_ := ne_ hg BK336
      have n9_ := en_ hg BK336
      have n10_ := ne_ hg BK337
      have n11_ := en_ hg BK337
      clear HO343
      clear HO352
      clear BK336
      clear BK337
      clear HB
      have HO343 := n0_
      have HO352 := n1_
      have BK336 := n2_
      have BK337 := n3_
      have HB := n4_
      have BK355 := n5_
      have GW355 := n6_
      have GE355 := n7_
      have NB336_355 := n8_
      have NB355_336 := n9_
      have NB337_355 := n10_
      have NB355_337 := n11_
      clear n0_ n1_ n2_ n3_ n4_ n5_ n6_ n7_ n8_ n9_ n10_ n11_
      clear hb hbox hg
      refine hK.out _ _ ⟨bc_ BK336 0, bc_ BK336 1, bc_ BK336 2, bc_ BK336 3, bc_ BK337 0, bc_ BK337 1, bc_ BK337 2⟩ (fun hHeld => ?_)
      clear hK K
      refine normA (N := some 6) ?_
      exact norm_ (by simp only [putAll, Act.put, List.setIfInBounds_toArray, List.set_cons_zero, List.set_cons_succ]) (hCont (.slice Ao25 t341.length co25, v351, gb355) _ ⟨hHeld, (by exact rf_ HO343.out (fun _ hk => hk.2)), (by exact rf_ HO352.out (fun _ hk => hk.2)), (bk_ BK336), (bk_ BK337), (bk_ BK355), GW355.out, GE355.out, NB336_355.out, NB355_336.out, NB337_355.out, NB355_337.out, (bw_ w)⟩)
     ·skip
      refine box_step ?hg (N := 6) ?hd (cs := #[.int .i64 0, .int .i64 0, .slice none 0 0, .int .i64 0]) (t := 24) ?hr ?_; (case hd => rfl); (case hg => rfl); (case hr => first | (go_simp; done) | (go_simp; rfl))
      intro gb355 hg w25 hbox hb
      have n0_ := Aside0.mk (Kd.R_below (ra_ HO343) hb)
      have n1_ := bb_ BK336 hb
      have n2_ := bb_ BK337 hb
      have n3_ := Aside0.mk (below_step (bw_ w) hb)
      have n4_ := Aside0.mk (hbox)
      have n5_ := gz_ w hg
      have n6_ := gz_ w hg
      have n7_ := ne_ hg BK336
      have n8_ := en_ hg BK336
      have n9_ := ne_ hg BK337
      have n10_ := en_ hg BK337
      clear HO343
      clear BK336
      clear BK337
      clear HB
      have HO343 := n0_
      have BK336 := n1_
      have BK337 := n2_
      have HB := n3_
      have BK355 := n4_
      have GW355 := n5_
      have GE355 := n6_
      have NB336_355 := n7_
      have NB355_336 := n8_
      have NB337_355 := n9_
      have NB355_337 := n10_
      clear n0_ n1_ n2_ n3_ n4_ n5_ n6_ n7_ n8_ n9_ n10_
      clear hb hbox hg
      obtain ⟨Ao26, co26, eo26⟩ := Kd.R_slice HO343.out
      (first | subst eo26 | (injection eo26 with f1_ f2_ f3_; have f4_ := f1_.symm; have f5_ := f3_.symm; clear f1_ f2_ f3_; subst f4_; subst f5_))
      refine hK.out _ _ ⟨bc_ BK336 0, bc_ BK336 1, bc_ BK336 2, bc_ BK336 3, bc_ BK337 0, bc_ BK337 1, bc_ BK337 2⟩ (fun hHeld => ?_)
      clear hK K
      refine normA (N := some 6) ?_
      refine oneA (N := some 26) 4 HT_ (fun K hK => ?_)
      refine goesA Try.func16 #[.agg #[.int .i64 t339, .int .i64 t340, .slice Ao26 t341.length co26, .int .i64 t344], .agg #[.int .i64 t345, .int .i64 t346, .int .i64 t347]] ?_
      with_reducible refine (spec_StepShop.calls k t339 t340 _ _ t341 t344 t345 t346 t347 t348 t349 t350 t353 t354 _ ?side1 ?side2 A12.out).mono ?_
      (case side1 => exact co_ (Kd.R_reads' HO343.out).2.2)
      (case side2 => exact (Kd.R_reads' HO343.out).2.1)
      rintro e w27 ⟨v351, rfl, ho0, hb⟩
      refine ⟨_, rfl, ?_⟩
      have n0_ := Aside0.mk (Kd.R_elder' (ra_ HO343) (Kd.R_base ho0) hb)
      have n1_ := Aside0.mk (Kd.R_lower (Kd.R_new' ho0 (Kd.R_lt (ra_ HO343))) (below_size (bw_ w)))
      have n2_ := bb_ BK336 hb
      have n3_ := bb_ BK337 hb
      have n4_ := bb_ BK355 hb
      have n5_ := Aside0.mk (below_step (bw_ w) hb)
      clear HO343
      clear BK336
      clear BK337
      clear BK355
      clear HB
      have HO343 := n0_
      have HO352 := n1_
      have BK336 := n2_
      have BK337 := n3_
      have BK355 := n4_
      have HB := n5_
      clear n0_ n1_ n2_ n3_ n4_ n5_
      (try clear hb)
      (try clear hb2)
      (try clear hk)
      (try clear hi)
      (try clear ho0)
      refine hK.out _ _ ⟨bc_ BK336 0, bc_ BK336 1, bc_ BK336 2, bc_ BK336 3, bc_ BK337 0, bc_ BK337 1, bc_ BK337 2⟩ (fun hHeld => ?_)
      clear hK K
      refine normA (N := some 26) ?_
      refine pureA (N := some 21) 5 HT_ ?_
      refine pureA (N := some 27) 6 HT_ ?_
      refine pureA (N := some 28) 7 HT_ ?_
      exact norm_ (by simp only [putAll, Act.put, List.setIfInBounds_toArray, List.set_cons_zero, List.set_cons_succ]) (hCont (.slice Ao26 t341.length co26, v351, gb355) _ ⟨hHeld, (by exact rf_ HO343.out (fun _ hk => hk.2)), (by exact rf_ HO352.out (fun _ hk => hk.2)), (bk_ BK336), (bk_ BK337), (bk_ BK355), GW355.out, GE355.out, NB336_355.out, NB355_336.out, NB337_355.out, NB355_337.out, (bw_ w)⟩)
    ·skip
     refine box_step ?hg (N := 6) ?hd (cs := #[.int .i64 0, .int .i64 0, .slice none 0 0, .int .i64 0]) (t := 24) ?hr ?_; (case hd => rfl); (case hg => rfl); (case hr => first | (go_simp; done) | (go_simp; rfl))
     intro gb355 hg w24 hbox hb
     have n0_ := Aside0.mk (Kd.R_below (ra_ HO343) hb)
     have n1_ := bb_ BK336 hb
     have n2_ := bb_ BK337 hb
     have n3_ := Aside0.mk (below_step (bw_ w) hb)
     have n4_ := Aside0.mk (hbox)
     have n5_ := gz_ w hg
     have n6_ := gz_ w hg
     have n7_ := ne_ hg BK336
     have n8_ := en_ hg BK336
     have n9_ := ne_ hg BK337
     have n10_ := en_ hg BK337
     clear HO343
     clear BK336
     clear BK337
     clear HB
     have HO343 := n0_
     have BK336 := n1_
     have BK337 := n2_
     have HB := n3_
     have BK355 := n4_
     have GW355 := n5_
     have GE355 := n6_
     have NB336_355 := n7_
     have NB355_336 := n8_
     have NB337_355 := n9_
     have NB355_337 := n10_
     clear n0_ n1_ n2_ n3_ n4_ n5_ n6_ n7_ n8_ n9_ n10_
     clear hb hbox hg
     refine hK.out _ _ ⟨bc_ BK336 0, bc_ BK336 1, bc_ BK336 2, bc_ BK336 3, bc_ BK337 0, bc_ BK337 1, bc_ BK337 2⟩ (fun hHeld => ?_)
     clear hK K
     refine normA (N := some 6) ?_
     refine oneA (N := some 25) 3 HT_ (fun K hK => ?_)
     refine goesA Try.func18 #[.agg #[.int .i64 a1_0, .int .i64 a1_1, .int .i64 a1_2]] ?_
     with_reducible refine (laws_toShopStep.calls a1_0 a1_1 a1_2 t345 t346 t347 _ A11.out).mono ?_
     rintro e w25 ⟨rfl, hb⟩
     refine ⟨_, rfl, ?_⟩
     replace HO343 := Aside0.mk (Kd.R_below (ra_ HO343) hb)
     replace BK336 := bb_ BK336 hb
     replace BK337 := bb_ BK337 hb
     replace BK355 := bb_ BK355 hb
     replace HB := Aside0.mk (below_step (bw_ w) hb)
     (try clear hb)
     (try clear hb2)
     (try clear hk)
     (try clear hi)
     obtain ⟨Ao26, co26, eo26⟩ := Kd.R_slice HO343.out
     (first | subst eo26 | (injection eo26 with f1_ f2_ f3_; have f4_ := f1_.symm; have f5_ := f3_.symm; clear f1_ f2_ f3_; subst f4_; subst f5_))
     refine hK.out _ _ ⟨bc_ BK336 0, bc_ BK336 1, bc_ BK336 2, bc_ BK336 3, bc_ BK337 0, bc_ BK337 1, bc_ BK337 2⟩ (fun hHeld => ?_)
     clear hK K
     refine normA (N := some 25) ?_
     refine oneA (N := some 26) 4 HT_ (fun K hK => ?_)
     refine goesA Try.func16 #[.agg #[.int .i64 t339, .int .i64 t340, .slice Ao26 t341.length co26, .int .i64 t344], .agg #[.int .i64 t345, .int .i64 t346, .int .i64 t347]] ?_
     with_reducible refine (spec_StepShop.calls k t339 t340 _ _ t341 t344 t345 t346 t347 t348 t349 t350 t353 t354 _ ?side1 ?side2 A12.out).mono ?_
     (case side1 => exact co_ (Kd.R_reads' HO343.out).2.2)
     (case side2 => exact (Kd.R_reads' HO343.out).2.1)
     rintro e w27 ⟨v351, rfl, ho0, hb⟩
     refine ⟨_, rfl, ?_⟩
     have n0_ := Aside0.mk (Kd.R_elder' (ra_ HO343) (Kd.R_base ho0) hb)
     have n1_ := Aside0.mk (Kd.R_lower (Kd.R_new' ho0 (Kd.R_lt (ra_ HO343))) (below_size (bw_ w)))
     have n2_ := bb_ BK336 hb
     have n3_ := bb_ BK337 hb
     have n4_ := bb_ BK355 hb
     have n5_ := Aside0.mk (below_step (bw_ w) hb)
     clear HO343
     clear BK336
     clear BK337
     clear BK355
     clear HB
     have HO343 := n0_
     have HO352 := n1_
     have BK336 := n2_
     have BK337 := n3_
     have BK355 := n4_
     have HB := n5_
     clear n0_ n1_ n2_ n3_ n4_ n5_
     (try clear hb)
     (try clear hb2)
     (try clear hk)
     (try clear hi)
     (try clear ho0)
     refine hK.out _ _ ⟨bc_ BK336 0, bc_ BK336 1, bc_ BK336 2, bc_ BK336 3, bc_ BK337 0, bc_ BK337 1, bc_ BK337 2⟩ (fun hHeld => ?_)
     clear hK K
     refine normA (N := some 26) ?_
     refine pureA (N := some 21) 5 HT_ ?_
     refine pureA (N := some 27) 6 HT_ ?_
     refine pureA (N := some 28) 7 HT_ ?_
     exact norm_ (by simp only [putAll, Act.put, List.setIfInBounds_toArray, List.set_cons_zero, List.set_cons_succ]) (hCont (.slice Ao26 t341.length co26, v351, gb355) _ ⟨hHeld, (by exact rf_ HO343.out (fun _ hk => hk.2)), (by exact rf_ HO352.out (fun _ hk => hk.2)), (bk_ BK336), (bk_ BK337), (bk_ BK355), GW355.out, GE355.out, NB336_355.out, NB355_336.out, NB337_355.out, NB355_337.out, (bw_ w)⟩)
   ·skip
    refine box_step ?hg (N := 6) ?hd (cs := #[.int .i64 0, .int .i64 0, .slice none 0 0, .int .i64 0]) (t := 24) ?hr ?_; (case hd => rfl); (case hg => rfl); (case hr => first | (go_simp; done) | (go_simp; rfl))
    intro gb355 hg w23 hbox hb
    have n0_ := bb_ BK336 hb
    have n1_ := bb_ BK337 hb
    have n2_ := Aside0.mk (below_step (bw_ w) hb)
    have n3_ := Aside0.mk (hbox)
    have n4_ := gz_ w hg
    have n5_ := gz_ w hg
    have n6_ := ne_ hg BK336
    have n7_ := en_ hg BK336
    have n8_ := ne_ hg BK337
    have n9_ := en_ hg BK337
    clear BK336
    clear BK337
    clear HB
    have BK336 := n0_
    have BK337 := n1_
    have HB := n2_
    have BK355 := n3_
    have GW355 := n4_
    have GE355 := n5_
    have NB336_355 := n6_
    have NB355_336 := n7_
    have NB337_355 := n8_
    have NB355_337 := n9_
    clear n0_ n1_ n2_ n3_ n4_ n5_ n6_ n7_ n8_ n9_
    clear hb hbox hg
    refine hK.out _ _ ⟨bc_ BK336 0, bc_ BK336 1, bc_ BK336 2, bc_ BK336 3, bc_ BK337 0, bc_ BK337 1, bc_ BK337 2⟩ (fun hHeld => ?_)
    clear hK K
    refine normA (N := some 6) ?_
    refine oneA (N := some 23) 1 HT_ (fun K hK => ?_)
    refine goesA Try.func17 #[.agg #[.int .i64 a0_0, .int .i64 a0_1, .slice A0_2 l0_2.length c0_2, .int .i64 a0_3]] ?_
    with_reducible refine (laws_toShop.calls k a0_0 a0_1 _ _ l0_2 a0_3 t339 t340 t341 t344 _ ?side1 ?side2 A10.out).mono ?_
    (case side1 => exact cb_ HR0_2 HB)
    (case side2 => exact HC0_2.out)
    rintro e w24 ⟨v342, rfl, ho0, hb⟩
    refine ⟨_, rfl, ?_⟩
    have HO343 := Aside0.mk (Kd.R_lower ho0 (below_size (bw_ w)))
    replace BK336 := bb_ BK336 hb
    replace BK337 := bb_ BK337 hb
    replace BK355 := bb_ BK355 hb
    replace HB := Aside0.mk (below_step (bw_ w) hb)
    (try clear hb)
    (try clear hb2)
    (try clear hk)
    (try clear hi)
    (try clear ho0)
    refine hK.out _ _ ⟨bc_ BK336 0, bc_ BK336 1, bc_ BK336 2, bc_ BK336 3, bc_ BK337 0, bc_ BK337 1, bc_ BK337 2⟩ (fun hHeld => ?_)
    clear hK K
    refine normA (N := some 23) ?_
    refine oneA (N := some 25) 3 HT_ (fun K hK => ?_)
    refine goesA Try.func18 #[.agg #[.int .i64 a1_0, .int .i64 a1_1, .int .i64 a1_2]] ?_
    with_reducible refine (laws_toShopStep.calls a1_0 a1_1 a1_2 t345 t346 t347 _ A11.out).mono ?_
    rintro e w25 ⟨rfl, hb⟩
    refine ⟨_, rfl, ?_⟩
    replace HO343 := Aside0.mk (Kd.R_below (ra_ HO343) hb)
    replace BK336 := bb_ BK336 hb
    replace BK337 := bb_ BK337 hb
    replace BK355 := bb_ BK355 hb
    replace HB := Aside0.mk (below_step (bw_ w) hb)
    (try clear hb)
    (try clear hb2)
    (try clear hk)
    (try clear hi)
    obtain ⟨Ao26, co26, eo26⟩ := Kd.R_slice HO343.out
    (first | subst eo26 | (injection eo26 with f1_ f2_ f3_; have f4_ := f1_.symm; have f5_ := f3_.symm; clear f1_ f2_ f3_; subst f4_; subst f5_))
    refine hK.out _ _ ⟨bc_ BK336 0, bc_ BK336 1, bc_ BK336 2, bc_ BK336 3, bc_ BK337 0, bc_ BK337 1, bc_ BK337 2⟩ (fun hHeld => ?_)
    clear hK K
    refine normA (N := some 25) ?_
    refine oneA (N := some 26) 4 HT_ (fun K hK => ?_)
    refine goesA Try.func16 #[.agg #[.int .i64 t339, .int .i64 t340, .slice Ao26 t341.length co26, .int .i64 t344], .agg #[.int .i64 t345, .int .i64 t346, .int .i64 t347]] ?_
    with_reducible refine (spec_StepShop.calls k t339 t340 _ _ t341 t344 t345 t346 t347 t348 t349 t350 t353 t354 _ ?side1 ?side2 A12.out).mono ?_
    (case side1 => exact co_ (Kd.R_reads' HO343.out).2.2)
    (case side2 => exact (Kd.R_reads' HO343.out).2.1)
    rintro e w27 ⟨v351, rfl, ho0, hb⟩
    refine ⟨_, rfl, ?_⟩
    have n0_ := Aside0.mk (Kd.R_elder' (ra_ HO343) (Kd.R_base ho0) hb)
    have n1_ := Aside0.mk (Kd.R_lower (Kd.R_new' ho0 (Kd.R_lt (ra_ HO343))) (below_size (bw_ w)))
    have n2_ := bb_ BK336 hb
    have n3_ := bb_ BK337 hb
    have n4_ := bb_ BK355 hb
    have n5_ := Aside0.mk (below_step (bw_ w) hb)
    clear HO343
    clear BK336
    clear BK337
    clear BK355
    clear HB
    have HO343 := n0_
    have HO352 := n1_
    have BK336 := n2_
    have BK337 := n3_
    have BK355 := n4_
    have HB := n5_
    clear n0_ n1_ n2_ n3_ n4_ n5_
    (try clear hb)
    (try clear hb2)
    (try clear hk)
    (try clear hi)
    (try clear ho0)
    refine hK.out _ _ ⟨bc_ BK336 0, bc_ BK336 1, bc_ BK336 2, bc_ BK336 3, bc_ BK337 0, bc_ BK337 1, bc_ BK337 2⟩ (fun hHeld => ?_)
    clear hK K
    refine normA (N := some 26) ?_
    refine pureA (N := some 21) 5 HT_ ?_
    refine pureA (N := some 27) 6 HT_ ?_
    refine pureA (N := some 28) 7 HT_ ?_
    exact norm_ (by simp only [putAll, Act.put, List.setIfInBounds_toArray, List.set_cons_zero, List.set_cons_succ]) (hCont (.slice Ao26 t341.length co26, v351, gb355) _ ⟨hHeld, (by exact rf_ HO343.out (fun _ hk => hk.2)), (by exact rf_ HO352.out (fun _ hk => hk.2)), (bk_ BK336), (bk_ BK337), (bk_ BK355), GW355.out, GE355.out, NB336_355.out, NB355_336.out, NB337_355.out, NB355_337.out, (bw_ w)⟩)
  rintro ⟨v342, v351, gb355⟩ w28 ⟨hS_, h0_, h1_, h2_, h3_, h4_, h5_, h6_, h7_, h8_, h9_, h10_, h11_⟩
  have n0_ : Aside0 (Kd.R k34 34 w28 w.heap.size (fun k_ => some k_ ≠ (v351 : Value).ownBlock) v342 t341) := ⟨h0_⟩
  have n1_ : Aside0 (Kd.R k34 34 w28 w.heap.size (fun k_ => some k_ ≠ (v342 : Value).ownBlock) v351 t350) := ⟨h1_⟩
  have n2_ : Aside0 (w28.heap[gb336]? = some (.cells #[.int .i64 a0_0, .int .i64 a0_1, .slice A0_2 l0_2.length c0_2, .int .i64 a0_3] 38 (0, 0))) := ⟨h2_⟩
  have n3_ : Aside0 (w28.heap[gb337]? = some (.cells #[.int .i64 a1_0, .int .i64 a1_1, .int .i64 a1_2] 39 (0, 0))) := ⟨h3_⟩
  have n4_ : Aside0 (w28.heap[gb355]? = some (.cells #[.int .i64 0, .int .i64 0, .slice none 0 0, .int .i64 0] 24 (0, 0))) := ⟨h4_⟩
  have n5_ : Aside0 (w.heap.size ≤ gb355) := ⟨h5_⟩
  have n6_ : Aside0 (w.heap.size ≤ gb355) := ⟨h6_⟩
  have n7_ : Aside0 (gb336 ≠ gb355) := ⟨h7_⟩
  have n8_ : Aside0 (gb355 ≠ gb336) := ⟨h8_⟩
  have n9_ : Aside0 (gb337 ≠ gb355) := ⟨h9_⟩
  have n10_ : Aside0 (gb355 ≠ gb337) := ⟨h10_⟩
  have n11_ : Aside0 (Below w.heap.size w w28) := ⟨h11_⟩
  clear BK336
  clear BK337
  clear HB
  clear h0_ h1_ h2_ h3_ h4_ h5_ h6_ h7_ h8_ h9_ h10_ h11_
  have HO343 := n0_
  have HO352 := n1_
  have BK336 := n2_
  have BK337 := n3_
  have BK355 := n4_
  have GW355 := n5_
  have GE355 := n6_
  have NB336_355 := n7_
  have NB355_336 := n8_
  have NB337_355 := n9_
  have NB355_337 := n10_
  have HB := n11_
  clear n0_ n1_ n2_ n3_ n4_ n5_ n6_ n7_ n8_ n9_ n10_ n11_
  have hHeld : w28.cell? ⟨gb336, 0, none⟩ = some (.int .i64 a0_0) ∧ w28.cell? ⟨gb336, 1, none⟩ = some (.int .i64 a0_1) ∧ w28.cell? ⟨gb336, 2, none⟩ = some (.slice A0_2 l0_2.length c0_2) ∧ w28.cell? ⟨gb336, 3, none⟩ = some (.int .i64 a0_3) ∧ w28.cell? ⟨gb337, 0, none⟩ = some (.int .i64 a1_0) ∧ w28.cell? ⟨gb337, 1, none⟩ = some (.int .i64 a1_1) ∧ w28.cell? ⟨gb337, 2, none⟩ = some (.int .i64 a1_2) := hS_
  obtain ⟨Ao31, co31, eo31⟩ := Kd.R_slice HO352.out
  (first | subst eo31 | (injection eo31 with f1_ f2_ f3_; have f4_ := f1_.symm; have f5_ := f3_.symm; clear f1_ f2_ f3_; subst f4_; subst f5_))
  refine norm_ (a' := ?_) ?_ ?_
  rotate_left
  ·simp only [putAll, Act.put, List.setIfInBounds_toArray, List.set_cons_zero, List.set_cons_succ]
   rfl
  refine oneA (N := none) 9 HT_ (fun K hK => ?_)
  have hs29 : w28.cell? ⟨gb355, 0, none⟩ = some (.int .i64 0) := bc_ BK355 0
  have hfs29 := blk_frozen BK355.out 0
  have hns29_0 := NB336_355.out
  have hns29_1 := NB337_355.out
  have hms29_0 := NB355_336.out
  have hms29_1 := NB355_337.out
  have hs30 : w28.cell? ⟨gb355, 1, none⟩ = some (.int .i64 0) := bc_ BK355 1
  have hfs30 := blk_frozen BK355.out 1
  have hns30_0 := NB336_355.out
  have hns30_1 := NB337_355.out
  have hms30_0 := NB355_336.out
  have hms30_1 := NB355_337.out
  have hs32 : w28.cell? ⟨gb355, 2, none⟩ = some (.slice none 0 0) := bc_ BK355 2
  have hfs32 := blk_frozen BK355.out 2
  have hns32_0 := NB336_355.out
  have hns32_1 := NB337_355.out
  have hms32_0 := NB355_336.out
  have hms32_1 := NB355_337.out
  have hs33 : w28.cell? ⟨gb355, 3, none⟩ = some (.int .i64 0) := bc_ BK355 3
  have hfs33 := blk_frozen BK355.out 3
  have hns33_0 := NB336_355.out
  have hns33_1 := NB337_355.out
  have hms33_0 := NB355_336.out
  have hms33_1 := NB355_337.out
  refine skip_ (w1 := ?_) (by rfl) rfl ?_ ?_
  rotate_left
  ·go_simp
   rfl
  refine hK.out _ _ ⟨((cn_ NB336_355).trans (((cn_ NB336_355).trans (((cn_ NB336_355).trans (((cn_ NB336_355).trans (hHeld.1)))))))), ((cn_ NB336_355).trans (((cn_ NB336_355).trans (((cn_ NB336_355).trans (((cn_ NB336_355).trans (hHeld.2.1)))))))), ((cn_ NB336_355).trans (((cn_ NB336_355).trans (((cn_ NB336_355).trans (((cn_ NB336_355).trans (hHeld.2.2.1)))))))), ((cn_ NB336_355).trans (((cn_ NB336_355).trans (((cn_ NB336_355).trans (((cn_ NB336_355).trans (hHeld.2.2.2.1)))))))), ((cn_ NB337_355).trans (((cn_ NB337_355).trans (((cn_ NB337_355).trans (((cn_ NB337_355).trans (hHeld.2.2.2.2.1)))))))), ((cn_ NB337_355).trans (((cn_ NB337_355).trans (((cn_ NB337_355).trans (((cn_ NB337_355).trans (hHeld.2.2.2.2.2.1)))))))), ((cn_ NB337_355).trans (((cn_ NB337_355).trans (((cn_ NB337_355).trans (((cn_ NB337_355).trans (hHeld.2.2.2.2.2.2))))))))⟩ (fun hHeld => ?_)
  clear hK K
  refine pureA (N := some 7) 10 HT_ ?_
  refine done_ (done_of HT_.out (by kernel_rfl)) ?_
  have hnb34 := NB336_355.out
  have hnc34 := NB355_336.out
  obtain ⟨hcz35_0, hcz35_1, hcz35_2, hcz35_3, hfz35_0, hfz35_1, hfz35_2, hfz35_3⟩ := bc4_ (w := w28) BK336
  try go_wp2_with (first | ((with_reducible refine gate_callee (f := 17) rfl ?_); refine goesB (some 30) Try.func17 #[.agg #[.int .i64 a0_0, .int .i64 a0_1, .slice A0_2 l0_2.length c0_2, .int .i64 a0_3]] ?_; (with_reducible refine (laws_toShop.calls k a0_0 a0_1 _ _ l0_2 a0_3 t356 t357 t358 t361 _ ?side1 ?side2 A13.out).mono ?_); (case side1 => exact Kd.C_below HR0_2.out (bw_ w)); (case side2 => exact HC0_2.out); rintro e w36 ⟨v359, rfl, ho0, hb⟩; refine ⟨_, rfl, ?_⟩; have n0_ := Aside0.mk (Kd.R_elder' (by exact rf_ (Kd.R_types HO343.out BK355.out (by decide)) (fun _ h_ => h_.1)) (Kd.R_base ho0) hb); have n1_ := Aside0.mk (Kd.R_elder' (by exact rf_ (Kd.R_types HO352.out BK355.out (by decide)) (fun _ h_ => h_.1)) (Kd.R_base ho0) hb); have n2_ := Aside0.mk (Kd.R_lower (Kd.R_new' (Kd.R_new' ho0 (Kd.R_lt (by exact rf_ (Kd.R_types HO343.out BK355.out (by decide)) (fun _ h_ => h_.1)))) (Kd.R_lt (by exact rf_ (Kd.R_types HO352.out BK355.out (by decide)) (fun _ h_ => h_.1)))) (below_size (bw_ w))); have n3_ := bb_ BK336 hb; have n4_ := bb_ BK337 hb; have n5_ := Aside0.mk (blk_below (g := gb355) (o := .cells #[.int .i64 t348, .int .i64 t349, .slice Ao31 t350.length co31, .int .i64 t353] 24 (0, 0)) (bq_ BK355) hb); have n6_ := Aside0.mk (below_step (bw_ w) hb); clear HO343; clear HO352; clear BK336; clear BK337; clear BK355; clear HB; have HO343 := n0_; have HO352 := n1_; have HO360 := n2_; have BK336 := n3_; have BK337 := n4_; have BK355 := n5_; have HB := n6_; clear n0_ n1_ n2_ n3_ n4_ n5_ n6_; (try clear hb); (try clear hb2); (try clear hk); (try clear hi); (try clear ho0)) | ((with_reducible refine gate_dst (N := 8) rfl ?_); refine box_ (N := 8) (cs := #[.int .i64 0, .int .i64 0, .slice none 0 0, .int .i64 0]) (t := 24) ?_; intro gb362 hg w37 hbox hb; have n0_ := Aside0.mk (Kd.R_below (ra_ HO343) hb); have n1_ := Aside0.mk (Kd.R_below (ra_ HO352) hb); have n2_ := Aside0.mk (Kd.R_below (ra_ HO360) hb); have n3_ := bb_ BK336 hb; have n4_ := bb_ BK337 hb; have n5_ := bb_ BK355 hb; have n6_ := Aside0.mk (below_step (bw_ w) hb); have n7_ := Aside0.mk (hbox); have n8_ := gz_ w hg; have n9_ := gz_ w hg; have n10_ := ne_ hg BK336; have n11_ := en_ hg BK336; have n12_ := ne_ hg BK337; have n13_ := en_ hg BK337; have n14_ := ne_ hg BK355; have n15_ := en_ hg BK355; clear HO343; clear HO352; clear HO360; clear BK336; clear BK337; clear BK355; clear HB; have HO343 := n0_; have HO352 := n1_; have HO360 := n2_; have BK336 := n3_; have BK337 := n4_; have BK355 := n5_; have HB := n6_; have BK362 := n7_; have GW362 := n8_; have GE362 := n9_; have NB336_362 := n10_; have NB362_336 := n11_; have NB337_362 := n12_; have NB362_337 := n13_; have NB355_362 := n14_; have NB362_355 := n15_; clear n0_ n1_ n2_ n3_ n4_ n5_ n6_ n7_ n8_ n9_ n10_ n11_ n12_ n13_ n14_ n15_; clear hb hbox hg; have hnb38 := NB362_336.out; have hnc38 := NB336_362.out; have hnb39 := NB362_337.out; have hnc39 := NB337_362.out; have hnb40 := NB362_355.out; have hnc40 := NB355_362.out; obtain ⟨hcz41_0, hcz41_1, hcz41_2, hcz41_3, hfz41_0, hfz41_1, hfz41_2, hfz41_3⟩ := bc4_ (w := w37) BK362; obtain ⟨Ao42, co42, eo42⟩ := Kd.R_slice HO360.out; subst eo42))
  have n0_ : Aside0 (Kd.R k34 34 ((((w37.setCell ⟨gb362, 0, none⟩ (.int .i64 t356)).setCell ⟨gb362, 1, none⟩ (.int .i64 t357)).setCell ⟨gb362, 2, none⟩ (.slice Ao42 t358.length co42)).setCell ⟨gb362, 3, none⟩ (.int .i64 t361)) w.heap.size (fun k_ => some k_ ≠ (.slice Ao31 t350.length co31 : Value).ownBlock ∧ some k_ ≠ (.slice Ao42 t358.length co42 : Value).ownBlock) v342 t341) := ⟨by exact rf_ (Kd.R_types HO343.out BK362.out (by decide)) (fun _ hk => ⟨hk.1.1, hk.1.2⟩)⟩
  have n1_ : Aside0 (Kd.R k34 34 ((((w37.setCell ⟨gb362, 0, none⟩ (.int .i64 t356)).setCell ⟨gb362, 1, none⟩ (.int .i64 t357)).setCell ⟨gb362, 2, none⟩ (.slice Ao42 t358.length co42)).setCell ⟨gb362, 3, none⟩ (.int .i64 t361)) w.heap.size (fun k_ => some k_ ≠ (v342 : Value).ownBlock ∧ some k_ ≠ (.slice Ao42 t358.length co42 : Value).ownBlock) (.slice Ao31 t350.length co31) t350) := ⟨by exact rf_ (Kd.R_types HO352.out BK362.out (by decide)) (fun _ hk => ⟨hk.1.1, hk.1.2⟩)⟩
  have n2_ : Aside0 (Kd.R k34 34 ((((w37.setCell ⟨gb362, 0, none⟩ (.int .i64 t356)).setCell ⟨gb362, 1, none⟩ (.int .i64 t357)).setCell ⟨gb362, 2, none⟩ (.slice Ao42 t358.length co42)).setCell ⟨gb362, 3, none⟩ (.int .i64 t361)) w.heap.size (fun k_ => some k_ ≠ (v342 : Value).ownBlock ∧ some k_ ≠ (.slice Ao31 t350.length co31 : Value).ownBlock) (.slice Ao42 t358.length co42) t358) := ⟨by exact rf_ (Kd.R_types HO360.out BK362.out (by decide)) (fun _ hk => ⟨hk.1.1.2, hk.1.2⟩)⟩
  have n3_ : Aside0 (((((w37.setCell ⟨gb362, 0, none⟩ (.int .i64 t356)).setCell ⟨gb362, 1, none⟩ (.int .i64 t357)).setCell ⟨gb362, 2, none⟩ (.slice Ao42 t358.length co42)).setCell ⟨gb362, 3, none⟩ (.int .i64 t361)).heap[gb336]? = some (.cells #[.int .i64 a0_0, .int .i64 a0_1, .slice A0_2 l0_2.length c0_2, .int .i64 a0_3] 38 (0, 0))) := ⟨bk_ BK336⟩
  have n4_ : Aside0 (((((w37.setCell ⟨gb362, 0, none⟩ (.int .i64 t356)).setCell ⟨gb362, 1, none⟩ (.int .i64 t357)).setCell ⟨gb362, 2, none⟩ (.slice Ao42 t358.length co42)).setCell ⟨gb362, 3, none⟩ (.int .i64 t361)).heap[gb337]? = some (.cells #[.int .i64 a1_0, .int .i64 a1_1, .int .i64 a1_2] 39 (0, 0))) := ⟨bk_ BK337⟩
  have n5_ : Aside0 (((((w37.setCell ⟨gb362, 0, none⟩ (.int .i64 t356)).setCell ⟨gb362, 1, none⟩ (.int .i64 t357)).setCell ⟨gb362, 2, none⟩ (.slice Ao42 t358.length co42)).setCell ⟨gb362, 3, none⟩ (.int .i64 t361)).heap[gb355]? = some (.cells #[.int .i64 t348, .int .i64 t349, .slice Ao31 t350.length co31, .int .i64 t353] 24 (0, 0))) := ⟨bk_ BK355⟩
  have n6_ : Aside0 (((((w37.setCell ⟨gb362, 0, none⟩ (.int .i64 t356)).setCell ⟨gb362, 1, none⟩ (.int .i64 t357)).setCell ⟨gb362, 2, none⟩ (.slice Ao42 t358.length co42)).setCell ⟨gb362, 3, none⟩ (.int .i64 t361)).heap[gb362]? = some (.cells #[.int .i64 t356, .int .i64 t357, .slice Ao42 t358.length co42, .int .i64 t361] 24 (0, 0))) := ⟨bq_ BK362⟩
  have n7_ : Aside0 (Below w.heap.size w ((((w37.setCell ⟨gb362, 0, none⟩ (.int .i64 t356)).setCell ⟨gb362, 1, none⟩ (.int .i64 t357)).setCell ⟨gb362, 2, none⟩ (.slice Ao42 t358.length co42)).setCell ⟨gb362, 3, none⟩ (.int .i64 t361))) := ⟨(bw_ w)⟩
  (try clear HO343)
  (try clear HO352)
  (try clear HO360)
  (try clear BK336)
  (try clear BK337)
  (try clear BK355)
  (try clear BK362)
  (try clear HB)
  generalize ((((w37.setCell ⟨gb362, 0, none⟩ (.int .i64 t356)).setCell ⟨gb362, 1, none⟩ (.int .i64 t357)).setCell ⟨gb362, 2, none⟩ (.slice Ao42 t358.length co42)).setCell ⟨gb362, 3, none⟩ (.int .i64 t361)) = w43 at n0_ n1_ n2_ n3_ n4_ n5_ n6_ n7_ ⊢
  have HO343 := n0_
  have HO352 := n1_
  have HO360 := n2_
  have BK336 := n3_
  have BK337 := n4_
  have BK355 := n5_
  have BK362 := n6_
  have HB := n7_
  clear n0_ n1_ n2_ n3_ n4_ n5_ n6_ n7_
  replace HO343 := Aside0.mk (Kd.R_drew HO343.out)
  replace HO352 := Aside0.mk (Kd.R_drew HO352.out)
  replace HO360 := Aside0.mk (Kd.R_drew HO360.out)
  replace BK336 := Aside0.mk (blk_drew BK336.out)
  replace BK337 := Aside0.mk (blk_drew BK337.out)
  replace BK355 := Aside0.mk (blk_drew BK355.out)
  replace BK362 := Aside0.mk (blk_drew BK362.out)
  replace HB := Aside0.mk (below_drew1 HB.out)
  refine start_ (n := 10) (S := fun w' => w'.cell? ⟨gb362, 0, none⟩ = some (.int .i64 t356) ∧ w'.cell? ⟨gb362, 1, none⟩ = some (.int .i64 t357) ∧ w'.cell? ⟨gb362, 2, none⟩ = some (.slice Ao42 t358.length co42) ∧ w'.cell? ⟨gb362, 3, none⟩ = some (.int .i64 t361) ∧ w'.cell? ⟨gb337, 0, none⟩ = some (.int .i64 a1_0) ∧ w'.cell? ⟨gb337, 1, none⟩ = some (.int .i64 a1_1) ∧ w'.cell? ⟨gb337, 2, none⟩ = some (.int .i64 a1_2)) (ds := []) #[false, false, false, false, false, false, false, false, false, false] (by kernel_rfl) rfl rfl ⟨bc_ BK362 0, bc_ BK362 1, bc_ BK362 2, bc_ BK362 3, bc_ BK337 0, bc_ BK337 1, bc_ BK337 2⟩ (fun hHeld => ?_); refine with_tabW laws_FnExactStepShop.tab7 laws_FnExactStepShop.bits7 (fun HT_ HW_ => ?_)
  generalize w43.drew = w44 at HO343 HO352 HO360 BK336 BK337 BK355 BK362 HB hHeld ⊢
  refine takeA (N := some 32) 0 HT_ HW_ hHeld ?_
  refine takeA (N := some 33) 1 HT_ HW_ hHeld ?_
  refine join_ (σ := Value × Nat) 2 #[true, true, true, true, true, true, true, true, false, false] (fun s_ => [(34, .agg #[.int .i64 t363, .int .i64 t364, .int .i64 t365]), (35, .tuple #[.agg #[.int .i64 t366, .int .i64 t367, s_.1, .int .i64 t371], .bool t372]), (9, .pointer (some ⟨s_.2, 0, none⟩)), (31, .tuple #[.agg #[.int .i64 t366, .int .i64 t367, s_.1, .int .i64 t371], .bool t372]), (36, .agg #[.int .i64 t366, .int .i64 t367, s_.1, .int .i64 t371]), (37, .bool t372)]) (fun s_ w' => (w'.cell? ⟨gb362, 0, none⟩ = some (.int .i64 t356) ∧ w'.cell? ⟨gb362, 1, none⟩ = some (.int .i64 t357) ∧ w'.cell? ⟨gb362, 2, none⟩ = some (.slice Ao42 t358.length co42) ∧ w'.cell? ⟨gb362, 3, none⟩ = some (.int .i64 t361) ∧ w'.cell? ⟨gb337, 0, none⟩ = some (.int .i64 a1_0) ∧ w'.cell? ⟨gb337, 1, none⟩ = some (.int .i64 a1_1) ∧ w'.cell? ⟨gb337, 2, none⟩ = some (.int .i64 a1_2)) ∧ (Kd.R k34 34 w' w.heap.size (fun k_ => some k_ ≠ (.slice Ao31 t350.length co31 : Value).ownBlock ∧ some k_ ≠ (.slice Ao42 t358.length co42 : Value).ownBlock ∧ some k_ ≠ (s_.1 : Value).ownBlock) v342 t341) ∧ (Kd.R k34 34 w' w.heap.size (fun k_ => some k_ ≠ (v342 : Value).ownBlock ∧ some k_ ≠ (.slice Ao42 t358.length co42 : Value).ownBlock ∧ some k_ ≠ (s_.1 : Value).ownBlock) (.slice Ao31 t350.length co31) t350) ∧ (Kd.R k34 34 w' w.heap.size (fun k_ => some k_ ≠ (v342 : Value).ownBlock ∧ some k_ ≠ (.slice Ao31 t350.length co31 : Value).ownBlock ∧ some k_ ≠ (s_.1 : Value).ownBlock) (.slice Ao42 t358.length co42) t358) ∧ (Kd.R k34 34 w' w.heap.size (fun k_ => some k_ ≠ (v342 : Value).ownBlock ∧ some k_ ≠ (.slice Ao31 t350.length co31 : Value).ownBlock ∧ some k_ ≠ (.slice Ao42 t358.length co42 : Value).ownBlock) s_.1 t368) ∧ (w'.heap[gb336]? = some (.cells #[.int .i64 a0_0, .int .i64 a0_1, .slice A0_2 l0_2.length c0_2, .int .i64 a0_3] 38 (0, 0))) ∧ (w'.heap[gb337]? = some (.cells #[.int .i64 a1_0, .int .i64 a1_1, .int .i64 a1_2] 39 (0, 0))) ∧ (w'.heap[gb355]? = some (.cells #[.int .i64 t348, .int .i64 t349, .slice Ao31 t350.length co31, .int .i64 t353] 24 (0, 0))) ∧ (w'.heap[gb362]? = some (.cells #[.int .i64 t356, .int .i64 t357, .slice Ao42 t358.length co42, .int .i64 t361] 24 (0, 0))) ∧ (w'.heap[s_.2]? = some (.cells #[.int .i64 0, .int .i64 0, .slice none 0 0, .int .i64 0] 24 (0, 0))) ∧ (w.heap.size ≤ s_.2) ∧ (w.heap.size ≤ s_.2) ∧ (gb336 ≠ s_.2) ∧ (s_.2 ≠ gb336) ∧ (gb337 ≠ s_.2) ∧ (s_.2 ≠ gb337) ∧ (gb355 ≠ s_.2) ∧ (s_.2 ≠ gb355) ∧ (gb362 ≠ s_.2) ∧ (s_.2 ≠ gb362) ∧ (Below w.heap.size w w')) ?_ ?_
  rotate_left
  ·intro hCont
   refine twoA (Ni := some 34) (Nj := some 9) 2 7 HT_ (fun K hK => ?_) (fun K hK => ?_)
   ·skip
    refine goesA Try.func18 #[.agg #[.int .i64 a1_0, .int .i64 a1_1, .int .i64 a1_2]] ?_
    with_reducible refine (laws_toShopStep.calls a1_0 a1_1 a1_2 t363 t364 t365 _ A14.out).mono ?_
    rintro e w45 ⟨rfl, hb⟩
    refine ⟨_, rfl, ?_⟩
    replace HO343 := Aside0.mk (Kd.R_below (ra_ HO343) hb)
    replace HO352 := Aside0.mk (Kd.R_below (ra_ HO352) hb)
    replace HO360 := Aside0.mk (Kd.R_below (ra_ HO360) hb)
    replace BK336 := bb_ BK336 hb
    replace BK337 := bb_ BK337 hb
    replace BK355 := bb_ BK355 hb
    replace BK362 := bb_ BK362 hb
    replace HB := Aside0.mk (below_step (bw_ w) hb)
    (try clear hb)
    (try clear hb2)
    (try clear hk)
    (try clear hi)
    refine hK.out _ _ ⟨bc_ BK362 0, bc_ BK362 1, bc_ BK362 2, bc_ BK362 3, bc_ BK337 0, bc_ BK337 1, bc_ BK337 2⟩ (fun hHeld => ?_)
    clear hK K
    refine normA (N := some 34) ?_
    refine twoA (Ni := some 35) (Nj := some 9) 3 7 HT_ (fun K hK => ?_) (fun K hK => ?_)
    ·skip
     refine goesA Try.func14 #[.agg #[.int .i64 t356, .int .i64 t357, .slice Ao42 t358.length co42, .int .i64 t361], .agg #[.int .i64 t363, .int .i64 t364, .int .i64 t365]] ?_
     with_reducible refine (impl_StepShop.calls k t356 t357 _ _ t358 t361 t363 t364 t365 t366 t367 t368 t371 t372 _ ?side1 ?side2 A15.out).mono ?_
     (case side1 => exact co_ (Kd.R_reads' HO360.out).2.2)
     (case side2 => exact (Kd.R_reads' HO360.out).2.1)
     rintro e w46 ⟨v369, rfl, ho0, hb⟩
     refine ⟨_, rfl, ?_⟩
     have n0_ := Aside0.mk (Kd.R_elder' (ra_ HO343) (Kd.R_base ho0) hb)
     have n1_ := Aside0.mk (Kd.R_elder' (ra_ HO352) (Kd.R_base ho0) hb)
     have n2_ := Aside0.mk (Kd.R_elder' (ra_ HO360) (Kd.R_base ho0) hb)
     have n3_ := Aside0.mk (Kd.R_lower (Kd.R_new' (Kd.R_new' (Kd.R_new' ho0 (Kd.R_lt (ra_ HO343))) (Kd.R_lt (ra_ HO352))) (Kd.R_lt (ra_ HO360))) (below_size (bw_ w)))
     have n4_ := bb_ BK336 hb
     have n5_ := bb_ BK337 hb
     have n6_ := bb_ BK355 hb
     have n7_ := bb_ BK362 hb
     have n8_ := Aside0.mk (below_step (bw_ w) hb)
     clear HO343
     clear HO352
     clear HO360
     clear BK336
     clear BK337
     clear BK355
     clear BK362
     clear HB
     have HO343 := n0_
     have HO352 := n1_
     have HO360 := n2_
     have HO370 := n3_
     have BK336 := n4_
     have BK337 := n5_
     have BK355 := n6_
     have BK362 := n7_
     have HB := n8_
     clear n0_ n1_ n2_ n3_ n4_ n5_ n6_ n7_ n8_
     (try clear hb)
     (try clear hb2)
     (try clear hk)
     (try clear hi)
     (try clear ho0)
     refine hK.out _ _ ⟨bc_ BK362 0, bc_ BK362 1, bc_ BK362 2, bc_ BK362 3, bc_ BK337 0, bc_ BK337 1, bc_ BK337 2⟩ (fun hHeld => ?_)
     clear hK K
     refine normA (N := some 35) ?_
     refine pureA (N := some 31) 4 HT_ ?_
     refine pureA (N := some 36) 5 HT_ ?_
     refine pureA (N := some 37) 6 HT_ ?_
     refine oneA (N := some 9) 7 HT_ (fun K hK => ?_)
     refine box_step ?hg (N := 9) ?hd (cs := #[.int .i64 0, .int .i64 0, .slice none 0 0, .int .i64 0]) (t := 24) ?hr ?_; (case hd => rfl); (case hg => rfl); (case hr => first | (go_simp; done) | (go_simp; rfl))
     intro gb373 hg w47 hbox hb
     have n0_ := Aside0.mk (Kd.R_below (ra_ HO343) hb)
     have n1_ := Aside0.mk (Kd.R_below (ra_ HO352) hb)
     have n2_ := Aside0.mk (Kd.R_below (ra_ HO360) hb)
     have n3_ := Aside0.mk (Kd.R_below (ra_ HO370) hb)
     have n4_ := bb_ BK336 hb
     have n5_ := bb_ BK337 hb
     have n6_ := bb_ BK355 hb
     have n7_ := bb_ BK362 hb
     have n8_ := Aside0.mk (below_step (bw_ w) hb)
     have n9_ := Aside0.mk (hbox)
     have n10_ := gz_ w hg
     have n11_ := gz_ w hg
     have n12_ := ne_ hg BK336
     have n13_ := en_ hg BK336
     have n14_ := ne_ hg BK337
     have n15_ := en_ hg BK337
     have n16_ := ne_ hg BK355
     have n17_ := en_ hg BK355
     have n18_ := ne_ hg BK362
     have n19_ := en_ hg BK362
     clear HO343
     clear HO352
     clear HO360
     clear HO370
     clear BK336
     clear BK337
     clear BK355
     clear BK362
     clear HB
     have HO343 := n0_
     have HO352 := n1_
     have HO360 := n2_
     have HO370 := n3_
     have BK336 := n4_
     have BK337 := n5_
     have BK355 := n6_
     have BK362 := n7_
     have HB := n8_
     have BK373 := n9_
     have GW373 := n10_
     have GE373 := n11_
     have NB336_373 := n12_
     have NB373_336 := n13_
     have NB337_373 := n14_
     have NB373_337 := n15_
     have NB355_373 := n16_
     have NB373_355 := n17_
     have NB362_373 := n18_
     have NB373_362 := n19_
     clear n0_ n1_ n2_ n3_ n4_ n5_ n6_ n7_ n8_ n9_ n10_ n11_ n12_ n13_ n14_ n15_ n16_ n17_ n18_ n19_
     clear hb hbox hg
     refine hK.out _ _ ⟨bc_ BK362 0, bc_ BK362 1, bc_ BK362 2, bc_ BK362 3, bc_ BK337 0, bc_ BK337 1, bc_ BK337 2⟩ (fun hHeld => ?_)
     clear hK K
     refine normA (N := some 9) ?_
     exact norm_ (by simp only [putAll, Act.put, List.setIfInBounds_toArray, List.set_cons_zero, List.set_cons_succ]) (hCont (v369, gb373) _ ⟨hHeld, (by exact rf_ HO343.out (fun _ hk => ⟨hk.1.1, ⟨hk.1.2, hk.2⟩⟩)), (by exact rf_ HO352.out (fun _ hk => ⟨hk.1.1, ⟨hk.1.2, hk.2⟩⟩)), (by exact rf_ HO360.out (fun _ hk => ⟨hk.1.1, ⟨hk.1.2, hk.2⟩⟩)), (by exact rf_ HO370.out (fun _ hk => ⟨hk.1.1.2, ⟨hk.1.2, hk.2⟩⟩)), (bk_ BK336), (bk_ BK337), (bk_ BK355), (bk_ BK362), (bk_ BK373), GW373.out, GE373.out, NB336_373.out, NB373_336.out, NB337_373.out, NB373_337.out, NB355_373.out, NB373_355.out, NB362_373.out, NB373_362.out, (bw_ w)⟩)
    ·skip
     refine box_step ?hg (N := 9) ?hd (cs := #[.int .i64 0, .int .i64 0, .slice none 0 0, .int .i64 0]) (t := 24) ?hr ?_; (case hd => rfl); (case hg => rfl); (case hr => first | (go_simp; done) | (go_simp; rfl))
     intro gb373 hg w46 hbox hb
     have n0_ := Aside0.mk (Kd.R_below (ra_ HO343) hb)
     have n1_ := Aside0.mk (Kd.R_below (ra_ HO352) hb)
     have n2_ := Aside0.mk (Kd.R_below (ra_ HO360) hb)
     have n3_ := bb_ BK336 hb
     have n4_ := bb_ BK337 hb
     have n5_ := bb_ BK355 hb
     have n6_ := bb_ BK362 hb
     have n7_ := Aside0.mk (below_step (bw_ w) hb)
     have n8_ := Aside0.mk (hbox)
     have n9_ := gz_ w hg
     have n10_ := gz_ w hg
     have n11_ := ne_ hg BK336
     have n12_ := en_ hg BK336
     have n13_ := ne_ hg BK337
     have n14_ := en_ hg BK337
     have n15_ := ne_ hg BK355
     have n16_ := en_ hg BK355
     have n17_ := ne_ hg BK362
     have n18_ := en_ hg BK362
     clear HO343
     clear HO352
     clear HO360
     clear BK336
     clear BK337
     clear BK355
     clear BK362
     clear HB
     have HO343 := n0_
     have HO352 := n1_
     have HO360 := n2_
     have BK336 := n3_
     have BK337 := n4_
     have BK355 := n5_
     have BK362 := n6_
     have HB := n7_
     have BK373 := n8_
     have GW373 := n9_
     have GE373 := n10_
     have NB336_373 := n11_
     have NB373_336 := n12_
     have NB337_373 := n13_
     have NB373_337 := n14_
     have NB355_373 := n15_
     have NB373_355 := n16_
     have NB362_373 := n17_
     have NB373_362 := n18_
     clear n0_ n1_ n2_ n3_ n4_ n5_ n6_ n7_ n8_ n9_ n10_ n11_ n12_ n13_ n14_ n15_ n16_ n17_ n18_
     clear hb hbox hg
     refine hK.out _ _ ⟨bc_ BK362 0, bc_ BK362 1, bc_ BK362 2, bc_ BK362 3, bc_ BK337 0, bc_ BK337 1, bc_ BK337 2⟩ (fun hHeld => ?_)
     clear hK K
     refine normA (N := some 9) ?_
     refine oneA (N := some 35) 3 HT_ (fun K hK => ?_)
     refine goesA Try.func14 #[.agg #[.int .i64 t356, .int .i64 t357, .slice Ao42 t358.length co42, .int .i64 t361], .agg #[.int .i64 t363, .int .i64 t364, .int .i64 t365]] ?_
     with_reducible refine (impl_StepShop.calls k t356 t357 _ _ t358 t361 t363 t364 t365 t366 t367 t368 t371 t372 _ ?side1 ?side2 A15.out).mono ?_
     (case side1 => exact co_ (Kd.R_reads' HO360.out).2.2)
     (case side2 => exact (Kd.R_reads' HO360.out).2.1)
     rintro e w47 ⟨v369, rfl, ho0, hb⟩
     refine ⟨_, rfl, ?_⟩
     have n0_ := Aside0.mk (Kd.R_elder' (ra_ HO343) (Kd.R_base ho0) hb)
     have n1_ := Aside0.mk (Kd.R_elder' (ra_ HO352) (Kd.R_base ho0) hb)
     have n2_ := Aside0.mk (Kd.R_elder' (ra_ HO360) (Kd.R_base ho0) hb)
     have n3_ := Aside0.mk (Kd.R_lower (Kd.R_new' (Kd.R_new' (Kd.R_new' ho0 (Kd.R_lt (ra_ HO343))) (Kd.R_lt (ra_ HO352))) (Kd.R_lt (ra_ HO360))) (below_size (bw_ w)))
     have n4_ := bb_ BK336 hb
     have n5_ := bb_ BK337 hb
     have n6_ := bb_ BK355 hb
     have n7_ := bb_ BK362 hb
     have n8_ := bb_ BK373 hb
     have n9_ := Aside0.mk (below_step (bw_ w) hb)
     clear HO343
     clear HO352
     clear HO360
     clear BK336
     clear BK337
     clear BK355
     clear BK362
     clear BK373
     clear HB
     have HO343 := n0_
     have HO352 := n1_
     have HO360 := n2_
     have HO370 := n3_
     have BK336 := n4_
     have BK337 := n5_
     have BK355 := n6_
     have BK362 := n7_
     have BK373 := n8_
     have HB := n9_
     clear n0_ n1_ n2_ n3_ n4_ n5_ n6_ n7_ n8_ n9_
     (try clear hb)
     (try clear hb2)
     (try clear hk)
     (try clear hi)
     (try clear ho0)
     refine hK.out _ _ ⟨bc_ BK362 0, bc_ BK362 1, bc_ BK362 2, bc_ BK362 3, bc_ BK337 0, bc_ BK337 1, bc_ BK337 2⟩ (fun hHeld => ?_)
     clear hK K
     refine normA (N := some 35) ?_
     refine pureA (N := some 31) 4 HT_ ?_
     refine pureA (N := some 36) 5 HT_ ?_
     refine pureA (N := some 37) 6 HT_ ?_
     exact norm_ (by simp only [putAll, Act.put, List.setIfInBounds_toArray, List.set_cons_zero, List.set_cons_succ]) (hCont (v369, gb373) _ ⟨hHeld, (by exact rf_ HO343.out (fun _ hk => ⟨hk.1.1, ⟨hk.1.2, hk.2⟩⟩)), (by exact rf_ HO352.out (fun _ hk => ⟨hk.1.1, ⟨hk.1.2, hk.2⟩⟩)), (by exact rf_ HO360.out (fun _ hk => ⟨hk.1.1, ⟨hk.1.2, hk.2⟩⟩)), (by exact rf_ HO370.out (fun _ hk => ⟨hk.1.1.2, ⟨hk.1.2, hk.2⟩⟩)), (bk_ BK336), (bk_ BK337), (bk_ BK355), (bk_ BK362), (bk_ BK373), GW373.out, GE373.out, NB336_373.out, NB373_336.out, NB337_373.out, NB373_337.out, NB355_373.out, NB373_355.out, NB362_373.out, NB373_362.out, (bw_ w)⟩)
   ·skip
    refine box_step ?hg (N := 9) ?hd (cs := #[.int .i64 0, .int .i64 0, .slice none 0 0, .int .i64 0]) (t := 24) ?hr ?_; (case hd => rfl); (case hg => rfl); (case hr => first | (go_simp; done) | (go_simp; rfl))
    intro gb373 hg w45 hbox hb
    have n0_ := Aside0.mk (Kd.R_below (ra_ HO343) hb)
    have n1_ := Aside0.mk (Kd.R_below (ra_ HO352) hb)
    have n2_ := Aside0.mk (Kd.R_below (ra_ HO360) hb)
    have n3_ := bb_ BK336 hb
    have n4_ := bb_ BK337 hb
    have n5_ := bb_ BK355 hb
    have n6_ := bb_ BK362 hb
    have n7_ := Aside0.mk (below_step (bw_ w) hb)
    have n8_ := Aside0.mk (hbox)
    have n9_ := gz_ w hg
    have n10_ := gz_ w hg
    have n11_ := ne_ hg BK336
    have n12_ := en_ hg BK336
    have n13_ := ne_ hg BK337
    have n14_ := en_ hg BK337
    have n15_ := ne_ hg BK355
    have n16_ := en_ hg BK355
    have n17_ := ne_ hg BK362
    have n18_ := en_ hg BK362
    clear HO343
    clear HO352
    clear HO360
    clear BK336
    clear BK337
    clear BK355
    clear BK362
    clear HB
    have HO343 := n0_
    have HO352 := n1_
    have HO360 := n2_
    have BK336 := n3_
    have BK337 := n4_
    have BK355 := n5_
    have BK362 := n6_
    have HB := n7_
    have BK373 := n8_
    have GW373 := n9_
    have GE373 := n10_
    have NB336_373 := n11_
    have NB373_336 := n12_
    have NB337_373 := n13_
    have NB373_337 := n14_
    have NB355_373 := n15_
    have NB373_355 := n16_
    have NB362_373 := n17_
    have NB373_362 := n18_
    clear n0_ n1_ n2_ n3_ n4_ n5_ n6_ n7_ n8_ n9_ n10_ n11_ n12_ n13_ n14_ n15_ n16_ n17_ n18_
    clear hb hbox hg
    refine hK.out _ _ ⟨bc_ BK362 0, bc_ BK362 1, bc_ BK362 2, bc_ BK362 3, bc_ BK337 0, bc_ BK337 1, bc_ BK337 2⟩ (fun hHeld => ?_)
    clear hK K
    refine normA (N := some 9) ?_
    refine oneA (N := some 34) 2 HT_ (fun K hK => ?_)
    refine goesA Try.func18 #[.agg #[.int .i64 a1_0, .int .i64 a1_1, .int .i64 a1_2]] ?_
    with_reducible refine (laws_toShopStep.calls a1_0 a1_1 a1_2 t363 t364 t365 _ A14.out).mono ?_
    rintro e w46 ⟨rfl, hb⟩
    refine ⟨_, rfl, ?_⟩
    replace HO343 := Aside0.mk (Kd.R_below (ra_ HO343) hb)
    replace HO352 := Aside0.mk (Kd.R_below (ra_ HO352) hb)
    replace HO360 := Aside0.mk (Kd.R_below (ra_ HO360) hb)
    replace BK336 := bb_ BK336 hb
    replace BK337 := bb_ BK337 hb
    replace BK355 := bb_ BK355 hb
    replace BK362 := bb_ BK362 hb
    replace BK373 := bb_ BK373 hb
    replace HB := Aside0.mk (below_step (bw_ w) hb)
    (try clear hb)
    (try clear hb2)
    (try clear hk)
    (try clear hi)
    refine hK.out _ _ ⟨bc_ BK362 0, bc_ BK362 1, bc_ BK362 2, bc_ BK362 3, bc_ BK337 0, bc_ BK337 1, bc_ BK337 2⟩ (fun hHeld => ?_)
    clear hK K
    refine normA (N := some 34) ?_
    refine oneA (N := some 35) 3 HT_ (fun K hK => ?_)
    refine goesA Try.func14 #[.agg #[.int .i64 t356, .int .i64 t357, .slice Ao42 t358.length co42, .int .i64 t361], .agg #[.int .i64 t363, .int .i64 t364, .int .i64 t365]] ?_
    with_reducible refine (impl_StepShop.calls k t356 t357 _ _ t358 t361 t363 t364 t365 t366 t367 t368 t371 t372 _ ?side1 ?side2 A15.out).mono ?_
    (case side1 => exact co_ (Kd.R_reads' HO360.out).2.2)
    (case side2 => exact (Kd.R_reads' HO360.out).2.1)
    rintro e w47 ⟨v369, rfl, ho0, hb⟩
    refine ⟨_, rfl, ?_⟩
    have n0_ := Aside0.mk (Kd.R_elder' (ra_ HO343) (Kd.R_base ho0) hb)
    have n1_ := Aside0.mk (Kd.R_elder' (ra_ HO352) (Kd.R_base ho0) hb)
    have n2_ := Aside0.mk (Kd.R_elder' (ra_ HO360) (Kd.R_base ho0) hb)
    have n3_ := Aside0.mk (Kd.R_lower (Kd.R_new' (Kd.R_new' (Kd.R_new' ho0 (Kd.R_lt (ra_ HO343))) (Kd.R_lt (ra_ HO352))) (Kd.R_lt (ra_ HO360))) (below_size (bw_ w)))
    have n4_ := bb_ BK336 hb
    have n5_ := bb_ BK337 hb
    have n6_ := bb_ BK355 hb
    have n7_ := bb_ BK362 hb
    have n8_ := bb_ BK373 hb
    have n9_ := Aside0.mk (below_step (bw_ w) hb)
    clear HO343
    clear HO352
    clear HO360
    clear BK336
    clear BK337
    clear BK355
    clear BK362
    clear BK373
    clear HB
    have HO343 := n0_
    have HO352 := n1_
    have HO360 := n2_
    have HO370 := n3_
    have BK336 := n4_
    have BK337 := n5_
    have BK355 := n6_
    have BK362 := n7_
    have BK373 := n8_
    have HB := n9_
    clear n0_ n1_ n2_ n3_ n4_ n5_ n6_ n7_ n8_ n9_
    (try clear hb)
    (try clear hb2)
    (try clear hk)
    (try clear hi)
    (try clear ho0)
    refine hK.out _ _ ⟨bc_ BK362 0, bc_ BK362 1, bc_ BK362 2, bc_ BK362 3, bc_ BK337 0, bc_ BK337 1, bc_ BK337 2⟩ (fun hHeld => ?_)
    clear hK K
    refine normA (N := some 35) ?_
    refine pureA (N := some 31) 4 HT_ ?_
    refine pureA (N := some 36) 5 HT_ ?_
    refine pureA (N := some 37) 6 HT_ ?_
    exact norm_ (by simp only [putAll, Act.put, List.setIfInBounds_toArray, List.set_cons_zero, List.set_cons_succ]) (hCont (v369, gb373) _ ⟨hHeld, (by exact rf_ HO343.out (fun _ hk => ⟨hk.1.1, ⟨hk.1.2, hk.2⟩⟩)), (by exact rf_ HO352.out (fun _ hk => ⟨hk.1.1, ⟨hk.1.2, hk.2⟩⟩)), (by exact rf_ HO360.out (fun _ hk => ⟨hk.1.1, ⟨hk.1.2, hk.2⟩⟩)), (by exact rf_ HO370.out (fun _ hk => ⟨hk.1.1.2, ⟨hk.1.2, hk.2⟩⟩)), (bk_ BK336), (bk_ BK337), (bk_ BK355), (bk_ BK362), (bk_ BK373), GW373.out, GE373.out, NB336_373.out, NB373_336.out, NB337_373.out, NB373_337.out, NB355_373.out, NB373_355.out, NB362_373.out, NB373_362.out, (bw_ w)⟩)
  rintro ⟨v369, gb373⟩ w48 ⟨hS_, h0_, h1_, h2_, h3_, h4_, h5_, h6_, h7_, h8_, h9_, h10_, h11_, h12_, h13_, h14_, h15_, h16_, h17_, h18_, h19_⟩
  have n0_ : Aside0 (Kd.R k34 34 w48 w.heap.size (fun k_ => some k_ ≠ (.slice Ao31 t350.length co31 : Value).ownBlock ∧ some k_ ≠ (.slice Ao42 t358.length co42 : Value).ownBlock ∧ some k_ ≠ (v369 : Value).ownBlock) v342 t341) := ⟨h0_⟩
  have n1_ : Aside0 (Kd.R k34 34 w48 w.heap.size (fun k_ => some k_ ≠ (v342 : Value).ownBlock ∧ some k_ ≠ (.slice Ao42 t358.length co42 : Value).ownBlock ∧ some k_ ≠ (v369 : Value).ownBlock) (.slice Ao31 t350.length co31) t350) := ⟨h1_⟩
  have n2_ : Aside0 (Kd.R k34 34 w48 w.heap.size (fun k_ => some k_ ≠ (v342 : Value).ownBlock ∧ some k_ ≠ (.slice Ao31 t350.length co31 : Value).ownBlock ∧ some k_ ≠ (v369 : Value).ownBlock) (.slice Ao42 t358.length co42) t358) := ⟨h2_⟩
  have n3_ : Aside0 (Kd.R k34 34 w48 w.heap.size (fun k_ => some k_ ≠ (v342 : Value).ownBlock ∧ some k_ ≠ (.slice Ao31 t350.length co31 : Value).ownBlock ∧ some k_ ≠ (.slice Ao42 t358.length co42 : Value).ownBlock) v369 t368) := ⟨h3_⟩
  have n4_ : Aside0 (w48.heap[gb336]? = some (.cells #[.int .i64 a0_0, .int .i64 a0_1, .slice A0_2 l0_2.length c0_2, .int .i64 a0_3] 38 (0, 0))) := ⟨h4_⟩
  have n5_ : Aside0 (w48.heap[gb337]? = some (.cells #[.int .i64 a1_0, .int .i64 a1_1, .int .i64 a1_2] 39 (0, 0))) := ⟨h5_⟩
  have n6_ : Aside0 (w48.heap[gb355]? = some (.cells #[.int .i64 t348, .int .i64 t349, .slice Ao31 t350.length co31, .int .i64 t353] 24 (0, 0))) := ⟨h6_⟩
  have n7_ : Aside0 (w48.heap[gb362]? = some (.cells #[.int .i64 t356, .int .i64 t357, .slice Ao42 t358.length co42, .int .i64 t361] 24 (0, 0))) := ⟨h7_⟩
  have n8_ : Aside0 (w48.heap[gb373]? = some (.cells #[.int .i64 0, .int .i64 0, .slice none 0 0, .int .i64 0] 24 (0, 0))) := ⟨h8_⟩
  have n9_ : Aside0 (w.heap.size ≤ gb373) := ⟨h9_⟩
  have n10_ : Aside0 (w.heap.size ≤ gb373) := ⟨h10_⟩
  have n11_ : Aside0 (gb336 ≠ gb373) := ⟨h11_⟩
  have n12_ : Aside0 (gb373 ≠ gb336) := ⟨h12_⟩
  have n13_ : Aside0 (gb337 ≠ gb373) := ⟨h13_⟩
  have n14_ : Aside0 (gb373 ≠ gb337) := ⟨h14_⟩
  have n15_ : Aside0 (gb355 ≠ gb373) := ⟨h15_⟩
  have n16_ : Aside0 (gb373 ≠ gb355) := ⟨h16_⟩
  have n17_ : Aside0 (gb362 ≠ gb373) := ⟨h17_⟩
  have n18_ : Aside0 (gb373 ≠ gb362) := ⟨h18_⟩
  have n19_ : Aside0 (Below w.heap.size w w48) := ⟨h19_⟩
  clear HO343
  clear HO352
  clear HO360
  clear BK336
  clear BK337
  clear BK355
  clear BK362
  clear HB
  clear h0_ h1_ h2_ h3_ h4_ h5_ h6_ h7_ h8_ h9_ h10_ h11_ h12_ h13_ h14_ h15_ h16_ h17_ h18_ h19_
  have HO343 := n0_
  have HO352 := n1_
  have HO360 := n2_
  have HO370 := n3_
  have BK336 := n4_
  have BK337 := n5_
  have BK355 := n6_
  have BK362 := n7_
  have BK373 := n8_
  have GW373 := n9_
  have GE373 := n10_
  have NB336_373 := n11_
  have NB373_336 := n12_
  have NB337_373 := n13_
  have NB373_337 := n14_
  have NB355_373 := n15_
  have NB373_355 := n16_
  have NB362_373 := n17_
  have NB373_362 := n18_
  have HB := n19_
  clear n0_ n1_ n2_ n3_ n4_ n5_ n6_ n7_ n8_ n9_ n10_ n11_ n12_ n13_ n14_ n15_ n16_ n17_ n18_ n19_
  have hHeld : w48.cell? ⟨gb362, 0, none⟩ = some (.int .i64 t356) ∧ w48.cell? ⟨gb362, 1, none⟩ = some (.int .i64 t357) ∧ w48.cell? ⟨gb362, 2, none⟩ = some (.slice Ao42 t358.length co42) ∧ w48.cell? ⟨gb362, 3, none⟩ = some (.int .i64 t361) ∧ w48.cell? ⟨gb337, 0, none⟩ = some (.int .i64 a1_0) ∧ w48.cell? ⟨gb337, 1, none⟩ = some (.int .i64 a1_1) ∧ w48.cell? ⟨gb337, 2, none⟩ = some (.int .i64 a1_2) := hS_
  obtain ⟨Ao51, co51, eo51⟩ := Kd.R_slice HO370.out
  (first | subst eo51 | (injection eo51 with f1_ f2_ f3_; have f4_ := f1_.symm; have f5_ := f3_.symm; clear f1_ f2_ f3_; subst f4_; subst f5_))
  refine norm_ (a' := ?_) ?_ ?_
  rotate_left
  ·simp only [putAll, Act.put, List.setIfInBounds_toArray, List.set_cons_zero, List.set_cons_succ]
   rfl
  refine oneA (N := none) 8 HT_ (fun K hK => ?_)
  have hs49 : w48.cell? ⟨gb373, 0, none⟩ = some (.int .i64 0) := bc_ BK373 0
  have hfs49 := blk_frozen BK373.out 0
  have hns49_0 := NB336_373.out
  have hns49_1 := NB337_373.out
  have hns49_2 := NB355_373.out
  have hns49_3 := NB362_373.out
  have hms49_0 := NB373_336.out
  have hms49_1 := NB373_337.out
  have hms49_2 := NB373_355.out
  have hms49_3 := NB373_362.out
  have hs50 : w48.cell? ⟨gb373, 1, none⟩ = some (.int .i64 0) := bc_ BK373 1
  have hfs50 := blk_frozen BK373.out 1
  have hns50_0 := NB336_373.out
  have hns50_1 := NB337_373.out
  have hns50_2 := NB355_373.out
  have hns50_3 := NB362_373.out
  have hms50_0 := NB373_336.out
  have hms50_1 := NB373_337.out
  have hms50_2 := NB373_355.out
  have hms50_3 := NB373_362.out
  have hs52 : w48.cell? ⟨gb373, 2, none⟩ = some (.slice none 0 0) := bc_ BK373 2
  have hfs52 := blk_frozen BK373.out 2
  have hns52_0 := NB336_373.out
  have hns52_1 := NB337_373.out
  have hns52_2 := NB355_373.out
  have hns52_3 := NB362_373.out
  have hms52_0 := NB373_336.out
  have hms52_1 := NB373_337.out
  have hms52_2 := NB373_355.out
  have hms52_3 := NB373_362.out
  have hs53 : w48.cell? ⟨gb373, 3, none⟩ = some (.int .i64 0) := bc_ BK373 3
  have hfs53 := blk_frozen BK373.out 3
  have hns53_0 := NB336_373.out
  have hns53_1 := NB337_373.out
  have hns53_2 := NB355_373.out
  have hns53_3 := NB362_373.out
  have hms53_0 := NB373_336.out
  have hms53_1 := NB373_337.out
  have hms53_2 := NB373_355.out
  have hms53_3 := NB373_362.out
  refine skip_ (w1 := ?_) (by rfl) rfl ?_ ?_
  rotate_left
  ·go_simp
   rfl
  refine hK.out _ _ ⟨((cn_ NB362_373).trans (((cn_ NB362_373).trans (((cn_ NB362_373).trans (((cn_ NB362_373).trans (hHeld.1)))))))), ((cn_ NB362_373).trans (((cn_ NB362_373).trans (((cn_ NB362_373).trans (((cn_ NB362_373).trans (hHeld.2.1)))))))), ((cn_ NB362_373).trans (((cn_ NB362_373).trans (((cn_ NB362_373).trans (((cn_ NB362_373).trans (hHeld.2.2.1)))))))), ((cn_ NB362_373).trans (((cn_ NB362_373).trans (((cn_ NB362_373).trans (((cn_ NB362_373).trans (hHeld.2.2.2.1)))))))), ((cn_ NB337_373).trans (((cn_ NB337_373).trans (((cn_ NB337_373).trans (((cn_ NB337_373).trans (hHeld.2.2.2.2.1)))))))), ((cn_ NB337_373).trans (((cn_ NB337_373).trans (((cn_ NB337_373).trans (((cn_ NB337_373).trans (hHeld.2.2.2.2.2.1)))))))), ((cn_ NB337_373).trans (((cn_ NB337_373).trans (((cn_ NB337_373).trans (((cn_ NB337_373).trans (hHeld.2.2.2.2.2.2))))))))⟩ (fun hHeld => ?_)
  clear hK K
  refine pureA (N := some 10) 9 HT_ ?_
  refine done_ (done_of HT_.out (by kernel_rfl)) ?_
  go_upto_region 8 with (fail)
  go_cut [46] (fun v46 wc => ∃ (kq : Nat) (x46_15 : Bool), v46 = .bool x46_15 ∧ Aside0 (laws_FnExactStepShop.j0 kq t354 t372 x46_15 a0_0 a0_1 l0_2 a0_3 a1_0 a1_1 a1_2 t348 t349 t350 t353 t356 t357 t358 t361 t366 t367 t368 t371 = some r) ∧ Aside0 (kq ≤ k) ∧ Aside0 (Kd.R k34 34 wc w.heap.size (fun k_ => some k_ ≠ ((.slice Ao42 t358.length co42) : Value).ownBlock ∧ some k_ ≠ ((.slice Ao51 t368.length co51) : Value).ownBlock) (.slice Ao31 t350.length co31) t350) ∧ Aside0 (Kd.R k34 34 wc w.heap.size (fun k_ => some k_ ≠ ((.slice Ao31 t350.length co31) : Value).ownBlock ∧ some k_ ≠ ((.slice Ao51 t368.length co51) : Value).ownBlock) (.slice Ao42 t358.length co42) t358) ∧ Aside0 (Kd.R k34 34 wc w.heap.size (fun k_ => some k_ ≠ ((.slice Ao31 t350.length co31) : Value).ownBlock ∧ some k_ ≠ ((.slice Ao42 t358.length co42) : Value).ownBlock) (.slice Ao51 t368.length co51) t368) ∧ Aside0 (wc.heap[gb336]? = some (.cells #[.int .i64 a0_0, .int .i64 a0_1, (.slice A0_2 l0_2.length c0_2), .int .i64 a0_3] 38 (0, 0))) ∧ Aside0 (wc.heap[gb337]? = some (.cells #[.int .i64 a1_0, .int .i64 a1_1, .int .i64 a1_2] 39 (0, 0))) ∧ Aside0 (wc.heap[gb355]? = some (.cells #[.int .i64 t348, .int .i64 t349, (.slice Ao31 t350.length co31), .int .i64 t353] 24 (0, 0))) ∧ Aside0 (wc.heap[gb362]? = some (.cells #[.int .i64 t356, .int .i64 t357, (.slice Ao42 t358.length co42), .int .i64 t361] 24 (0, 0))) ∧ Aside0 (wc.heap[gb373]? = some (.cells #[.int .i64 t366, .int .i64 t367, (.slice Ao51 t368.length co51), .int .i64 t371] 24 (0, 0))) ∧ Aside0 (Below w.heap.size w wc))
  case first =>
   have H := HC16.out
   clear HC16
   replace H := Option.bind_eq_some_iff.mp H
   obtain ⟨t374, A540, H⟩ := H
   replace H : (if t374 = true then (laws_FnExactStepShop.j0 k t354 t372 (t372 != t354) a0_0 a0_1 l0_2 a0_3 a1_0 a1_1 a1_2 t348 t349 t350 t353 t356 t357 t358 t361 t366 t367 t368 t371) else (laws_FnExactStepShop.j0 k t354 t372 true a0_0 a0_1 l0_2 a0_3 a1_0 a1_1 a1_2 t348 t349 t350 t353 t356 t357 t358 t361 t366 t367 t368 t371)) = some r := H
   have A54 := Aside0.mk A540
   clear A540
   by_cases c55 : t374 = true
   ·subst c55
    have H1 : (laws_FnExactStepShop.j0 k t354 t372 (t372 != t354) a0_0 a0_1 l0_2 a0_3 a1_0 a1_1 a1_2 t348 t349 t350 t353 t356 t357 t358 t361 t366 t367 t368 t371) = some r := by rw [if_pos rfl] at H; exact H
    clear H
    have H := H1
    clear H1
    have H' := Aside0.mk H
    clear H
    have hnb56 := NB373_336.out
    have hnc56 := NB336_373.out
    have hnb57 := NB373_337.out
    have hnc57 := NB337_373.out
    have hnb58 := NB373_355.out
    have hnc58 := NB355_373.out
    have hnb59 := NB373_362.out
    have hnc59 := NB362_373.out
    obtain ⟨hcz60_0, hcz60_1, hcz60_2, hcz60_3, hfz60_0, hfz60_1, hfz60_2, hfz60_3⟩ := bc4_ (w := w48) BK373
    have hnb61 := NB355_336.out
    have hnc61 := NB336_355.out
    have hnb62 := NB355_337.out
    have hnc62 := NB337_355.out
    have hnb63 := NB355_362.out
    have hnc63 := NB362_355.out
    obtain ⟨hcz64_0, hcz64_1, hcz64_2, hcz64_3, hfz64_0, hfz64_1, hfz64_2, hfz64_3⟩ := bc4_ (w := w48) BK355
    go_wp2_with (first | ((with_reducible refine gate_callee (f := 19) rfl ?_); refine goesB (some 40) Try.func19 #[.agg #[.int .i64 t366, .int .i64 t367, .slice Ao51 t368.length co51, .int .i64 t371], .agg #[.int .i64 t348, .int .i64 t349, .slice Ao31 t350.length co31, .int .i64 t353]] ?_; (with_reducible refine (laws_eqShop.calls k t366 t367 _ _ t368 t371 t348 t349 _ _ t350 t353 true _ ?side1 ?side2 ?side3 ?side4 A54.out).mono ?_); (case side1 => refine (Kd.R_reads' (e := 34) (base := w.heap.size) (ok := fun k_ => (some k_ ≠ (v342 : Value).ownBlock ∧ (some k_ ≠ (.slice Ao31 t350.length co31 : Value).ownBlock ∧ some k_ ≠ (.slice Ao42 t358.length co42 : Value).ownBlock))) (n := t368.length) (c := co51) ?_).2.2; exact (by exact rf_ (Kd.R_types HO370.out BK373.out (by decide)) (fun _ h_ => h_.1))); (case side2 => exact (Kd.R_reads' HO370.out).2.1); (case side3 => refine (Kd.R_reads' (e := 34) (base := w.heap.size) (ok := fun k_ => (some k_ ≠ (v342 : Value).ownBlock ∧ (some k_ ≠ (.slice Ao42 t358.length co42 : Value).ownBlock ∧ some k_ ≠ (.slice Ao51 t368.length co51 : Value).ownBlock))) (n := t350.length) (c := co31) ?_).2.2; exact (by exact rf_ (Kd.R_types HO352.out BK373.out (by decide)) (fun _ h_ => h_.1))); (case side4 => exact (Kd.R_reads' HO352.out).2.1); rintro e w65 ⟨rfl, hb⟩; refine ⟨_, rfl, ?_⟩; replace HO343 := Aside0.mk (Kd.R_below (by exact rf_ (Kd.R_types HO343.out BK373.out (by decide)) (fun _ h_ => h_.1)) hb); replace HO352 := Aside0.mk (Kd.R_below (by exact rf_ (Kd.R_types HO352.out BK373.out (by decide)) (fun _ h_ => h_.1)) hb); replace HO360 := Aside0.mk (Kd.R_below (by exact rf_ (Kd.R_types HO360.out BK373.out (by decide)) (fun _ h_ => h_.1)) hb); replace HO370 := Aside0.mk (Kd.R_below (by exact rf_ (Kd.R_types HO370.out BK373.out (by decide)) (fun _ h_ => h_.1)) hb); replace BK336 := bb_ BK336 hb; replace BK337 := bb_ BK337 hb; replace BK355 := bb_ BK355 hb; replace BK362 := bb_ BK362 hb; replace BK373 := Aside0.mk (blk_below (g := gb373) (o := .cells #[.int .i64 t366, .int .i64 t367, .slice Ao51 t368.length co51, .int .i64 t371] 24 (0, 0)) (bq_ BK373) hb); replace HB := Aside0.mk (below_step (bw_ w) hb); (try clear hb); (try clear hb2); (try clear hk); (try clear hi)))
    go_meet
    case rel => exact ⟨_, ((t372 != t354)), (by first | rfl | (simp; done) | (simp [*]; done)), H', ⟨by first | omega | exact Nat.le_refl _⟩, ⟨by exact rf_ HO352.out (fun _ hk => ⟨hk.2.1, hk.2.2⟩)⟩, ⟨by exact rf_ HO360.out (fun _ hk => ⟨hk.2.1, hk.2.2⟩)⟩, ⟨by exact rf_ HO370.out (fun _ hk => ⟨hk.2.1, hk.2.2⟩)⟩, ⟨bk_ BK336⟩, ⟨bk_ BK337⟩, ⟨bk_ BK355⟩, ⟨bk_ BK362⟩, ⟨bk_ BK373⟩, ⟨(bw_ w)⟩⟩
   ·replace c55 := Bool.eq_false_iff.mpr c55
    subst c55
    have H1 : (laws_FnExactStepShop.j0 k t354 t372 true a0_0 a0_1 l0_2 a0_3 a1_0 a1_1 a1_2 t348 t349 t350 t353 t356 t357 t358 t361 t366 t367 t368 t371) = some r := by rw [if_neg (show ¬ (false = true) by decide)] at H; exact H
    clear H
    have H := H1
    clear H1
    have H' := Aside0.mk H
    clear H
    have hnb66 := NB373_336.out
    have hnc66 := NB336_373.out
    have hnb67 := NB373_337.out
    have hnc67 := NB337_373.out
    have hnb68 := NB373_355.out
    have hnc68 := NB355_373.out
    have hnb69 := NB373_362.out
    have hnc69 := NB362_373.out
    obtain ⟨hcz70_0, hcz70_1, hcz70_2, hcz70_3, hfz70_0, hfz70_1, hfz70_2, hfz70_3⟩ := bc4_ (w := w48) BK373
    have hnb71 := NB355_336.out
    have hnc71 := NB336_355.out
    have hnb72 := NB355_337.out
    have hnc72 := NB337_355.out
    have hnb73 := NB355_362.out
    have hnc73 := NB362_355.out
    obtain ⟨hcz74_0, hcz74_1, hcz74_2, hcz74_3, hfz74_0, hfz74_1, hfz74_2, hfz74_3⟩ := bc4_ (w := w48) BK355
    go_wp2_with (first | ((with_reducible refine gate_callee (f := 19) rfl ?_); refine goesB (some 40) Try.func19 #[.agg #[.int .i64 t366, .int .i64 t367, .slice Ao51 t368.length co51, .int .i64 t371], .agg #[.int .i64 t348, .int .i64 t349, .slice Ao31 t350.length co31, .int .i64 t353]] ?_; (with_reducible refine (laws_eqShop.calls k t366 t367 _ _ t368 t371 t348 t349 _ _ t350 t353 false _ ?side1 ?side2 ?side3 ?side4 A54.out).mono ?_); (case side1 => refine (Kd.R_reads' (e := 34) (base := w.heap.size) (ok := fun k_ => (some k_ ≠ (v342 : Value).ownBlock ∧ (some k_ ≠ (.slice Ao31 t350.length co31 : Value).ownBlock ∧ some k_ ≠ (.slice Ao42 t358.length co42 : Value).ownBlock))) (n := t368.length) (c := co51) ?_).2.2; exact (by exact rf_ (Kd.R_types HO370.out BK373.out (by decide)) (fun _ h_ => h_.1))); (case side2 => exact (Kd.R_reads' HO370.out).2.1); (case side3 => refine (Kd.R_reads' (e := 34) (base := w.heap.size) (ok := fun k_ => (some k_ ≠ (v342 : Value).ownBlock ∧ (some k_ ≠ (.slice Ao42 t358.length co42 : Value).ownBlock ∧ some k_ ≠ (.slice Ao51 t368.length co51 : Value).ownBlock))) (n := t350.length) (c := co31) ?_).2.2; exact (by exact rf_ (Kd.R_types HO352.out BK373.out (by decide)) (fun _ h_ => h_.1))); (case side4 => exact (Kd.R_reads' HO352.out).2.1); rintro e w75 ⟨rfl, hb⟩; refine ⟨_, rfl, ?_⟩; replace HO343 := Aside0.mk (Kd.R_below (by exact rf_ (Kd.R_types HO343.out BK373.out (by decide)) (fun _ h_ => h_.1)) hb); replace HO352 := Aside0.mk (Kd.R_below (by exact rf_ (Kd.R_types HO352.out BK373.out (by decide)) (fun _ h_ => h_.1)) hb); replace HO360 := Aside0.mk (Kd.R_below (by exact rf_ (Kd.R_types HO360.out BK373.out (by decide)) (fun _ h_ => h_.1)) hb); replace HO370 := Aside0.mk (Kd.R_below (by exact rf_ (Kd.R_types HO370.out BK373.out (by decide)) (fun _ h_ => h_.1)) hb); replace BK336 := bb_ BK336 hb; replace BK337 := bb_ BK337 hb; replace BK355 := bb_ BK355 hb; replace BK362 := bb_ BK362 hb; replace BK373 := Aside0.mk (blk_below (g := gb373) (o := .cells #[.int .i64 t366, .int .i64 t367, .slice Ao51 t368.length co51, .int .i64 t371] 24 (0, 0)) (bq_ BK373) hb); replace HB := Aside0.mk (below_step (bw_ w) hb); (try clear hb); (try clear hb2); (try clear hk); (try clear hi)))
    go_meet
    case rel => exact ⟨_, (true), (by first | rfl | (simp; done) | (simp [*]; done)), H', ⟨by first | omega | exact Nat.le_refl _⟩, ⟨by exact rf_ HO352.out (fun _ hk => ⟨hk.2.1, hk.2.2⟩)⟩, ⟨by exact rf_ HO360.out (fun _ hk => ⟨hk.2.1, hk.2.2⟩)⟩, ⟨by exact rf_ HO370.out (fun _ hk => ⟨hk.2.1, hk.2.2⟩)⟩, ⟨bk_ BK336⟩, ⟨bk_ BK337⟩, ⟨bk_ BK355⟩, ⟨bk_ BK362⟩, ⟨bk_ BK373⟩, ⟨(bw_ w)⟩⟩
  case rest =>
   clear HC16
   try clear c1
   try clear p2
   try clear c5
   try clear c6
   try clear c7
   try clear c14
   try clear c18
   try clear c19
   try clear c55
   try clear c56
   try clear c57
   try clear c58
   try clear c59
   try clear c61
   try clear c62
   try clear c63
   try clear c66
   try clear c67
   try clear c68
   try clear c69
   try clear c71
   try clear c72
   try clear c73
   try clear hcz60_0
   try clear hcz60_1
   try clear hcz60_2
   try clear hcz60_3
   try clear hcz64_0
   try clear hcz64_1
   try clear hcz64_2
   try clear hcz64_3
   try clear hcz70_0
   try clear hcz70_1
   try clear hcz70_2
   try clear hcz70_3
   try clear hcz74_0
   try clear hcz74_1
   try clear hcz74_2
   try clear hcz74_3
   try clear hfz60_0
   try clear hfz60_1
   try clear hfz60_2
   try clear hfz60_3
   try clear hfz64_0
   try clear hfz64_1
   try clear hfz64_2
   try clear hfz64_3
   try clear hfz70_0
   try clear hfz70_1
   try clear hfz70_2
   try clear hfz70_3
   try clear hfz74_0
   try clear hfz74_1
   try clear hfz74_2
   try clear hfz74_3
   obtain ⟨kq, x46_15, rfl, HA, HJ15, HO_356002, HO_363002, HO_374002, BK336, BK337, BK355, BK362, BK373, HB⟩ := hcut
   cases kq with
   | zero => exact absurd HA.out (by simp [laws_FnExactStepShop.j0])
   | succ kj15 =>
    have H := HA.out
    clear HA
    simp only [laws_FnExactStepShop.j0] at H
    by_cases c76 : x46_15 = true
    ·subst c76
     have H1 : (some false) = some r := by rw [if_pos rfl] at H; exact H
     clear H
     have H := H1
     clear H1
     exact absurd (H.trans (congrArg some HRT.out)) (by simp)
    ·replace c76 := Bool.eq_false_iff.mpr c76
     subst c76
     have H1 : ((laws_toShop.f kj15 a0_0 a0_1 l0_2 a0_3).bind fun bt375 => ((laws_eqShop.f kj15 t356 t357 t358 t361 bt375.1 bt375.2.1 bt375.2.2.1 bt375.2.2.2).bind fun t381 => (if t381 = true then ((laws_markShop.f kj15 t356 t357 t358 t361 1).bind fun bt382 => (if bt382.1 < 0 then (laws_FnExactStepShop.j1 kj15 t354 true a0_0 a0_1 l0_2 a0_3 a1_0 a1_1 a1_2 t348 t349 t350 t353 t366 t367 t368 t371) else ((laws_eqShop.f kj15 t366 t367 t368 t371 t348 t349 t350 t353).bind fun t384 => (if t384 = true then (laws_FnExactStepShop.j1 kj15 t354 (t372 != t354) a0_0 a0_1 l0_2 a0_3 a1_0 a1_1 a1_2 t348 t349 t350 t353 t366 t367 t368 t371) else (laws_FnExactStepShop.j1 kj15 t354 true a0_0 a0_1 l0_2 a0_3 a1_0 a1_1 a1_2 t348 t349 t350 t353 t366 t367 t368 t371))))) else (some false)))) = some r := by rw [if_neg (show ¬ (false = true) by decide)] at H; exact H
     clear H
     have H := H1
     clear H1
     replace H := Option.bind_eq_some_iff.mp H
     obtain ⟨⟨t375, t376, t377, t380⟩, A770, H⟩ := H
     replace H : ((laws_eqShop.f kj15 t356 t357 t358 t361 t375 t376 t377 t380).bind fun t381 => (if t381 = true then ((laws_markShop.f kj15 t356 t357 t358 t361 1).bind fun bt382 => (if bt382.1 < 0 then (laws_FnExactStepShop.j1 kj15 t354 true a0_0 a0_1 l0_2 a0_3 a1_0 a1_1 a1_2 t348 t349 t350 t353 t366 t367 t368 t371) else ((laws_eqShop.f kj15 t366 t367 t368 t371 t348 t349 t350 t353).bind fun t384 => (if t384 = true then (laws_FnExactStepShop.j1 kj15 t354 (t372 != t354) a0_0 a0_1 l0_2 a0_3 a1_0 a1_1 a1_2 t348 t349 t350 t353 t366 t367 t368 t371) else (laws_FnExactStepShop.j1 kj15 t354 true a0_0 a0_1 l0_2 a0_3 a1_0 a1_1 a1_2 t348 t349 t350 t353 t366 t367 t368 t371))))) else (some false))) = some r := H
     have A77 := Aside0.mk A770
     clear A770
     replace H := Option.bind_eq_some_iff.mp H
     obtain ⟨t381, A780, H⟩ := H
     replace H : (if t381 = true then ((laws_markShop.f kj15 t356 t357 t358 t361 1).bind fun bt382 => (if bt382.1 < 0 then (laws_FnExactStepShop.j1 kj15 t354 true a0_0 a0_1 l0_2 a0_3 a1_0 a1_1 a1_2 t348 t349 t350 t353 t366 t367 t368 t371) else ((laws_eqShop.f kj15 t366 t367 t368 t371 t348 t349 t350 t353).bind fun t384 => (if t384 = true then (laws_FnExactStepShop.j1 kj15 t354 (t372 != t354) a0_0 a0_1 l0_2 a0_3 a1_0 a1_1 a1_2 t348 t349 t350 t353 t366 t367 t368 t371) else (laws_FnExactStepShop.j1 kj15 t354 true a0_0 a0_1 l0_2 a0_3 a1_0 a1_1 a1_2 t348 t349 t350 t353 t366 t367 t368 t371))))) else (some false)) = some r := H
     have A78 := Aside0.mk A780
     clear A780
     by_cases c79 : t381 = true
     ·subst c79
      have H1 : ((laws_markShop.f kj15 t356 t357 t358 t361 1).bind fun bt382 => (if bt382.1 < 0 then (laws_FnExactStepShop.j1 kj15 t354 true a0_0 a0_1 l0_2 a0_3 a1_0 a1_1 a1_2 t348 t349 t350 t353 t366 t367 t368 t371) else ((laws_eqShop.f kj15 t366 t367 t368 t371 t348 t349 t350 t353).bind fun t384 => (if t384 = true then (laws_FnExactStepShop.j1 kj15 t354 (t372 != t354) a0_0 a0_1 l0_2 a0_3 a1_0 a1_1 a1_2 t348 t349 t350 t353 t366 t367 t368 t371) else (laws_FnExactStepShop.j1 kj15 t354 true a0_0 a0_1 l0_2 a0_3 a1_0 a1_1 a1_2 t348 t349 t350 t353 t366 t367 t368 t371))))) = some r := by rw [if_pos rfl] at H; exact H
      clear H
      have H := H1
      clear H1
      replace H := Option.bind_eq_some_iff.mp H
      obtain ⟨⟨t382, t383⟩, A800, H⟩ := H
      replace H : (if t382 < 0 then (laws_FnExactStepShop.j1 kj15 t354 true a0_0 a0_1 l0_2 a0_3 a1_0 a1_1 a1_2 t348 t349 t350 t353 t366 t367 t368 t371) else ((laws_eqShop.f kj15 t366 t367 t368 t371 t348 t349 t350 t353).bind fun t384 => (if t384 = true then (laws_FnExactStepShop.j1 kj15 t354 (t372 != t354) a0_0 a0_1 l0_2 a0_3 a1_0 a1_1 a1_2 t348 t349 t350 t353 t366 t367 t368 t371) else (laws_FnExactStepShop.j1 kj15 t354 true a0_0 a0_1 l0_2 a0_3 a1_0 a1_1 a1_2 t348 t349 t350 t353 t366 t367 t368 t371)))) = some r := H
      have A80 := Aside0.mk A800
      clear A800
      have HC81 := Aside0.mk H
      clear H
      try go_wp2
      replace HO_356002 := Aside0.mk (Kd.R_drew HO_356002.out)
      replace HO_363002 := Aside0.mk (Kd.R_drew HO_363002.out)
      replace HO_374002 := Aside0.mk (Kd.R_drew HO_374002.out)
      replace BK336 := Aside0.mk (blk_drew BK336.out)
      replace BK337 := Aside0.mk (blk_drew BK337.out)
      replace BK355 := Aside0.mk (blk_drew BK355.out)
      replace BK362 := Aside0.mk (blk_drew BK362.out)
      replace BK373 := Aside0.mk (blk_drew BK373.out)
      replace HB := Aside0.mk (below_drew1 HB.out)
      refine start_ (n := 5) (S := fun w' => w'.cell? ⟨gb362, 0, none⟩ = some (.int .i64 t356) ∧ w'.cell? ⟨gb362, 1, none⟩ = some (.int .i64 t357) ∧ w'.cell? ⟨gb362, 2, none⟩ = some (.slice Ao42 t358.length co42) ∧ w'.cell? ⟨gb362, 3, none⟩ = some (.int .i64 t361) ∧ w'.cell? ⟨gb336, 0, none⟩ = some (.int .i64 a0_0) ∧ w'.cell? ⟨gb336, 1, none⟩ = some (.int .i64 a0_1) ∧ w'.cell? ⟨gb336, 2, none⟩ = some (.slice A0_2 l0_2.length c0_2) ∧ w'.cell? ⟨gb336, 3, none⟩ = some (.int .i64 a0_3)) (ds := []) #[false, false, false, false, false] (by kernel_rfl) rfl rfl ⟨bc_ BK362 0, bc_ BK362 1, bc_ BK362 2, bc_ BK362 3, bc_ BK336 0, bc_ BK336 1, bc_ BK336 2, bc_ BK336 3⟩ (fun hHeld => ?_)
      generalize wc.drew = w82 at HO_356002 HO_363002 HO_374002 BK336 BK337 BK355 BK362 BK373 HB hHeld ⊢
      refine take_ (i := 0) (N := some 47) (v := ?_) (a' := ?_) #[true, false, false, false, false] rfl rfl (by kernel_rfl) (fun _ _ _ h => h) (Or.inl ⟨by rfl, ?_⟩) hHeld ?_ ?_
      rotate_left
      ·rintro w' ⟨s0, s1, s2, s3, s4, s5, s6, s7⟩
       go_simp
       with_reducible rfl
      rotate_left
      ·simp only [Act.put, List.setIfInBounds_toArray, List.set_cons_zero, List.set_cons_succ, i64_w, i32_w]
       rfl
      refine take_ (i := 1) (N := some 48) (v := ?_) (a' := ?_) #[true, true, false, false, false] rfl rfl (by kernel_rfl) (fun _ _ _ h => h) (Or.inl ⟨by rfl, ?_⟩) hHeld ?_ ?_
      rotate_left
      ·rintro w' ⟨s0, s1, s2, s3, s4, s5, s6, s7⟩
       go_simp
       with_reducible rfl
      rotate_left
      ·simp only [Act.put, List.setIfInBounds_toArray, List.set_cons_zero, List.set_cons_succ, i64_w, i32_w]
       rfl
      refine one_ (i := 2) (N := some 49) #[true, true, true, false, false] rfl rfl (by kernel_rfl) (by decide) (fun K hK => ?_)
      refine goesA Try.func17 #[.agg #[.int .i64 a0_0, .int .i64 a0_1, .slice A0_2 l0_2.length c0_2, .int .i64 a0_3]] ?_
      with_reducible refine (laws_toShop.calls kj15 a0_0 a0_1 _ _ l0_2 a0_3 t375 t376 t377 t380 _ ?side1 ?side2 A77.out).mono ?_
      (case side1 => exact cb_ HR0_2 HB)
      (case side2 => exact HC0_2.out)
      rintro e w83 ⟨v378, rfl, ho0, hb⟩
      refine ⟨_, rfl, ?_⟩
      have n0_ := Aside0.mk (Kd.R_elder' (ra_ HO_356002) (Kd.R_base ho0) hb)
      have n1_ := Aside0.mk (Kd.R_elder' (ra_ HO_363002) (Kd.R_base ho0) hb)
      have n2_ := Aside0.mk (Kd.R_elder' (ra_ HO_374002) (Kd.R_base ho0) hb)
      have n3_ := Aside0.mk (Kd.R_lower (Kd.R_new' (Kd.R_new' (Kd.R_new' ho0 (Kd.R_lt (ra_ HO_356002))) (Kd.R_lt (ra_ HO_363002))) (Kd.R_lt (ra_ HO_374002))) (below_size (bw_ w)))
      have n4_ := bb_ BK336 hb
      have n5_ := bb_ BK337 hb
      have n6_ := bb_ BK355 hb
      have n7_ := bb_ BK362 hb
      have n8_ := bb_ BK373 hb
      have n9_ := Aside0.mk (below_step (bw_ w) hb)
      clear HO_356002
      clear HO_363002
      clear HO_374002
      clear BK336
      clear BK337
      clear BK355
      clear BK362
      clear BK373
      clear HB
      have HO_356002 := n0_
      have HO_363002 := n1_
      have HO_374002 := n2_
      have HO379 := n3_
      have BK336 := n4_
      have BK337 := n5_
      have BK355 := n6_
      have BK362 := n7_
      have BK373 := n8_
      have HB := n9_
      clear n0_ n1_ n2_ n3_ n4_ n5_ n6_ n7_ n8_ n9_
      (try clear hb)
      (try clear hb2)
      (try clear hk)
      (try clear hi)
      (try clear ho0)
      obtain ⟨Ao84, co84, eo84⟩ := Kd.R_slice HO379.out
      (first | subst eo84 | (injection eo84 with f1_ f2_ f3_; have f4_ := f1_.symm; have f5_ := f3_.symm; clear f1_ f2_ f3_; subst f4_; subst f5_))
      refine hK.out _ _ ⟨bc_ BK362 0, bc_ BK362 1, bc_ BK362 2, bc_ BK362 3, bc_ BK336 0, bc_ BK336 1, bc_ BK336 2, bc_ BK336 3⟩ (fun hHeld => ?_)
      clear hK K
      refine normA (N := some 49) ?_
      refine one_ (i := 3) (N := some 50) #[true, true, true, true, false] rfl rfl (by kernel_rfl) (by decide) (fun K hK => ?_)
      refine goesA Try.func19 #[.agg #[.int .i64 t356, .int .i64 t357, .slice Ao42 t358.length co42, .int .i64 t361], .agg #[.int .i64 t375, .int .i64 t376, .slice Ao84 t377.length co84, .int .i64 t380]] ?_
      with_reducible refine (laws_eqShop.calls kj15 t356 t357 _ _ t358 t361 t375 t376 _ _ t377 t380 true _ ?side1 ?side2 ?side3 ?side4 A78.out).mono ?_
      (case side1 => exact co_ (Kd.R_reads' HO_363002.out).2.2)
      (case side2 => exact (Kd.R_reads' HO_363002.out).2.1)
      (case side3 => exact co_ (Kd.R_reads' HO379.out).2.2)
      (case side4 => exact (Kd.R_reads' HO379.out).2.1)
      rintro e w85 ⟨rfl, hb⟩
      refine ⟨_, rfl, ?_⟩
      replace HO_356002 := Aside0.mk (Kd.R_below (ra_ HO_356002) hb)
      replace HO_363002 := Aside0.mk (Kd.R_below (ra_ HO_363002) hb)
      replace HO_374002 := Aside0.mk (Kd.R_below (ra_ HO_374002) hb)
      replace HO379 := Aside0.mk (Kd.R_below (ra_ HO379) hb)
      replace BK336 := bb_ BK336 hb
      replace BK337 := bb_ BK337 hb
      replace BK355 := bb_ BK355 hb
      replace BK362 := bb_ BK362 hb
      replace BK373 := bb_ BK373 hb
      replace HB := Aside0.mk (below_step (bw_ w) hb)
      (try clear hb)
      (try clear hb2)
      (try clear hk)
      (try clear hi)
      refine hK.out _ _ ⟨bc_ BK362 0, bc_ BK362 1, bc_ BK362 2, bc_ BK362 3, bc_ BK336 0, bc_ BK336 1, bc_ BK336 2, bc_ BK336 3⟩ (fun hHeld => ?_)
      clear hK K
      refine normA (N := some 50) ?_
      refine pureK (N := some 51) 4 ?_
      refine done_ (by kernel_rfl) ?_
      have hnb86 := NB362_336.out
      have hnc86 := NB336_362.out
      have hnb87 := NB362_337.out
      have hnc87 := NB337_362.out
      have hnb88 := NB362_355.out
      have hnc88 := NB355_362.out
      have hnb89 := NB362_373.out
      have hnc89 := NB373_362.out
      obtain ⟨hcz90_0, hcz90_1, hcz90_2, hcz90_3, hfz90_0, hfz90_1, hfz90_2, hfz90_3⟩ := bc4_ (w := w85) BK362
      go_upto_region 14 with (first | ((with_reducible refine gate_callee (f := 20) rfl ?_); refine goesB (some 54) Try.func20 #[.agg #[.int .i64 t356, .int .i64 t357, .slice Ao42 t358.length co42, .int .i64 t361], .int .i64 1] ?_; (with_reducible refine (laws_markShop.calls kj15 t356 t357 (fun k_ => some k_ = (.slice Ao42 t358.length co42 : Value).ownBlock) (.slice Ao42 t358.length co42) t358 t361 1 t382 t383 w _ ?side1 ?side2 A80.out).mono ?_); (case side1 => repeat (first | (with_reducible first | exact HB.out | apply below_alloc | apply pw_below_drewN | apply below_drew1 | refine below_set ?_ GE336.out | refine below_set ?_ GE337.out | refine below_set ?_ GE355.out | refine below_set ?_ GE362.out | refine below_set ?_ GE373.out) | exact HB.out)); (case side2 => exact Kd.R_tight rfl HO_363002.out); rintro e w91 ⟨rfl, hy0, hb, hkp⟩; refine ⟨_, rfl, ?_⟩; have n0_ := Aside0.mk (Kd.R_mono (ok' := fun k_ => some k_ ≠ (.slice Ao42 t358.length co42 : Value).ownBlock ∧ some k_ ≠ (.slice Ao51 t368.length co51 : Value).ownBlock ∧ some k_ ≠ (.slice Ao84 t377.length co84 : Value).ownBlock) (Kd.R_keptB (HO_356002.out) hkp (fun k_ hk_ hs_ => (hk_.1.1) hs_)) (fun k_ hk_ => ⟨hk_.1.1.1, hk_.1.1.2, hk_.1.2⟩)); have n1_ := Aside0.mk (Kd.R_reok rfl hy0 (fun k_ e_ => HO_363002.out.1 k_ e_)); have n2_ := Aside0.mk (Kd.R_mono (ok' := fun k_ => some k_ ≠ (.slice Ao31 t350.length co31 : Value).ownBlock ∧ some k_ ≠ (.slice Ao42 t358.length co42 : Value).ownBlock ∧ some k_ ≠ (.slice Ao84 t377.length co84 : Value).ownBlock) (Kd.R_keptB (HO_374002.out) hkp (fun k_ hk_ hs_ => (hk_.1.2) hs_)) (fun k_ hk_ => ⟨hk_.1.1.1, hk_.1.1.2, hk_.1.2⟩)); have n3_ := Aside0.mk (blk_kept (bk_ BK336) hkp (fun hs_ => (fun e_ => (Kd.R_ne HO_363002.out BK336.out (by decide)) e_) hs_)); have n4_ := Aside0.mk (blk_kept (bk_ BK337) hkp (fun hs_ => (fun e_ => (Kd.R_ne HO_363002.out BK337.out (by decide)) e_) hs_)); have n5_ := Aside0.mk (blk_kept (bk_ BK355) hkp (fun hs_ => (fun e_ => (Kd.R_ne HO_363002.out BK355.out (by decide)) e_) hs_)); have n6_ := Aside0.mk (blk_kept (bk_ BK362) hkp (fun hs_ => (fun e_ => (Kd.R_ne HO_363002.out BK362.out (by decide)) e_) hs_)); have n7_ := Aside0.mk (blk_kept (bk_ BK373) hkp (fun hs_ => (fun e_ => (Kd.R_ne HO_363002.out BK373.out (by decide)) e_) hs_)); have n8_ := Aside0.mk (Kd.R_mono (ok' := fun k_ => some k_ ≠ (.slice Ao31 t350.length co31 : Value).ownBlock ∧ some k_ ≠ (.slice Ao42 t358.length co42 : Value).ownBlock ∧ some k_ ≠ (.slice Ao51 t368.length co51 : Value).ownBlock) (Kd.R_keptB (HO379.out) hkp (fun k_ hk_ hs_ => (hk_.1.2) hs_)) (fun k_ hk_ => ⟨hk_.1.1.1.2, hk_.1.1.2, hk_.1.2⟩)); have n9_ := Aside0.mk (hb); clear HO_356002; clear HO_363002; clear HO_374002; clear BK336; clear BK337; clear BK355; clear BK362; clear BK373; clear HO379; clear HB; have HO_356002 := n0_; have HO_363002 := n1_; have HO_374002 := n2_; have BK336 := n3_; have BK337 := n4_; have BK355 := n5_; have BK362 := n6_; have BK373 := n7_; have HO379 := n8_; have HB := n9_; clear n0_ n1_ n2_ n3_ n4_ n5_ n6_ n7_ n8_ n9_; (try clear hb); (try clear hkp); (try clear hy0)))
      (try simp only [Act.put, List.setIfInBounds_toArray, List.set_cons_zero, List.set_cons_succ])
      go_cut [67] (fun v67 wc => ∃ (kq : Nat) (x67_80 : Bool), v67 = .bool x67_80 ∧ Aside0 (laws_FnExactStepShop.j1 kq t354 x67_80 a0_0 a0_1 l0_2 a0_3 a1_0 a1_1 a1_2 t348 t349 t350 t353 t366 t367 t368 t371 = some r) ∧ Aside0 (kq ≤ kj15) ∧ Aside0 (Kd.R k34 34 wc w.heap.size (fun k_ => some k_ ≠ ((.slice Ao42 t358.length co42) : Value).ownBlock ∧ some k_ ≠ ((.slice Ao51 t368.length co51) : Value).ownBlock) (.slice Ao31 t350.length co31) t350) ∧ Aside0 (Kd.R k34 34 wc w.heap.size (fun k_ => some k_ ≠ ((.slice Ao31 t350.length co31) : Value).ownBlock ∧ some k_ ≠ ((.slice Ao51 t368.length co51) : Value).ownBlock) (.slice Ao42 t358.length co42) t383) ∧ Aside0 (Kd.R k34 34 wc w.heap.size (fun k_ => some k_ ≠ ((.slice Ao31 t350.length co31) : Value).ownBlock ∧ some k_ ≠ ((.slice Ao42 t358.length co42) : Value).ownBlock) (.slice Ao51 t368.length co51) t368) ∧ Aside0 (wc.heap[gb336]? = some (.cells #[.int .i64 a0_0, .int .i64 a0_1, (.slice A0_2 l0_2.length c0_2), .int .i64 a0_3] 38 (0, 0))) ∧ Aside0 (wc.heap[gb337]? = some (.cells #[.int .i64 a1_0, .int .i64 a1_1, .int .i64 a1_2] 39 (0, 0))) ∧ Aside0 (wc.heap[gb355]? = some (.cells #[.int .i64 t348, .int .i64 t349, (.slice Ao31 t350.length co31), .int .i64 t353] 24 (0, 0))) ∧ Aside0 (wc.heap[gb362]? = some (.cells #[.int .i64 t356, .int .i64 t357, (.slice Ao42 t358.length co42), .int .i64 t361] 24 (0, 0))) ∧ Aside0 (wc.heap[gb373]? = some (.cells #[.int .i64 t366, .int .i64 t367, (.slice Ao51 t368.length co51), .int .i64 t371] 24 (0, 0))) ∧ Aside0 (Below w.heap.size w wc))
      case first =>
       have H := HC81.out
       clear HC81
       by_cases c92 : t382 < 0
       ·rw [if_pos c92] at H
        have c92b0 : decide (t382 < 0) = true := decide_eq_true c92
        clear c92
        (first | rw [c92b0] | (simp only [i64_w, i32_w]; rw [c92b0]) | skip)
        have H' := Aside0.mk H
        clear H
        go_wp2
        go_meet
        case rel => exact ⟨_, (true), (by first | rfl | (simp; done) | (simp [*]; done)), H', ⟨by have := HJ15.out; first | omega | exact Nat.le_refl _⟩, ⟨by exact rf_ HO_356002.out (fun _ hk => ⟨hk.1, hk.2.1⟩)⟩, ⟨by exact rf_ HO_363002.out (fun _ hk => ⟨hk.1.1, hk.1.2⟩)⟩, ⟨by exact rf_ HO_374002.out (fun _ hk => ⟨hk.1, hk.2.1⟩)⟩, ⟨bk_ BK336⟩, ⟨bk_ BK337⟩, ⟨bk_ BK355⟩, ⟨bk_ BK362⟩, ⟨bk_ BK373⟩, ⟨(bw_ w)⟩⟩
       ·rw [if_neg c92] at H
        have c92b0 : decide (t382 < 0) = false := decide_eq_false c92
        clear c92
        (first | rw [c92b0] | (simp only [i64_w, i32_w]; rw [c92b0]) | skip)
        replace H := Option.bind_eq_some_iff.mp H
        obtain ⟨t384, A930, H⟩ := H
        replace H : (if t384 = true then (laws_FnExactStepShop.j1 kj15 t354 (t372 != t354) a0_0 a0_1 l0_2 a0_3 a1_0 a1_1 a1_2 t348 t349 t350 t353 t366 t367 t368 t371) else (laws_FnExactStepShop.j1 kj15 t354 true a0_0 a0_1 l0_2 a0_3 a1_0 a1_1 a1_2 t348 t349 t350 t353 t366 t367 t368 t371)) = some r := H
        have A93 := Aside0.mk A930
        clear A930
        by_cases c94 : t384 = true
        ·subst c94
         have H1 : (laws_FnExactStepShop.j1 kj15 t354 (t372 != t354) a0_0 a0_1 l0_2 a0_3 a1_0 a1_1 a1_2 t348 t349 t350 t353 t366 t367 t368 t371) = some r := by rw [if_pos rfl] at H; exact H
         clear H
         have H := H1
         clear H1
         have H' := Aside0.mk H
         clear H
         have hnb95 := NB373_336.out
         have hnc95 := NB336_373.out
         have hnb96 := NB373_337.out
         have hnc96 := NB337_373.out
         have hnb97 := NB373_355.out
         have hnc97 := NB355_373.out
         have hnb98 := NB373_362.out
         have hnc98 := NB362_373.out
         obtain ⟨hcz99_0, hcz99_1, hcz99_2, hcz99_3, hfz99_0, hfz99_1, hfz99_2, hfz99_3⟩ := bc4_ (w := w91) BK373
         have hnb100 := NB355_336.out
         have hnc100 := NB336_355.out
         have hnb101 := NB355_337.out
         have hnc101 := NB337_355.out
         have hnb102 := NB355_362.out
         have hnc102 := NB362_355.out
         obtain ⟨hcz103_0, hcz103_1, hcz103_2, hcz103_3, hfz103_0, hfz103_1, hfz103_2, hfz103_3⟩ := bc4_ (w := w91) BK355
         go_wp2_with (first | (go_at_call 19; (with_reducible refine (laws_eqShop.calls kj15 t366 t367 _ _ t368 t371 t348 t349 _ _ t350 t353 true _ ?side1 ?side2 ?side3 ?side4 A93.out).mono ?_); (case side1 => exact co_ (Kd.R_reads' HO_374002.out).2.2); (case side2 => exact (Kd.R_reads' HO_374002.out).2.1); (case side3 => exact co_ (Kd.R_reads' HO_356002.out).2.2); (case side4 => exact (Kd.R_reads' HO_356002.out).2.1); rintro e w104 ⟨rfl, hb⟩; replace HO_356002 := Aside0.mk (Kd.R_below (ra_ HO_356002) hb); replace HO_363002 := Aside0.mk (Kd.R_below (ra_ HO_363002) hb); replace HO_374002 := Aside0.mk (Kd.R_below (ra_ HO_374002) hb); replace HO379 := Aside0.mk (Kd.R_below (ra_ HO379) hb); replace BK336 := bb_ BK336 hb; replace BK337 := bb_ BK337 hb; replace BK355 := bb_ BK355 hb; replace BK362 := bb_ BK362 hb; replace BK373 := bb_ BK373 hb; replace HB := Aside0.mk (below_step (bw_ w) hb); (try clear hb); (try clear hb2); (try clear hk); (try clear hi)))
         go_meet
         case rel => exact ⟨_, ((t372 != t354)), (by first | rfl | (simp; done) | (simp [*]; done)), H', ⟨by have := HJ15.out; first | omega | exact Nat.le_refl _⟩, ⟨by exact rf_ HO_356002.out (fun _ hk => ⟨hk.1, hk.2.1⟩)⟩, ⟨by exact rf_ HO_363002.out (fun _ hk => ⟨hk.1.1, hk.1.2⟩)⟩, ⟨by exact rf_ HO_374002.out (fun _ hk => ⟨hk.1, hk.2.1⟩)⟩, ⟨bk_ BK336⟩, ⟨bk_ BK337⟩, ⟨bk_ BK355⟩, ⟨bk_ BK362⟩, ⟨bk_ BK373⟩, ⟨(bw_ w)⟩⟩
        ·replace c94 := Bool.eq_false_iff.mpr c94
         subst c94
         have H1 : (laws_FnExactStepShop.j1 kj15 t354 true a0_0 a0_1 l0_2 a0_3 a1_0 a1_1 a1_2 t348 t349 t350 t353 t366 t367 t368 t371) = some r := by rw [if_neg (show ¬ (false = true) by decide)] at H; exact H
         clear H
         have H := H1
         clear H1
         have H' := Aside0.mk H
         clear H
         have hnb105 := NB373_336.out
         have hnc105 := NB336_373.out
         have hnb106 := NB373_337.out
         have hnc106 := NB337_373.out
         have hnb107 := NB373_355.out
         have hnc107 := NB355_373.out
         have hnb108 := NB373_362.out
         have hnc108 := NB362_373.out
         obtain ⟨hcz109_0, hcz109_1, hcz109_2, hcz109_3, hfz109_0, hfz109_1, hfz109_2, hfz109_3⟩ := bc4_ (w := w91) BK373
         have hnb110 := NB355_336.out
         have hnc110 := NB336_355.out
         have hnb111 := NB355_337.out
         have hnc111 := NB337_355.out
         have hnb112 := NB355_362.out
         have hnc112 := NB362_355.out
         obtain ⟨hcz113_0, hcz113_1, hcz113_2, hcz113_3, hfz113_0, hfz113_1, hfz113_2, hfz113_3⟩ := bc4_ (w := w91) BK355
         go_wp2_with (first | (go_at_call 19; (with_reducible refine (laws_eqShop.calls kj15 t366 t367 _ _ t368 t371 t348 t349 _ _ t350 t353 false _ ?side1 ?side2 ?side3 ?side4 A93.out).mono ?_); (case side1 => exact co_ (Kd.R_reads' HO_374002.out).2.2); (case side2 => exact (Kd.R_reads' HO_374002.out).2.1); (case side3 => exact co_ (Kd.R_reads' HO_356002.out).2.2); (case side4 => exact (Kd.R_reads' HO_356002.out).2.1); rintro e w114 ⟨rfl, hb⟩; replace HO_356002 := Aside0.mk (Kd.R_below (ra_ HO_356002) hb); replace HO_363002 := Aside0.mk (Kd.R_below (ra_ HO_363002) hb); replace HO_374002 := Aside0.mk (Kd.R_below (ra_ HO_374002) hb); replace HO379 := Aside0.mk (Kd.R_below (ra_ HO379) hb); replace BK336 := bb_ BK336 hb; replace BK337 := bb_ BK337 hb; replace BK355 := bb_ BK355 hb; replace BK362 := bb_ BK362 hb; replace BK373 := bb_ BK373 hb; replace HB := Aside0.mk (below_step (bw_ w) hb); (try clear hb); (try clear hb2); (try clear hk); (try clear hi)))
         go_meet
         case rel => exact ⟨_, (true), (by first | rfl | (simp; done) | (simp [*]; done)), H', ⟨by have := HJ15.out; first | omega | exact Nat.le_refl _⟩, ⟨by exact rf_ HO_356002.out (fun _ hk => ⟨hk.1, hk.2.1⟩)⟩, ⟨by exact rf_ HO_363002.out (fun _ hk => ⟨hk.1.1, hk.1.2⟩)⟩, ⟨by exact rf_ HO_374002.out (fun _ hk => ⟨hk.1, hk.2.1⟩)⟩, ⟨bk_ BK336⟩, ⟨bk_ BK337⟩, ⟨bk_ BK355⟩, ⟨bk_ BK362⟩, ⟨bk_ BK373⟩, ⟨(bw_ w)⟩⟩
      case rest =>
       clear HC81
       try clear c1
       try clear c2
       try clear p2
       try clear c5
       try clear c6
       try clear c7
       try clear c8
       try clear c9
       try clear c10
       try clear c11
       try clear c14
       try clear c17
       try clear c18
       try clear c19
       try clear c20
       try clear c55
       try clear c56
       try clear c57
       try clear c58
       try clear c59
       try clear c61
       try clear c62
       try clear c63
       try clear c66
       try clear c67
       try clear c68
       try clear c69
       try clear c71
       try clear c72
       try clear c73
       try clear c76
       try clear c79
       try clear c86
       try clear c87
       try clear c88
       try clear c89
       try clear c92
       try clear c92b0
       try clear c94
       try clear c95
       try clear c96
       try clear c97
       try clear c98
       try clear c100
       try clear c101
       try clear c102
       try clear c105
       try clear c106
       try clear c107
       try clear c108
       try clear c110
       try clear c111
       try clear c112
       try clear hcz103_0
       try clear hcz103_1
       try clear hcz103_2
       try clear hcz103_3
       try clear hcz109_0
       try clear hcz109_1
       try clear hcz109_2
       try clear hcz109_3
       try clear hcz113_0
       try clear hcz113_1
       try clear hcz113_2
       try clear hcz113_3
       try clear hcz60_0
       try clear hcz60_1
       try clear hcz60_2
       try clear hcz60_3
       try clear hcz64_0
       try clear hcz64_1
       try clear hcz64_2
       try clear hcz64_3
       try clear hcz70_0
       try clear hcz70_1
       try clear hcz70_2
       try clear hcz70_3
       try clear hcz74_0
       try clear hcz74_1
       try clear hcz74_2
       try clear hcz74_3
       try clear hcz90_0
       try clear hcz90_1
       try clear hcz90_2
       try clear hcz90_3
       try clear hcz99_0
       try clear hcz99_1
       try clear hcz99_2
       try clear hcz99_3
       try clear hfz103_0
       try clear hfz103_1
       try clear hfz103_2
       try clear hfz103_3
       try clear hfz109_0
       try clear hfz109_1
       try clear hfz109_2
       try clear hfz109_3
       try clear hfz113_0
       try clear hfz113_1
       try clear hfz113_2
       try clear hfz113_3
       try clear hfz60_0
       try clear hfz60_1
       try clear hfz60_2
       try clear hfz60_3
       try clear hfz64_0
       try clear hfz64_1
       try clear hfz64_2
       try clear hfz64_3
       try clear hfz70_0
       try clear hfz70_1
       try clear hfz70_2
       try clear hfz70_3
       try clear hfz74_0
       try clear hfz74_1
       try clear hfz74_2
       try clear hfz74_3
       try clear hfz90_0
       try clear hfz90_1
       try clear hfz90_2
       try clear hfz90_3
       try clear hfz99_0
       try clear hfz99_1
       try clear hfz99_2
       try clear hfz99_3
       try clear p2
       obtain ⟨kq, x67_80, rfl, HA, HJ80, HO_356002, HO_363002, HO_374002, BK336, BK337, BK355, BK362, BK373, HB⟩ := hcut
       have hl363002_80 := (Kd.R_reads' HO_363002.out).1
       rw [hl363002_80] at HO_363002
       (try simp only [hl363002_80])
       (try simp only [hl363002_80] at BK336)
       (try simp only [hl363002_80] at BK337)
       (try simp only [hl363002_80] at BK355)
       (try simp only [hl363002_80] at BK362)
       (try simp only [hl363002_80] at BK373)
       (try simp only [hl363002_80] at HO_356002)
       (try simp only [hl363002_80] at HO_374002)
       cases kq with
       | zero => exact absurd HA.out (by simp [laws_FnExactStepShop.j1])
       | succ kj80 =>
        have H := HA.out
        clear HA
        simp only [laws_FnExactStepShop.j1] at H
        by_cases c115 : x67_80 = true
        ·subst c115
         have H1 : (some false) = some r := by rw [if_pos rfl] at H; exact H
         clear H
         have H := H1
         clear H1
         exact absurd (H.trans (congrArg some HRT.out)) (by simp)
        ·replace c115 := Bool.eq_false_iff.mpr c115
         subst c115
         have H1 : ((laws_markShop.f kj80 t366 t367 t368 t371 1).bind fun bt385 => ((laws_heldShop.f kj80 t366 t367 bt385.2 t371 1).bind fun t387 => (if t387 < 0 then (some false) else (if t387 = bt385.1 then ((laws_toShop.f kj80 a0_0 a0_1 l0_2 a0_3).bind fun bt388 => ((laws_toShopStep.f a1_0 a1_1 a1_2).bind fun bt394 => ((impl_StepShop.f kj80 bt388.1 bt388.2.1 bt388.2.2.1 bt388.2.2.2 bt394.1 bt394.2.1 bt394.2.2).bind fun bt397 => ((laws_eqShop.f kj80 bt397.1 bt397.2.1 bt397.2.2.1 bt397.2.2.2.1 t348 t349 t350 t353).bind fun t405 => (if t405 = true then (laws_FnExactStepShop.j2 kj80 bt385.1 (bt397.2.2.2.2 != t354) t366 t367 bt385.2 t371) else (laws_FnExactStepShop.j2 kj80 bt385.1 true t366 t367 bt385.2 t371)))))) else (some false))))) = some r := by rw [if_neg (show ¬ (false = true) by decide)] at H; exact H
         clear H
         have H := H1
         clear H1
         replace H := Option.bind_eq_some_iff.mp H
         obtain ⟨⟨t385, t386⟩, A1160, H⟩ := H
         replace H : ((laws_heldShop.f kj80 t366 t367 t386 t371 1).bind fun t387 => (if t387 < 0 then (some false) else (if t387 = t385 then ((laws_toShop.f kj80 a0_0 a0_1 l0_2 a0_3).bind fun bt388 => ((laws_toShopStep.f a1_0 a1_1 a1_2).bind fun bt394 => ((impl_StepShop.f kj80 bt388.1 bt388.2.1 bt388.2.2.1 bt388.2.2.2 bt394.1 bt394.2.1 bt394.2.2).bind fun bt397 => ((laws_eqShop.f kj80 bt397.1 bt397.2.1 bt397.2.2.1 bt397.2.2.2.1 t348 t349 t350 t353).bind fun t405 => (if t405 = true then (laws_FnExactStepShop.j2 kj80 t385 (bt397.2.2.2.2 != t354) t366 t367 t386 t371) else (laws_FnExactStepShop.j2 kj80 t385 true t366 t367 t386 t371)))))) else (some false)))) = some r := H
         have A116 := Aside0.mk A1160
         clear A1160
         replace H := Option.bind_eq_some_iff.mp H
         obtain ⟨t387, A1170, H⟩ := H
         replace H : (if t387 < 0 then (some false) else (if t387 = t385 then ((laws_toShop.f kj80 a0_0 a0_1 l0_2 a0_3).bind fun bt388 => ((laws_toShopStep.f a1_0 a1_1 a1_2).bind fun bt394 => ((impl_StepShop.f kj80 bt388.1 bt388.2.1 bt388.2.2.1 bt388.2.2.2 bt394.1 bt394.2.1 bt394.2.2).bind fun bt397 => ((laws_eqShop.f kj80 bt397.1 bt397.2.1 bt397.2.2.1 bt397.2.2.2.1 t348 t349 t350 t353).bind fun t405 => (if t405 = true then (laws_FnExactStepShop.j2 kj80 t385 (bt397.2.2.2.2 != t354) t366 t367 t386 t371) else (laws_FnExactStepShop.j2 kj80 t385 true t366 t367 t386 t371)))))) else (some false))) = some r := H
         have A117 := Aside0.mk A1170
         clear A1170
         by_cases c118 : t387 < 0
         ·rw [if_pos c118] at H
          have c118b0 : decide (t387 < 0) = true := decide_eq_true c118
          clear c118
          exact absurd (H.trans (congrArg some HRT.out)) (by simp)
         ·rw [if_neg c118] at H
          have c118b0 : decide (t387 < 0) = false := decide_eq_false c118
          clear c118
          by_cases c119 : t387 = t385
          ·rw [if_pos c119] at H
           have c119b0 : (t387 == t385) = true := beq_iff_eq.mpr c119
           have c119b1 : (t387 != t385) = false := bne_eq_false_iff_eq.mpr c119
           clear c119
           replace H := Option.bind_eq_some_iff.mp H
           obtain ⟨⟨t388, t389, t390, t393⟩, A1200, H⟩ := H
           replace H : ((laws_toShopStep.f a1_0 a1_1 a1_2).bind fun bt394 => ((impl_StepShop.f kj80 t388 t389 t390 t393 bt394.1 bt394.2.1 bt394.2.2).bind fun bt397 => ((laws_eqShop.f kj80 bt397.1 bt397.2.1 bt397.2.2.1 bt397.2.2.2.1 t348 t349 t350 t353).bind fun t405 => (if t405 = true then (laws_FnExactStepShop.j2 kj80 t385 (bt397.2.2.2.2 != t354) t366 t367 t386 t371) else (laws_FnExactStepShop.j2 kj80 t385 true t366 t367 t386 t371))))) = some r := H
           have A120 := Aside0.mk A1200
           clear A1200
           replace H := Option.bind_eq_some_iff.mp H
           obtain ⟨⟨t394, t395, t396⟩, A1210, H⟩ := H
           replace H : ((impl_StepShop.f kj80 t388 t389 t390 t393 t394 t395 t396).bind fun bt397 => ((laws_eqShop.f kj80 bt397.1 bt397.2.1 bt397.2.2.1 bt397.2.2.2.1 t348 t349 t350 t353).bind fun t405 => (if t405 = true then (laws_FnExactStepShop.j2 kj80 t385 (bt397.2.2.2.2 != t354) t366 t367 t386 t371) else (laws_FnExactStepShop.j2 kj80 t385 true t366 t367 t386 t371)))) = some r := H
           have A121 := Aside0.mk A1210
           clear A1210
           replace H := Option.bind_eq_some_iff.mp H
           obtain ⟨⟨t397, t398, t399, t402, t403⟩, A1220, H⟩ := H
           replace H : ((laws_eqShop.f kj80 t397 t398 t399 t402 t348 t349 t350 t353).bind fun t405 => (if t405 = true then (laws_FnExactStepShop.j2 kj80 t385 (t403 != t354) t366 t367 t386 t371) else (laws_FnExactStepShop.j2 kj80 t385 true t366 t367 t386 t371))) = some r := H
           have A122 := Aside0.mk A1220
           clear A1220
           have HC123 := Aside0.mk H
           clear H
           have hnb124 := NB373_336.out
           have hnc124 := NB336_373.out
           have hnb125 := NB373_337.out
           have hnc125 := NB337_373.out
           have hnb126 := NB373_355.out
           have hnc126 := NB355_373.out
           have hnb127 := NB373_362.out
           have hnc127 := NB362_373.out
           obtain ⟨hcz128_0, hcz128_1, hcz128_2, hcz128_3, hfz128_0, hfz128_1, hfz128_2, hfz128_3⟩ := bc4_ (w := wc) BK373
           try go_wp2_with (first | ((with_reducible refine gate_callee (f := 20) rfl ?_); refine goesB (some 70) Try.func20 #[.agg #[.int .i64 t366, .int .i64 t367, .slice Ao51 t368.length co51, .int .i64 t371], .int .i64 1] ?_; (with_reducible refine (laws_markShop.calls kj80 t366 t367 (fun k_ => some k_ = (.slice Ao51 t368.length co51 : Value).ownBlock) (.slice Ao51 t368.length co51) t368 t371 1 t385 t386 w _ ?side1 ?side2 A116.out).mono ?_); (case side1 => repeat (first | (with_reducible first | exact HB.out | apply below_alloc | apply pw_below_drewN | apply below_drew1 | refine below_set ?_ GE336.out | refine below_set ?_ GE337.out | refine below_set ?_ GE355.out | refine below_set ?_ GE362.out | refine below_set ?_ GE373.out) | exact HB.out)); (case side2 => exact Kd.R_tight rfl HO_374002.out); rintro e w129 ⟨rfl, hy0, hb, hkp⟩; refine ⟨_, rfl, ?_⟩; have n0_ := Aside0.mk (Kd.R_mono (ok' := fun k_ => some k_ ≠ (.slice Ao42 t383.length co42 : Value).ownBlock ∧ some k_ ≠ (.slice Ao51 t368.length co51 : Value).ownBlock) (Kd.R_keptB (HO_356002.out) hkp (fun k_ hk_ hs_ => (hk_.2) hs_)) (fun k_ hk_ => ⟨hk_.1.1, hk_.1.2⟩)); have n1_ := Aside0.mk (Kd.R_mono (ok' := fun k_ => some k_ ≠ (.slice Ao31 t350.length co31 : Value).ownBlock ∧ some k_ ≠ (.slice Ao51 t368.length co51 : Value).ownBlock) (Kd.R_keptB (HO_363002.out) hkp (fun k_ hk_ hs_ => (hk_.2) hs_)) (fun k_ hk_ => ⟨hk_.1.1, hk_.1.2⟩)); have n2_ := Aside0.mk (Kd.R_reok rfl hy0 (fun k_ e_ => HO_374002.out.1 k_ e_)); have n3_ := Aside0.mk (blk_kept (bk_ BK336) hkp (fun hs_ => (fun e_ => (Kd.R_ne HO_374002.out BK336.out (by decide)) e_) hs_)); have n4_ := Aside0.mk (blk_kept (bk_ BK337) hkp (fun hs_ => (fun e_ => (Kd.R_ne HO_374002.out BK337.out (by decide)) e_) hs_)); have n5_ := Aside0.mk (blk_kept (bk_ BK355) hkp (fun hs_ => (fun e_ => (Kd.R_ne HO_374002.out BK355.out (by decide)) e_) hs_)); have n6_ := Aside0.mk (blk_kept (bk_ BK362) hkp (fun hs_ => (fun e_ => (Kd.R_ne HO_374002.out BK362.out (by decide)) e_) hs_)); have n7_ := Aside0.mk (blk_kept (bk_ BK373) hkp (fun hs_ => (fun e_ => (Kd.R_ne HO_374002.out BK373.out (by decide)) e_) hs_)); have n8_ := Aside0.mk (hb); clear HO_356002; clear HO_363002; clear HO_374002; clear BK336; clear BK337; clear BK355; clear BK362; clear BK373; clear HB; have HO_356002 := n0_; have HO_363002 := n1_; have HO_374002 := n2_; have BK336 := n3_; have BK337 := n4_; have BK355 := n5_; have BK362 := n6_; have BK373 := n7_; have HB := n8_; clear n0_ n1_ n2_ n3_ n4_ n5_ n6_ n7_ n8_; (try clear hb); (try clear hkp); (try clear hy0); obtain ⟨hcz130_0, hcz130_1, hcz130_2, hcz130_3, hfz130_0, hfz130_1, hfz130_2, hfz130_3⟩ := bc4_ (w := w129) BK373) | ((with_reducible refine gate_callee (f := 21) rfl ?_); refine goesL_ (some 73) rfl rfl Try.func21 (by kernel_rfl) rfl #[.agg #[.int .i64 t366, .int .i64 t367, .slice Ao51 t386.length co51, .int .i64 t371], .int .i64 1] rfl (by (try simp only [List.map_toArray, List.map_cons, List.map_nil]); first | done | (rw [show t386.length = t368.length from (Kd.R_reads' HO_374002.out).1.symm] <;> rfl) | rfl | (simp only [List.length_drop, List.length_take]; rfl)) ?_; (with_reducible refine (laws_heldShop.calls kj80 t366 t367 _ _ t386 t371 1 t387 _ ?side1 ?side2 A117.out).mono ?_); (case side1 => exact co_ (Kd.R_reads' HO_374002.out).2.2); (case side2 => rw [show t386.length = t368.length from (Kd.R_reads' HO_374002.out).1.symm]; exact (Kd.R_reads' HO_374002.out).2.1); rintro e w131 ⟨rfl, hb⟩; refine ⟨_, rfl, ?_⟩; replace HO_356002 := Aside0.mk (Kd.R_below (ra_ HO_356002) hb); replace HO_363002 := Aside0.mk (Kd.R_below (ra_ HO_363002) hb); replace HO_374002 := Aside0.mk (Kd.R_below (ra_ HO_374002) hb); replace BK336 := bb_ BK336 hb; replace BK337 := bb_ BK337 hb; replace BK355 := bb_ BK355 hb; replace BK362 := bb_ BK362 hb; replace BK373 := bb_ BK373 hb; replace HB := Aside0.mk (below_step (bw_ w) hb); (try clear hb); (try clear hb2); (try clear hk); (try clear hi)))
           replace HO_356002 := Aside0.mk (Kd.R_drew HO_356002.out)
           replace HO_363002 := Aside0.mk (Kd.R_drew HO_363002.out)
           replace HO_374002 := Aside0.mk (Kd.R_drew HO_374002.out)
           replace BK336 := Aside0.mk (blk_drew BK336.out)
           replace BK337 := Aside0.mk (blk_drew BK337.out)
           replace BK355 := Aside0.mk (blk_drew BK355.out)
           replace BK362 := Aside0.mk (blk_drew BK362.out)
           replace BK373 := Aside0.mk (blk_drew BK373.out)
           replace HB := Aside0.mk (below_drew1 HB.out)
           refine start_ (n := 11) (S := fun w' => w'.cell? ⟨gb336, 0, none⟩ = some (.int .i64 a0_0) ∧ w'.cell? ⟨gb336, 1, none⟩ = some (.int .i64 a0_1) ∧ w'.cell? ⟨gb336, 2, none⟩ = some (.slice A0_2 l0_2.length c0_2) ∧ w'.cell? ⟨gb336, 3, none⟩ = some (.int .i64 a0_3) ∧ w'.cell? ⟨gb337, 0, none⟩ = some (.int .i64 a1_0) ∧ w'.cell? ⟨gb337, 1, none⟩ = some (.int .i64 a1_1) ∧ w'.cell? ⟨gb337, 2, none⟩ = some (.int .i64 a1_2)) (ds := []) #[false, false, false, false, false, false, false, false, false, false, false] (by kernel_rfl) rfl rfl ⟨bc_ BK336 0, bc_ BK336 1, bc_ BK336 2, bc_ BK336 3, bc_ BK337 0, bc_ BK337 1, bc_ BK337 2⟩ (fun hHeld => ?_); refine with_tabW laws_FnExactStepShop.tab24 laws_FnExactStepShop.bits24 (fun HT_ HW_ => ?_)
           generalize w131.drew = w132 at HO_356002 HO_363002 HO_374002 BK336 BK337 BK355 BK362 BK373 HB hHeld ⊢
           refine takeA (N := some 80) 0 HT_ HW_ hHeld ?_
           refine takeA (N := some 82) 2 HT_ HW_ hHeld ?_
           refine join_ (σ := Value × Value × Nat) 2 #[true, true, true, true, true, true, true, true, true, false, false] (fun s_ => [(81, .agg #[.int .i64 t388, .int .i64 t389, s_.1, .int .i64 t393]), (83, .agg #[.int .i64 t394, .int .i64 t395, .int .i64 t396]), (84, .tuple #[.agg #[.int .i64 t397, .int .i64 t398, s_.2.1, .int .i64 t402], .bool t403]), (14, .pointer (some ⟨s_.2.2, 0, none⟩)), (79, .tuple #[.agg #[.int .i64 t397, .int .i64 t398, s_.2.1, .int .i64 t402], .bool t403]), (85, .agg #[.int .i64 t397, .int .i64 t398, s_.2.1, .int .i64 t402]), (86, .bool t403)]) (fun s_ w' => (w'.cell? ⟨gb336, 0, none⟩ = some (.int .i64 a0_0) ∧ w'.cell? ⟨gb336, 1, none⟩ = some (.int .i64 a0_1) ∧ w'.cell? ⟨gb336, 2, none⟩ = some (.slice A0_2 l0_2.length c0_2) ∧ w'.cell? ⟨gb336, 3, none⟩ = some (.int .i64 a0_3) ∧ w'.cell? ⟨gb337, 0, none⟩ = some (.int .i64 a1_0) ∧ w'.cell? ⟨gb337, 1, none⟩ = some (.int .i64 a1_1) ∧ w'.cell? ⟨gb337, 2, none⟩ = some (.int .i64 a1_2)) ∧ (Kd.R k34 34 w' w.heap.size (fun k_ => some k_ ≠ (s_.2.1 : Value).ownBlock ∧ some k_ ≠ (.slice Ao31 t350.length co31 : Value).ownBlock ∧ some k_ ≠ (.slice Ao42 t383.length co42 : Value).ownBlock ∧ some k_ ≠ (.slice Ao51 t368.length co51 : Value).ownBlock) s_.1 t390) ∧ (Kd.R k34 34 w' w.heap.size (fun k_ => some k_ ≠ (s_.1 : Value).ownBlock ∧ some k_ ≠ (.slice Ao31 t350.length co31 : Value).ownBlock ∧ some k_ ≠ (.slice Ao42 t383.length co42 : Value).ownBlock ∧ some k_ ≠ (.slice Ao51 t368.length co51 : Value).ownBlock) s_.2.1 t399) ∧ (Kd.R k34 34 w' w.heap.size (fun k_ => some k_ ≠ (s_.1 : Value).ownBlock ∧ some k_ ≠ (s_.2.1 : Value).ownBlock ∧ some k_ ≠ (.slice Ao42 t383.length co42 : Value).ownBlock ∧ some k_ ≠ (.slice Ao51 t368.length co51 : Value).ownBlock) (.slice Ao31 t350.length co31) t350) ∧ (Kd.R k34 34 w' w.heap.size (fun k_ => some k_ ≠ (s_.1 : Value).ownBlock ∧ some k_ ≠ (s_.2.1 : Value).ownBlock ∧ some k_ ≠ (.slice Ao31 t350.length co31 : Value).ownBlock ∧ some k_ ≠ (.slice Ao51 t368.length co51 : Value).ownBlock) (.slice Ao42 t383.length co42) t383) ∧ (Kd.R k34 34 w' w.heap.size (fun k_ => some k_ ≠ (s_.1 : Value).ownBlock ∧ some k_ ≠ (s_.2.1 : Value).ownBlock ∧ some k_ ≠ (.slice Ao31 t350.length co31 : Value).ownBlock ∧ some k_ ≠ (.slice Ao42 t383.length co42 : Value).ownBlock) (.slice Ao51 t368.length co51) t386) ∧ (w'.heap[gb336]? = some (.cells #[.int .i64 a0_0, .int .i64 a0_1, .slice A0_2 l0_2.length c0_2, .int .i64 a0_3] 38 (0, 0))) ∧ (w'.heap[gb337]? = some (.cells #[.int .i64 a1_0, .int .i64 a1_1, .int .i64 a1_2] 39 (0, 0))) ∧ (w'.heap[gb355]? = some (.cells #[.int .i64 t348, .int .i64 t349, .slice Ao31 t350.length co31, .int .i64 t353] 24 (0, 0))) ∧ (w'.heap[gb362]? = some (.cells #[.int .i64 t356, .int .i64 t357, .slice Ao42 t383.length co42, .int .i64 t361] 24 (0, 0))) ∧ (w'.heap[gb373]? = some (.cells #[.int .i64 t366, .int .i64 t367, .slice Ao51 t368.length co51, .int .i64 t371] 24 (0, 0))) ∧ (w'.heap[s_.2.2]? = some (.cells #[.int .i64 0, .int .i64 0, .slice none 0 0, .int .i64 0] 24 (0, 0))) ∧ (w.heap.size ≤ s_.2.2) ∧ (w.heap.size ≤ s_.2.2) ∧ (gb336 ≠ s_.2.2) ∧ (s_.2.2 ≠ gb336) ∧ (gb337 ≠ s_.2.2) ∧ (s_.2.2 ≠ gb337) ∧ (gb355 ≠ s_.2.2) ∧ (s_.2.2 ≠ gb355) ∧ (gb362 ≠ s_.2.2) ∧ (s_.2.2 ≠ gb362) ∧ (gb373 ≠ s_.2.2) ∧ (s_.2.2 ≠ gb373) ∧ (Below w.heap.size w w')) ?_ ?_
           rotate_left
           ·intro hCont
            refine twoA (Ni := some 81) (Nj := some 14) 1 8 HT_ (fun K hK => ?_) (fun K hK => ?_)
            ·skip
             refine goesA Try.func17 #[.agg #[.int .i64 a0_0, .int .i64 a0_1, .slice A0_2 l0_2.length c0_2, .int .i64 a0_3]] ?_
             with_reducible refine (laws_toShop.calls kj80 a0_0 a0_1 _ _ l0_2 a0_3 t388 t389 t390 t393 _ ?side1 ?side2 A120.out).mono ?_
             (case side1 => exact cb_ HR0_2 HB)
             (case side2 => exact HC0_2.out)
             rintro e w133 ⟨v391, rfl, ho0, hb⟩
             refine ⟨_, rfl, ?_⟩
             have n0_ := Aside0.mk (Kd.R_elder' (ra_ HO_356002) (Kd.R_base ho0) hb)
             have n1_ := Aside0.mk (Kd.R_elder' (ra_ HO_363002) (Kd.R_base ho0) hb)
             have n2_ := Aside0.mk (Kd.R_elder' (ra_ HO_374002) (Kd.R_base ho0) hb)
             have n3_ := Aside0.mk (Kd.R_lower (Kd.R_new' (Kd.R_new' (Kd.R_new' ho0 (Kd.R_lt (ra_ HO_356002))) (Kd.R_lt (ra_ HO_363002))) (Kd.R_lt (ra_ HO_374002))) (below_size (bw_ w)))
             have n4_ := bb_ BK336 hb
             have n5_ := bb_ BK337 hb
             have n6_ := bb_ BK355 hb
             have n7_ := bb_ BK362 hb
             have n8_ := bb_ BK373 hb
             have n9_ := Aside0.mk (below_step (bw_ w) hb)
             clear HO_356002
             clear HO_363002
             clear HO_374002
             clear BK336
             clear BK337
             clear BK355
             clear BK362
             clear BK373
             clear HB
             have HO_356002 := n0_
             have HO_363002 := n1_
             have HO_374002 := n2_
             have HO392 := n3_
             have BK336 := n4_
             have BK337 := n5_
             have BK355 := n6_
             have BK362 := n7_
             have BK373 := n8_
             have HB := n9_
             clear n0_ n1_ n2_ n3_ n4_ n5_ n6_ n7_ n8_ n9_
             (try clear hb)
             (try clear hb2)
             (try clear hk)
             (try clear hi)
             (try clear ho0)
             refine hK.out _ _ ⟨bc_ BK336 0, bc_ BK336 1, bc_ BK336 2, bc_ BK336 3, bc_ BK337 0, bc_ BK337 1, bc_ BK337 2⟩ (fun hHeld => ?_)
             clear hK K
             refine normA (N := some 81) ?_
             refine twoA (Ni := some 83) (Nj := some 14) 3 8 HT_ (fun K hK => ?_) (fun K hK => ?_)
             ·skip
              refine goesA Try.func18 #[.agg #[.int .i64 a1_0, .int .i64 a1_1, .int .i64 a1_2]] ?_
              with_reducible refine (laws_toShopStep.calls a1_0 a1_1 a1_2 t394 t395 t396 _ A121.out).mono ?_
              rintro e w134 ⟨rfl, hb⟩
              refine ⟨_, rfl, ?_⟩
              replace HO_356002 := Aside0.mk (Kd.R_below (ra_ HO_356002) hb)
              replace HO_363002 := Aside0.mk (Kd.R_below (ra_ HO_363002) hb)
              replace HO_374002 := Aside0.mk (Kd.R_below (ra_ HO_374002) hb)
              replace HO392 := Aside0.mk (Kd.R_below (ra_ HO392) hb)
              replace BK336 := bb_ BK336 hb
              replace BK337 := bb_ BK337 hb
              replace BK355 := bb_ BK355 hb
              replace BK362 := bb_ BK362 hb
              replace BK373 := bb_ BK373 hb
              replace HB := Aside0.mk (below_step (bw_ w) hb)
              (try clear hb)
              (try clear hb2)
              (try clear hk)
              (try clear hi)
              obtain ⟨Ao135, co135, eo135⟩ := Kd.R_slice HO392.out
              (first | subst eo135 | (injection eo135 with f1_ f2_ f3_; have f4_ := f1_.symm; have f5_ := f3_.symm; clear f1_ f2_ f3_; subst f4_; subst f5_))
              refine hK.out _ _ ⟨bc_ BK336 0, bc_ BK336 1, bc_ BK336 2, bc_ BK336 3, bc_ BK337 0, bc_ BK337 1, bc_ BK337 2⟩ (fun hHeld => ?_)
              clear hK K
              refine normA (N := some 83) ?_
              refine twoA (Ni := some 84) (Nj := some 14) 4 8 HT_ (fun K hK => ?_) (fun K hK => ?_)
              ·skip
               refine goesA Try.func14 #[.agg #[.int .i64 t388, .int .i64 t389, .slice Ao135 t390.length co135, .int .i64 t393], .agg #[.int .i64 t394, .int .i64 t395, .int .i64 t396]] ?_
               with_reducible refine (impl_StepShop.calls kj80 t388 t389 _ _ t390 t393 t394 t395 t396 t397 t398 t399 t402 t403 _ ?side1 ?side2 A122.out).mono ?_
               (case side1 => exact co_ (Kd.R_reads' HO392.out).2.2)
               (case side2 => exact (Kd.R_reads' HO392.out).2.1)
               rintro e w136 ⟨v400, rfl, ho0, hb⟩
               refine ⟨_, rfl, ?_⟩
               have n0_ := Aside0.mk (Kd.R_elder' (ra_ HO_356002) (Kd.R_base ho0) hb)
               have n1_ := Aside0.mk (Kd.R_elder' (ra_ HO_363002) (Kd.R_base ho0) hb)
               have n2_ := Aside0.mk (Kd.R_elder' (ra_ HO_374002) (Kd.R_base ho0) hb)
               have n3_ := Aside0.mk (Kd.R_elder' (ra_ HO392) (Kd.R_base ho0) hb)
               have n4_ := Aside0.mk (Kd.R_lower (Kd.R_new' (Kd.R_new' (Kd.R_new' (Kd.R_new' ho0 (Kd.R_lt (ra_ HO_356002))) (Kd.R_lt (ra_ HO_363002))) (Kd.R_lt (ra_ HO_374002))) (Kd.R_lt (ra_ HO392))) (below_size (bw_ w)))
               have n5_ := bb_ BK336 hb
               have n6_ := bb_ BK337 hb
               have n7_ := bb_ BK355 hb
               have n8_ := bb_ BK362 hb
               have n9_ := bb_ BK373 hb
               have n10_ := Aside0.mk (below_step (bw_ w) hb)
               clear HO_356002
               clear HO_363002
               clear HO_374002
               clear HO392
               clear BK336
               clear BK337
               clear BK355
               clear BK362
               clear BK373
               clear HB
               have HO_356002 := n0_
               have HO_363002 := n1_
               have HO_374002 := n2_
               have HO392 := n3_
               have HO401 := n4_
               have BK336 := n5_
               have BK337 := n6_
               have BK355 := n7_
               have BK362 := n8_
               have BK373 := n9_
               have HB := n10_
               clear n0_ n1_ n2_ n3_ n4_ n5_ n6_ n7_ n8_ n9_ n10_
               (try clear hb)
               (try clear hb2)
               (try clear hk)
               (try clear hi)
               (try clear ho0)
               refine hK.out _ _ ⟨bc_ BK336 0, bc_ BK336 1, bc_ BK336 2, bc_ BK336 3, bc_ BK337 0, bc_ BK337 1, bc_ BK337 2⟩ (fun hHeld => ?_)
               clear hK K
               refine normA (N := some 84) ?_
               refine pureA (N := some 79) 5 HT_ ?_
               refine pureA (N := some 85) 6 HT_ ?_
               refine pureA (N := some 86) 7 HT_ ?_
               refine oneA (N := some 14) 8 HT_ (fun K hK => ?_)
               refine box_step ?hg (N := 14) ?hd (cs := #[.int .i64 0, .int .i64 0, .slice none 0 0, .int .i64 0]) (t := 24) ?hr ?_; (case hd => rfl); (case hg => rfl); (case hr => first | (go_simp; done) | (go_simp; rfl))
               intro gb404 hg w137 hbox hb
               have n0_ := Aside0.mk (Kd.R_below (ra_ HO_356002) hb)
               have n1_ := Aside0.mk (Kd.R_below (ra_ HO_363002) hb)
               have n2_ := Aside0.mk (Kd.R_below (ra_ HO_374002) hb)
               have n3_ := Aside0.mk (Kd.R_below (ra_ HO392) hb)
               have n4_ := Aside0.mk (Kd.R_below (ra_ HO401) hb)
               have n5_ := bb_ BK336 hb
               have n6_ := bb_ BK337 hb
               have n7_ := bb_ BK355 hb
               have n8_ := bb_ BK362 hb
               have n9_ := bb_ BK373 hb
               have n10_ := Aside0.mk (below_step (bw_ w) hb)
               have n11_ := Aside0.mk (hbox)
               have n12_ := gz_ w hg
               have n13_ := gz_ w hg
               have n14_ := ne_ hg BK336
               have n15_ := en_ hg BK336
               have n16_ := ne_ hg BK337
               have n17_ := en_ hg BK337
               have n18_ := ne_ hg BK355
               have n19_ := en_ hg BK355
               have n20_ := ne_ hg BK362
               have n21_ := en_ hg BK362
               have n22_ := ne_ hg BK373
               have n23_ := en_ hg BK373
               clear HO_356002
               clear HO_363002
               clear HO_374002
               clear HO392
               clear HO401
               clear BK336
               clear BK337
               clear BK355
               clear BK362
               clear BK373
               clear HB
               have HO_356002 := n0_
               have HO_363002 := n1_
               have HO_374002 := n2_
               have HO392 := n3_
               have HO401 := n4_
               have BK336 := n5_
               have BK337 := n6_
               have BK355 := n7_
               have BK362 := n8_
               have BK373 := n9_
               have HB := n10_
               have BK404 := n11_
               have GW404 := n12_
               have GE404 := n13_
               have NB336_404 := n14_
               have NB404_336 := n15_
               have NB337_404 := n16_
               have NB404_337 := n17_
               have NB355_404 := n18_
               have NB404_355 := n19_
               have NB362_404 := n20_
               have NB404_362 := n21_
               have NB373_404 := n22_
               have NB404_373 := n23_
               clear n0_ n1_ n2_ n3_ n4_ n5_ n6_ n7_ n8_ n9_ n10_ n11_ n12_ n13_ n14_ n15_ n16_ n17_ n18_ n19_ n20_ n21_ n22_ n23_
               clear hb hbox hg
               refine hK.out _ _ ⟨bc_ BK336 0, bc_ BK336 1, bc_ BK336 2, bc_ BK336 3, bc_ BK337 0, bc_ BK337 1, bc_ BK337 2⟩ (fun hHeld => ?_)
               clear hK K
               refine normA (N := some 14) ?_
               exact norm_ (by simp only [putAll, Act.put, List.setIfInBounds_toArray, List.set_cons_zero, List.set_cons_succ]) (hCont (.slice Ao135 t390.length co135, v400, gb404) _ ⟨hHeld, (by exact rf_ HO392.out (fun _ hk => ⟨hk.2, ⟨hk.1.1.1.2, ⟨hk.1.1.2, hk.1.2⟩⟩⟩)), (by exact rf_ HO401.out (fun _ hk => ⟨hk.2, ⟨hk.1.1.1.2, ⟨hk.1.1.2, hk.1.2⟩⟩⟩)), (by exact rf_ HO_356002.out (fun _ hk => ⟨hk.1.2, ⟨hk.2, ⟨hk.1.1.1, hk.1.1.2⟩⟩⟩)), (by exact rf_ HO_363002.out (fun _ hk => ⟨hk.1.2, ⟨hk.2, ⟨hk.1.1.1, hk.1.1.2⟩⟩⟩)), (by exact rf_ HO_374002.out (fun _ hk => ⟨hk.1.2, ⟨hk.2, ⟨hk.1.1.1, hk.1.1.2⟩⟩⟩)), (bk_ BK336), (bk_ BK337), (bk_ BK355), (bk_ BK362), (bk_ BK373), (bk_ BK404), GW404.out, GE404.out, NB336_404.out, NB404_336.out, NB337_404.out, NB404_337.out, NB355_404.out, NB404_355.out, NB362_404.out, NB404_362.out, NB373_404.out, NB404_373.out, (bw_ w)⟩)
              ·skip
               refine box_step ?hg (N := 14) ?hd (cs := #[.int .i64 0, .int .i64 0, .slice none 0 0, .int .i64 0]) (t := 24) ?hr ?_; (case hd => rfl); (case hg => rfl); (case hr => first | (go_simp; done) | (go_simp; rfl))
               intro gb404 hg w135 hbox hb
               have n0_ := Aside0.mk (Kd.R_below (ra_ HO_356002) hb)
               have n1_ := Aside0.mk (Kd.R_below (ra_ HO_363002) hb)
               have n2_ := Aside0.mk (Kd.R_below (ra_ HO_374002) hb)
               have n3_ := Aside0.mk (Kd.R_below (ra_ HO392) hb)
               have n4_ := bb_ BK336 hb
               have n5_ := bb_ BK337 hb
               have n6_ := bb_ BK355 hb
               have n7_ := bb_ BK362 hb
               have n8_ := bb_ BK373 hb
               have n9_ := Aside0.mk (below_step (bw_ w) hb)
               have n10_ := Aside0.mk (hbox)
               have n11_ := gz_ w hg
               have n12_ := gz_ w hg
               have n13_ := ne_ hg BK336
               have n14_ := en_ hg BK336
               have n15_ := ne_ hg BK337
               have n16_ := en_ hg BK337
               have n17_ := ne_ hg BK355
               have n18_ := en_ hg BK355
               have n19_ := ne_ hg BK362
               have n20_ := en_ hg BK362
               have n21_ := ne_ hg BK373
               have n22_ := en_ hg BK373
               clear HO_356002
               clear HO_363002
               clear HO_374002
               clear HO392
               clear BK336
               clear BK337
               clear BK355
               clear BK362
               clear BK373
               clear HB
               have HO_356002 := n0_
               have HO_363002 := n1_
               have HO_374002 := n2_
               have HO392 := n3_
               have BK336 := n4_
               have BK337 := n5_
               have BK355 := n6_
               have BK362 := n7_
               have BK373 := n8_
               have HB := n9_
               have BK404 := n10_
               have GW404 := n11_
               have GE404 := n12_
               have NB336_404 := n13_
               have NB404_336 := n14_
               have NB337_404 := n15_
               have NB404_337 := n16_
               have NB355_404 := n17_
               have NB404_355 := n18_
               have NB362_404 := n19_
               have NB404_362 := n20_
               have NB373_404 := n21_
               have NB404_373 := n22_
               clear n0_ n1_ n2_ n3_ n4_ n5_ n6_ n7_ n8_ n9_ n10_ n11_ n12_ n13_ n14_ n15_ n16_ n17_ n18_ n19_ n20_ n21_ n22_
               clear hb hbox hg
               obtain ⟨Ao136, co136, eo136⟩ := Kd.R_slice HO392.out
               (first | subst eo136 | (injection eo136 with f1_ f2_ f3_; have f4_ := f1_.symm; have f5_ := f3_.symm; clear f1_ f2_ f3_; subst f4_; subst f5_))
               refine hK.out _ _ ⟨bc_ BK336 0, bc_ BK336 1, bc_ BK336 2, bc_ BK336 3, bc_ BK337 0, bc_ BK337 1, bc_ BK337 2⟩ (fun hHeld => ?_)
               clear hK K
               refine normA (N := some 14) ?_
               refine oneA (N := some 84) 4 HT_ (fun K hK => ?_)
               refine goesA Try.func14 #[.agg #[.int .i64 t388, .int .i64 t389, .slice Ao136 t390.length co136, .int .i64 t393], .agg #[.int .i64 t394, .int .i64 t395, .int .i64 t396]] ?_
               with_reducible refine (impl_StepShop.calls kj80 t388 t389 _ _ t390 t393 t394 t395 t396 t397 t398 t399 t402 t403 _ ?side1 ?side2 A122.out).mono ?_
               (case side1 => exact co_ (Kd.R_reads' HO392.out).2.2)
               (case side2 => exact (Kd.R_reads' HO392.out).2.1)
               rintro e w137 ⟨v400, rfl, ho0, hb⟩
               refine ⟨_, rfl, ?_⟩
               have n0_ := Aside0.mk (Kd.R_elder' (ra_ HO_356002) (Kd.R_base ho0) hb)
               have n1_ := Aside0.mk (Kd.R_elder' (ra_ HO_363002) (Kd.R_base ho0) hb)
               have n2_ := Aside0.mk (Kd.R_elder' (ra_ HO_374002) (Kd.R_base ho0) hb)
               have n3_ := Aside0.mk (Kd.R_elder' (ra_ HO392) (Kd.R_base ho0) hb)
               have n4_ := Aside0.mk (Kd.R_lower (Kd.R_new' (Kd.R_new' (Kd.R_new' (Kd.R_new' ho0 (Kd.R_lt (ra_ HO_356002))) (Kd.R_lt (ra_ HO_363002))) (Kd.R_lt (ra_ HO_374002))) (Kd.R_lt (ra_ HO392))) (below_size (bw_ w)))
               have n5_ := bb_ BK336 hb
               have n6_ := bb_ BK337 hb
               have n7_ := bb_ BK355 hb
               have n8_ := bb_ BK362 hb
               have n9_ := bb_ BK373 hb
               have n10_ := bb_ BK404 hb
               have n11_ := Aside0.mk (below_step (bw_ w) hb)
               clear HO_356002
               clear HO_363002
               clear HO_374002
               clear HO392
               clear BK336
               clear BK337
               clear BK355
               clear BK362
               clear BK373
               clear BK404
               clear HB
               have HO_356002 := n0_
               have HO_363002 := n1_
               have HO_374002 := n2_
               have HO392 := n3_
               have HO401 := n4_
               have BK336 := n5_
               have BK337 := n6_
               have BK355 := n7_
               have BK362 := n8_
               have BK373 := n9_
               have BK404 := n10_
               have HB := n11_
               clear n0_ n1_ n2_ n3_ n4_ n5_ n6_ n7_ n8_ n9_ n10_ n11_
               (try clear hb)
               (try clear hb2)
               (try clear hk)
               (try clear hi)
               (try clear ho0)
               refine hK.out _ _ ⟨bc_ BK336 0, bc_ BK336 1, bc_ BK336 2, bc_ BK336 3, bc_ BK337 0, bc_ BK337 1, bc_ BK337 2⟩ (fun hHeld => ?_)
               clear hK K
               refine normA (N := some 84) ?_
               refine pureA (N := some 79) 5 HT_ ?_
               refine pureA (N := some 85) 6 HT_ ?_
               refine pureA (N := some 86) 7 HT_ ?_
               exact norm_ (by simp only [putAll, Act.put, List.setIfInBounds_toArray, List.set_cons_zero, List.set_cons_succ]) (hCont (.slice Ao136 t390.length co136, v400, gb404) _ ⟨hHeld, (by exact rf_ HO392.out (fun _ hk => ⟨hk.2, ⟨hk.1.1.1.2, ⟨hk.1.1.2, hk.1.2⟩⟩⟩)), (by exact rf_ HO401.out (fun _ hk => ⟨hk.2, ⟨hk.1.1.1.2, ⟨hk.1.1.2, hk.1.2⟩⟩⟩)), (by exact rf_ HO_356002.out (fun _ hk => ⟨hk.1.2, ⟨hk.2, ⟨hk.1.1.1, hk.1.1.2⟩⟩⟩)), (by exact rf_ HO_363002.out (fun _ hk => ⟨hk.1.2, ⟨hk.2, ⟨hk.1.1.1, hk.1.1.2⟩⟩⟩)), (by exact rf_ HO_374002.out (fun _ hk => ⟨hk.1.2, ⟨hk.2, ⟨hk.1.1.1, hk.1.1.2⟩⟩⟩)), (bk_ BK336), (bk_ BK337), (bk_ BK355), (bk_ BK362), (bk_ BK373), (bk_ BK404), GW404.out, GE404.out, NB336_404.out, NB404_336.out, NB337_404.out, NB404_337.out, NB355_404.out, NB404_355.out, NB362_404.out, NB404_362.out, NB373_404.out, NB404_373.out, (bw_ w)⟩)
             ·skip
              refine box_step ?hg (N := 14) ?hd (cs := #[.int .i64 0, .int .i64 0, .slice none 0 0, .int .i64 0]) (t := 24) ?hr ?_; (case hd => rfl); (case hg => rfl); (case hr => first | (go_simp; done) | (go_simp; rfl))
              intro gb404 hg w134 hbox hb
              have n0_ := Aside0.mk (Kd.R_below (ra_ HO_356002) hb)
              have n1_ := Aside0.mk (Kd.R_below (ra_ HO_363002) hb)
              have n2_ := Aside0.mk (Kd.R_below (ra_ HO_374002) hb)
              have n3_ := Aside0.mk (Kd.R_below (ra_ HO392) hb)
              have n4_ := bb_ BK336 hb
              have n5_ := bb_ BK337 hb
              have n6_ := bb_ BK355 hb
              have n7_ := bb_ BK362 hb
              have n8_ := bb_ BK373 hb
              have n9_ := Aside0.mk (below_step (bw_ w) hb)
              have n10_ := Aside0.mk (hbox)
              have n11_ := gz_ w hg
              have n12_ := gz_ w hg
              have n13_ := ne_ hg BK336
              have n14_ := en_ hg BK336
              have n15_ := ne_ hg BK337
              have n16_ := en_ hg BK337
              have n17_ := ne_ hg BK355
              have n18_ := en_ hg BK355
              have n19_ := ne_ hg BK362
              have n20_ := en_ hg BK362
              have n21_ := ne_ hg BK373
              have n22_ := en_ hg BK373
              clear HO_356002
              clear HO_363002
              clear HO_374002
              clear HO392
              clear BK336
              clear BK337
              clear BK355
              clear BK362
              clear BK373
              clear HB
              have HO_356002 := n0_
              have HO_363002 := n1_
              have HO_374002 := n2_
              have HO392 := n3_
              have BK336 := n4_
              have BK337 := n5_
              have BK355 := n6_
              have BK362 := n7_
              have BK373 := n8_
              have HB := n9_
              have BK404 := n10_
              have GW404 := n11_
              have GE404 := n12_
              have NB336_404 := n13_
              have NB404_336 := n14_
              have NB337_404 := n15_
              have NB404_337 := n16_
              have NB355_404 := n17_
              have NB404_355 := n18_
              have NB362_404 := n19_
              have NB404_362 := n20_
              have NB373_404 := n21_
              have NB404_373 := n22_
              clear n0_ n1_ n2_ n3_ n4_ n5_ n6_ n7_ n8_ n9_ n10_ n11_ n12_ n13_ n14_ n15_ n16_ n17_ n18_ n19_ n20_ n21_ n22_
              clear hb hbox hg
              refine hK.out _ _ ⟨bc_ BK336 0, bc_ BK336 1, bc_ BK336 2, bc_ BK336 3, bc_ BK337 0, bc_ BK337 1, bc_ BK337 2⟩ (fun hHeld => ?_)
              clear hK K
              refine normA (N := some 14) ?_
              refine oneA (N := some 83) 3 HT_ (fun K hK => ?_)
              refine goesA Try.func18 #[.agg #[.int .i64 a1_0, .int .i64 a1_1, .int .i64 a1_2]] ?_
              with_reducible refine (laws_toShopStep.calls a1_0 a1_1 a1_2 t394 t395 t396 _ A121.out).mono ?_
              rintro e w135 ⟨rfl, hb⟩
              refine ⟨_, rfl, ?_⟩
              replace HO_356002 := Aside0.mk (Kd.R_below (ra_ HO_356002) hb)
              replace HO_363002 := Aside0.mk (Kd.R_below (ra_ HO_363002) hb)
              replace HO_374002 := Aside0.mk (Kd.R_below (ra_ HO_374002) hb)
              replace HO392 := Aside0.mk (Kd.R_below (ra_ HO392) hb)
              replace BK336 := bb_ BK336 hb
              replace BK337 := bb_ BK337 hb
              replace BK355 := bb_ BK355 hb
              replace BK362 := bb_ BK362 hb
              replace BK373 := bb_ BK373 hb
              replace BK404 := bb_ BK404 hb
              replace HB := Aside0.mk (below_step (bw_ w) hb)
              (try clear hb)
              (try clear hb2)
              (try clear hk)
              (try clear hi)
              obtain ⟨Ao136, co136, eo136⟩ := Kd.R_slice HO392.out
              (first | subst eo136 | (injection eo136 with f1_ f2_ f3_; have f4_ := f1_.symm; have f5_ := f3_.symm; clear f1_ f2_ f3_; subst f4_; subst f5_))
              refine hK.out _ _ ⟨bc_ BK336 0, bc_ BK336 1, bc_ BK336 2, bc_ BK336 3, bc_ BK337 0, bc_ BK337 1, bc_ BK337 2⟩ (fun hHeld => ?_)
              clear hK K
              refine normA (N := some 83) ?_
              refine oneA (N := some 84) 4 HT_ (fun K hK => ?_)
              refine goesA Try.func14 #[.agg #[.int .i64 t388, .int .i64 t389, .slice Ao136 t390.length co136, .int .i64 t393], .agg #[.int .i64 t394, .int .i64 t395, .int .i64 t396]] ?_
              with_reducible refine (impl_StepShop.calls kj80 t388 t389 _ _ t390 t393 t394 t395 t396 t397 t398 t399 t402 t403 _ ?side1 ?side2 A122.out).mono ?_
              (case side1 => exact co_ (Kd.R_reads' HO392.out).2.2)
              (case side2 => exact (Kd.R_reads' HO392.out).2.1)
              rintro e w137 ⟨v400, rfl, ho0, hb⟩
              refine ⟨_, rfl, ?_⟩
              have n0_ := Aside0.mk (Kd.R_elder' (ra_ HO_356002) (Kd.R_base ho0) hb)
              have n1_ := Aside0.mk (Kd.R_elder' (ra_ HO_363002) (Kd.R_base ho0) hb)
              have n2_ := Aside0.mk (Kd.R_elder' (ra_ HO_374002) (Kd.R_base ho0) hb)
              have n3_ := Aside0.mk (Kd.R_elder' (ra_ HO392) (Kd.R_base ho0) hb)
              have n4_ := Aside0.mk (Kd.R_lower (Kd.R_new' (Kd.R_new' (Kd.R_new' (Kd.R_new' ho0 (Kd.R_lt (ra_ HO_356002))) (Kd.R_lt (ra_ HO_363002))) (Kd.R_lt (ra_ HO_374002))) (Kd.R_lt (ra_ HO392))) (below_size (bw_ w)))
              have n5_ := bb_ BK336 hb
              have n6_ := bb_ BK337 hb
              have n7_ := bb_ BK355 hb
              have n8_ := bb_ BK362 hb
              have n9_ := bb_ BK373 hb
              have n10_ := bb_ BK404 hb
              have n11_ := Aside0.mk (below_step (bw_ w) hb)
              clear HO_356002
              clear HO_363002
              clear HO_374002
              clear HO392
              clear BK336
              clear BK337
              clear BK355
              clear BK362
              clear BK373
              clear BK404
              clear HB
              have HO_356002 := n0_
              have HO_363002 := n1_
              have HO_374002 := n2_
              have HO392 := n3_
              have HO401 := n4_
              have BK336 := n5_
              have BK337 := n6_
              have BK355 := n7_
              have BK362 := n8_
              have BK373 := n9_
              have BK404 := n10_
              have HB := n11_
              clear n0_ n1_ n2_ n3_ n4_ n5_ n6_ n7_ n8_ n9_ n10_ n11_
              (try clear hb)
              (try clear hb2)
              (try clear hk)
              (try clear hi)
              (try clear ho0)
              refine hK.out _ _ ⟨bc_ BK336 0, bc_ BK336 1, bc_ BK336 2, bc_ BK336 3, bc_ BK337 0, bc_ BK337 1, bc_ BK337 2⟩ (fun hHeld => ?_)
              clear hK K
              refine normA (N := some 84) ?_
              refine pureA (N := some 79) 5 HT_ ?_
              refine pureA (N := some 85) 6 HT_ ?_
              refine pureA (N := some 86) 7 HT_ ?_
              exact norm_ (by simp only [putAll, Act.put, List.setIfInBounds_toArray, List.set_cons_zero, List.set_cons_succ]) (hCont (.slice Ao136 t390.length co136, v400, gb404) _ ⟨hHeld, (by exact rf_ HO392.out (fun _ hk => ⟨hk.2, ⟨hk.1.1.1.2, ⟨hk.1.1.2, hk.1.2⟩⟩⟩)), (by exact rf_ HO401.out (fun _ hk => ⟨hk.2, ⟨hk.1.1.1.2, ⟨hk.1.1.2, hk.1.2⟩⟩⟩)), (by exact rf_ HO_356002.out (fun _ hk => ⟨hk.1.2, ⟨hk.2, ⟨hk.1.1.1, hk.1.1.2⟩⟩⟩)), (by exact rf_ HO_363002.out (fun _ hk => ⟨hk.1.2, ⟨hk.2, ⟨hk.1.1.1, hk.1.1.2⟩⟩⟩)), (by exact rf_ HO_374002.out (fun _ hk => ⟨hk.1.2, ⟨hk.2, ⟨hk.1.1.1, hk.1.1.2⟩⟩⟩)), (bk_ BK336), (bk_ BK337), (bk_ BK355), (bk_ BK362), (bk_ BK373), (bk_ BK404), GW404.out, GE404.out, NB336_404.out, NB404_336.out, NB337_404.out, NB404_337.out, NB355_404.out, NB404_355.out, NB362_404.out, NB404_362.out, NB373_404.out, NB404_373.out, (bw_ w)⟩)
            ·skip
             refine box_step ?hg (N := 14) ?hd (cs := #[.int .i64 0, .int .i64 0, .slice none 0 0, .int .i64 0]) (t := 24) ?hr ?_; (case hd => rfl); (case hg => rfl); (case hr => first | (go_simp; done) | (go_simp; rfl))
             intro gb404 hg w133 hbox hb
             have n0_ := Aside0.mk (Kd.R_below (ra_ HO_356002) hb)
             have n1_ := Aside0.mk (Kd.R_below (ra_ HO_363002) hb)
             have n2_ := Aside0.mk (Kd.R_below (ra_ HO_374002) hb)
             have n3_ := bb_ BK336 hb
             have n4_ := bb_ BK337 hb
             have n5_ := bb_ BK355 hb
             have n6_ := bb_ BK362 hb
             have n7_ := bb_ BK373 hb
             have n8_ := Aside0.mk (below_step (bw_ w) hb)
             have n9_ := Aside0.mk (hbox)
             have n10_ := gz_ w hg
             have n11_ := gz_ w hg
             have n12_ := ne_ hg BK336
             have n13_ := en_ hg BK336
             have n14_ := ne_ hg BK337
             have n15_ := en_ hg BK337
             have n16_ := ne_ hg BK355
             have n17_ := en_ hg BK355
             have n18_ := ne_ hg BK362
             have n19_ := en_ hg BK362
             have n20_ := ne_ hg BK373
             have n21_ := en_ hg BK373
             clear HO_356002
             clear HO_363002
             clear HO_374002
             clear BK336
             clear BK337
             clear BK355
             clear BK362
             clear BK373
             clear HB
             have HO_356002 := n0_
             have HO_363002 := n1_
             have HO_374002 := n2_
             have BK336 := n3_
             have BK337 := n4_
             have BK355 := n5_
             have BK362 := n6_
             have BK373 := n7_
             have HB := n8_
             have BK404 := n9_
             have GW404 := n10_
             have GE404 := n11_
             have NB336_404 := n12_
             have NB404_336 := n13_
             have NB337_404 := n14_
             have NB404_337 := n15_
             have NB355_404 := n16_
             have NB404_355 := n17_
             have NB362_404 := n18_
             have NB404_362 := n19_
             have NB373_404 := n20_
             have NB404_373 := n21_
             clear n0_ n1_ n2_ n3_ n4_ n5_ n6_ n7_ n8_ n9_ n10_ n11_ n12_ n13_ n14_ n15_ n16_ n17_ n18_ n19_ n20_ n21_
             clear hb hbox hg
             refine hK.out _ _ ⟨bc_ BK336 0, bc_ BK336 1, bc_ BK336 2, bc_ BK336 3, bc_ BK337 0, bc_ BK337 1, bc_ BK337 2⟩ (fun hHeld => ?_)
             clear hK K
             refine normA (N := some 14) ?_
             refine oneA (N := some 81) 1 HT_ (fun K hK => ?_)
             refine goesA Try.func17 #[.agg #[.int .i64 a0_0, .int .i64 a0_1, .slice A0_2 l0_2.length c0_2, .int .i64 a0_3]] ?_
             with_reducible refine (laws_toShop.calls kj80 a0_0 a0_1 _ _ l0_2 a0_3 t388 t389 t390 t393 _ ?side1 ?side2 A120.out).mono ?_
             (case side1 => exact cb_ HR0_2 HB)
             (case side2 => exact HC0_2.out)
             rintro e w134 ⟨v391, rfl, ho0, hb⟩
             refine ⟨_, rfl, ?_⟩
             have n0_ := Aside0.mk (Kd.R_elder' (ra_ HO_356002) (Kd.R_base ho0) hb)
             have n1_ := Aside0.mk (Kd.R_elder' (ra_ HO_363002) (Kd.R_base ho0) hb)
             have n2_ := Aside0.mk (Kd.R_elder' (ra_ HO_374002) (Kd.R_base ho0) hb)
             have n3_ := Aside0.mk (Kd.R_lower (Kd.R_new' (Kd.R_new' (Kd.R_new' ho0 (Kd.R_lt (ra_ HO_356002))) (Kd.R_lt (ra_ HO_363002))) (Kd.R_lt (ra_ HO_374002))) (below_size (bw_ w)))
             have n4_ := bb_ BK336 hb
             have n5_ := bb_ BK337 hb
             have n6_ := bb_ BK355 hb
             have n7_ := bb_ BK362 hb
             have n8_ := bb_ BK373 hb
             have n9_ := bb_ BK404 hb
             have n10_ := Aside0.mk (below_step (bw_ w) hb)
             clear HO_356002
             clear HO_363002
             clear HO_374002
             clear BK336
             clear BK337
             clear BK355
             clear BK362
             clear BK373
             clear BK404
             clear HB
             have HO_356002 := n0_
             have HO_363002 := n1_
             have HO_374002 := n2_
             have HO392 := n3_
             have BK336 := n4_
             have BK337 := n5_
             have BK355 := n6_
             have BK362 := n7_
             have BK373 := n8_
             have BK404 := n9_
             have HB := n10_
             clear n0_ n1_ n2_ n3_ n4_ n5_ n6_ n7_ n8_ n9_ n10_
             (try clear hb)
             (try clear hb2)
             (try clear hk)
             (try clear hi)
             (try clear ho0)
             refine hK.out _ _ ⟨bc_ BK336 0, bc_ BK336 1, bc_ BK336 2, bc_ BK336 3, bc_ BK337 0, bc_ BK337 1, bc_ BK337 2⟩ (fun hHeld => ?_)
             clear hK K
             refine normA (N := some 81) ?_
             refine oneA (N := some 83) 3 HT_ (fun K hK => ?_)
             refine goesA Try.func18 #[.agg #[.int .i64 a1_0, .int .i64 a1_1, .int .i64 a1_2]] ?_
             with_reducible refine (laws_toShopStep.calls a1_0 a1_1 a1_2 t394 t395 t396 _ A121.out).mono ?_
             rintro e w135 ⟨rfl, hb⟩
             refine ⟨_, rfl, ?_⟩
             replace HO_356002 := Aside0.mk (Kd.R_below (ra_ HO_356002) hb)
             replace HO_363002 := Aside0.mk (Kd.R_below (ra_ HO_363002) hb)
             replace HO_374002 := Aside0.mk (Kd.R_below (ra_ HO_374002) hb)
             replace HO392 := Aside0.mk (Kd.R_below (ra_ HO392) hb)
             replace BK336 := bb_ BK336 hb
             replace BK337 := bb_ BK337 hb
             replace BK355 := bb_ BK355 hb
             replace BK362 := bb_ BK362 hb
             replace BK373 := bb_ BK373 hb
             replace BK404 := bb_ BK404 hb
             replace HB := Aside0.mk (below_step (bw_ w) hb)
             (try clear hb)
             (try clear hb2)
             (try clear hk)
             (try clear hi)
             obtain ⟨Ao136, co136, eo136⟩ := Kd.R_slice HO392.out
             (first | subst eo136 | (injection eo136 with f1_ f2_ f3_; have f4_ := f1_.symm; have f5_ := f3_.symm; clear f1_ f2_ f3_; subst f4_; subst f5_))
             refine hK.out _ _ ⟨bc_ BK336 0, bc_ BK336 1, bc_ BK336 2, bc_ BK336 3, bc_ BK337 0, bc_ BK337 1, bc_ BK337 2⟩ (fun hHeld => ?_)
             clear hK K
             refine normA (N := some 83) ?_
             refine oneA (N := some 84) 4 HT_ (fun K hK => ?_)
             refine goesA Try.func14 #[.agg #[.int .i64 t388, .int .i64 t389, .slice Ao136 t390.length co136, .int .i64 t393], .agg #[.int .i64 t394, .int .i64 t395, .int .i64 t396]] ?_
             with_reducible refine (impl_StepShop.calls kj80 t388 t389 _ _ t390 t393 t394 t395 t396 t397 t398 t399 t402 t403 _ ?side1 ?side2 A122.out).mono ?_
             (case side1 => exact co_ (Kd.R_reads' HO392.out).2.2)
             (case side2 => exact (Kd.R_reads' HO392.out).2.1)
             rintro e w137 ⟨v400, rfl, ho0, hb⟩
             refine ⟨_, rfl, ?_⟩
             have n0_ := Aside0.mk (Kd.R_elder' (ra_ HO_356002) (Kd.R_base ho0) hb)
             have n1_ := Aside0.mk (Kd.R_elder' (ra_ HO_363002) (Kd.R_base ho0) hb)
             have n2_ := Aside0.mk (Kd.R_elder' (ra_ HO_374002) (Kd.R_base ho0) hb)
             have n3_ := Aside0.mk (Kd.R_elder' (ra_ HO392) (Kd.R_base ho0) hb)
             have n4_ := Aside0.mk (Kd.R_lower (Kd.R_new' (Kd.R_new' (Kd.R_new' (Kd.R_new' ho0 (Kd.R_lt (ra_ HO_356002))) (Kd.R_lt (ra_ HO_363002))) (Kd.R_lt (ra_ HO_374002))) (Kd.R_lt (ra_ HO392))) (below_size (bw_ w)))
             have n5_ := bb_ BK336 hb
             have n6_ := bb_ BK337 hb
             have n7_ := bb_ BK355 hb
             have n8_ := bb_ BK362 hb
             have n9_ := bb_ BK373 hb
             have n10_ := bb_ BK404 hb
             have n11_ := Aside0.mk (below_step (bw_ w) hb)
             clear HO_356002
             clear HO_363002
             clear HO_374002
             clear HO392
             clear BK336
             clear BK337
             clear BK355
             clear BK362
             clear BK373
             clear BK404
             clear HB
             have HO_356002 := n0_
             have HO_363002 := n1_
             have HO_374002 := n2_
             have HO392 := n3_
             have HO401 := n4_
             have BK336 := n5_
             have BK337 := n6_
             have BK355 := n7_
             have BK362 := n8_
             have BK373 := n9_
             have BK404 := n10_
             have HB := n11_
             clear n0_ n1_ n2_ n3_ n4_ n5_ n6_ n7_ n8_ n9_ n10_ n11_
             (try clear hb)
             (try clear hb2)
             (try clear hk)
             (try clear hi)
             (try clear ho0)
             refine hK.out _ _ ⟨bc_ BK336 0, bc_ BK336 1, bc_ BK336 2, bc_ BK336 3, bc_ BK337 0, bc_ BK337 1, bc_ BK337 2⟩ (fun hHeld => ?_)
             clear hK K
             refine normA (N := some 84) ?_
             refine pureA (N := some 79) 5 HT_ ?_
             refine pureA (N := some 85) 6 HT_ ?_
             refine pureA (N := some 86) 7 HT_ ?_
             exact norm_ (by simp only [putAll, Act.put, List.setIfInBounds_toArray, List.set_cons_zero, List.set_cons_succ]) (hCont (.slice Ao136 t390.length co136, v400, gb404) _ ⟨hHeld, (by exact rf_ HO392.out (fun _ hk => ⟨hk.2, ⟨hk.1.1.1.2, ⟨hk.1.1.2, hk.1.2⟩⟩⟩)), (by exact rf_ HO401.out (fun _ hk => ⟨hk.2, ⟨hk.1.1.1.2, ⟨hk.1.1.2, hk.1.2⟩⟩⟩)), (by exact rf_ HO_356002.out (fun _ hk => ⟨hk.1.2, ⟨hk.2, ⟨hk.1.1.1, hk.1.1.2⟩⟩⟩)), (by exact rf_ HO_363002.out (fun _ hk => ⟨hk.1.2, ⟨hk.2, ⟨hk.1.1.1, hk.1.1.2⟩⟩⟩)), (by exact rf_ HO_374002.out (fun _ hk => ⟨hk.1.2, ⟨hk.2, ⟨hk.1.1.1, hk.1.1.2⟩⟩⟩)), (bk_ BK336), (bk_ BK337), (bk_ BK355), (bk_ BK362), (bk_ BK373), (bk_ BK404), GW404.out, GE404.out, NB336_404.out, NB404_336.out, NB337_404.out, NB404_337.out, NB355_404.out, NB404_355.out, NB362_404.out, NB404_362.out, NB373_404.out, NB404_373.out, (bw_ w)⟩)
           rintro ⟨v391, v400, gb404⟩ w138 ⟨hS_, h0_, h1_, h2_, h3_, h4_, h5_, h6_, h7_, h8_, h9_, h10_, h11_, h12_, h13_, h14_, h15_, h16_, h17_, h18_, h19_, h20_, h21_, h22_, h23_⟩
           have n0_ : Aside0 (Kd.R k34 34 w138 w.heap.size (fun k_ => some k_ ≠ (v400 : Value).ownBlock ∧ some k_ ≠ (.slice Ao31 t350.length co31 : Value).ownBlock ∧ some k_ ≠ (.slice Ao42 t383.length co42 : Value).ownBlock ∧ some k_ ≠ (.slice Ao51 t368.length co51 : Value).ownBlock) v391 t390) := ⟨h0_⟩
           have n1_ : Aside0 (Kd.R k34 34 w138 w.heap.size (fun k_ => some k_ ≠ (v391 : Value).ownBlock ∧ some k_ ≠ (.slice Ao31 t350.length co31 : Value).ownBlock ∧ some k_ ≠ (.slice Ao42 t383.length co42 : Value).ownBlock ∧ some k_ ≠ (.slice Ao51 t368.length co51 : Value).ownBlock) v400 t399) := ⟨h1_⟩
           have n2_ : Aside0 (Kd.R k34 34 w138 w.heap.size (fun k_ => some k_ ≠ (v391 : Value).ownBlock ∧ some k_ ≠ (v400 : Value).ownBlock ∧ some k_ ≠ (.slice Ao42 t383.length co42 : Value).ownBlock ∧ some k_ ≠ (.slice Ao51 t368.length co51 : Value).ownBlock) (.slice Ao31 t350.length co31) t350) := ⟨h2_⟩
           have n3_ : Aside0 (Kd.R k34 34 w138 w.heap.size (fun k_ => some k_ ≠ (v391 : Value).ownBlock ∧ some k_ ≠ (v400 : Value).ownBlock ∧ some k_ ≠ (.slice Ao31 t350.length co31 : Value).ownBlock ∧ some k_ ≠ (.slice Ao51 t368.length co51 : Value).ownBlock) (.slice Ao42 t383.length co42) t383) := ⟨h3_⟩
           have n4_ : Aside0 (Kd.R k34 34 w138 w.heap.size (fun k_ => some k_ ≠ (v391 : Value).ownBlock ∧ some k_ ≠ (v400 : Value).ownBlock ∧ some k_ ≠ (.slice Ao31 t350.length co31 : Value).ownBlock ∧ some k_ ≠ (.slice Ao42 t383.length co42 : Value).ownBlock) (.slice Ao51 t368.length co51) t386) := ⟨h4_⟩
           have n5_ : Aside0 (w138.heap[gb336]? = some (.cells #[.int .i64 a0_0, .int .i64 a0_1, .slice A0_2 l0_2.length c0_2, .int .i64 a0_3] 38 (0, 0))) := ⟨h5_⟩
           have n6_ : Aside0 (w138.heap[gb337]? = some (.cells #[.int .i64 a1_0, .int .i64 a1_1, .int .i64 a1_2] 39 (0, 0))) := ⟨h6_⟩
           have n7_ : Aside0 (w138.heap[gb355]? = some (.cells #[.int .i64 t348, .int .i64 t349, .slice Ao31 t350.length co31, .int .i64 t353] 24 (0, 0))) := ⟨h7_⟩
           have n8_ : Aside0 (w138.heap[gb362]? = some (.cells #[.int .i64 t356, .int .i64 t357, .slice Ao42 t383.length co42, .int .i64 t361] 24 (0, 0))) := ⟨h8_⟩
           have n9_ : Aside0 (w138.heap[gb373]? = some (.cells #[.int .i64 t366, .int .i64 t367, .slice Ao51 t368.length co51, .int .i64 t371] 24 (0, 0))) := ⟨h9_⟩
           have n10_ : Aside0 (w138.heap[gb404]? = some (.cells #[.int .i64 0, .int .i64 0, .slice none 0 0, .int .i64 0] 24 (0, 0))) := ⟨h10_⟩
           have n11_ : Aside0 (w.heap.size ≤ gb404) := ⟨h11_⟩
           have n12_ : Aside0 (w.heap.size ≤ gb404) := ⟨h12_⟩
           have n13_ : Aside0 (gb336 ≠ gb404) := ⟨h13_⟩
           have n14_ : Aside0 (gb404 ≠ gb336) := ⟨h14_⟩
           have n15_ : Aside0 (gb337 ≠ gb404) := ⟨h15_⟩
           have n16_ : Aside0 (gb404 ≠ gb337) := ⟨h16_⟩
           have n17_ : Aside0 (gb355 ≠ gb404) := ⟨h17_⟩
           have n18_ : Aside0 (gb404 ≠ gb355) := ⟨h18_⟩
           have n19_ : Aside0 (gb362 ≠ gb404) := ⟨h19_⟩
           have n20_ : Aside0 (gb404 ≠ gb362) := ⟨h20_⟩
           have n21_ : Aside0 (gb373 ≠ gb404) := ⟨h21_⟩
           have n22_ : Aside0 (gb404 ≠ gb373) := ⟨h22_⟩
           have n23_ : Aside0 (Below w.heap.size w w138) := ⟨h23_⟩
           clear HO_356002
           clear HO_363002
           clear HO_374002
           clear BK336
           clear BK337
           clear BK355
           clear BK362
           clear BK373
           clear HB
           clear h0_ h1_ h2_ h3_ h4_ h5_ h6_ h7_ h8_ h9_ h10_ h11_ h12_ h13_ h14_ h15_ h16_ h17_ h18_ h19_ h20_ h21_ h22_ h23_
           have HO392 := n0_
           have HO401 := n1_
           have HO_356002 := n2_
           have HO_363002 := n3_
           have HO_374002 := n4_
           have BK336 := n5_
           have BK337 := n6_
           have BK355 := n7_
           have BK362 := n8_
           have BK373 := n9_
           have BK404 := n10_
           have GW404 := n11_
           have GE404 := n12_
           have NB336_404 := n13_
           have NB404_336 := n14_
           have NB337_404 := n15_
           have NB404_337 := n16_
           have NB355_404 := n17_
           have NB404_355 := n18_
           have NB362_404 := n19_
           have NB404_362 := n20_
           have NB373_404 := n21_
           have NB404_373 := n22_
           have HB := n23_
           clear n0_ n1_ n2_ n3_ n4_ n5_ n6_ n7_ n8_ n9_ n10_ n11_ n12_ n13_ n14_ n15_ n16_ n17_ n18_ n19_ n20_ n21_ n22_ n23_
           have hHeld : w138.cell? ⟨gb336, 0, none⟩ = some (.int .i64 a0_0) ∧ w138.cell? ⟨gb336, 1, none⟩ = some (.int .i64 a0_1) ∧ w138.cell? ⟨gb336, 2, none⟩ = some (.slice A0_2 l0_2.length c0_2) ∧ w138.cell? ⟨gb336, 3, none⟩ = some (.int .i64 a0_3) ∧ w138.cell? ⟨gb337, 0, none⟩ = some (.int .i64 a1_0) ∧ w138.cell? ⟨gb337, 1, none⟩ = some (.int .i64 a1_1) ∧ w138.cell? ⟨gb337, 2, none⟩ = some (.int .i64 a1_2) := hS_
           obtain ⟨Ao141, co141, eo141⟩ := Kd.R_slice HO401.out
           (first | subst eo141 | (injection eo141 with f1_ f2_ f3_; have f4_ := f1_.symm; have f5_ := f3_.symm; clear f1_ f2_ f3_; subst f4_; subst f5_))
           refine norm_ (a' := ?_) ?_ ?_
           rotate_left
           ·simp only [putAll, Act.put, List.setIfInBounds_toArray, List.set_cons_zero, List.set_cons_succ]
            rfl
           refine oneA (N := none) 9 HT_ (fun K hK => ?_)
           have hs139 : w138.cell? ⟨gb404, 0, none⟩ = some (.int .i64 0) := bc_ BK404 0
           have hfs139 := blk_frozen BK404.out 0
           have hns139_0 := NB336_404.out
           have hns139_1 := NB337_404.out
           have hns139_2 := NB355_404.out
           have hns139_3 := NB362_404.out
           have hns139_4 := NB373_404.out
           have hms139_0 := NB404_336.out
           have hms139_1 := NB404_337.out
           have hms139_2 := NB404_355.out
           have hms139_3 := NB404_362.out
           have hms139_4 := NB404_373.out
           have hs140 : w138.cell? ⟨gb404, 1, none⟩ = some (.int .i64 0) := bc_ BK404 1
           have hfs140 := blk_frozen BK404.out 1
           have hns140_0 := NB336_404.out
           have hns140_1 := NB337_404.out
           have hns140_2 := NB355_404.out
           have hns140_3 := NB362_404.out
           have hns140_4 := NB373_404.out
           have hms140_0 := NB404_336.out
           have hms140_1 := NB404_337.out
           have hms140_2 := NB404_355.out
           have hms140_3 := NB404_362.out
           have hms140_4 := NB404_373.out
           have hs142 : w138.cell? ⟨gb404, 2, none⟩ = some (.slice none 0 0) := bc_ BK404 2
           have hfs142 := blk_frozen BK404.out 2
           have hns142_0 := NB336_404.out
           have hns142_1 := NB337_404.out
           have hns142_2 := NB355_404.out
           have hns142_3 := NB362_404.out
           have hns142_4 := NB373_404.out
           have hms142_0 := NB404_336.out
           have hms142_1 := NB404_337.out
           have hms142_2 := NB404_355.out
           have hms142_3 := NB404_362.out
           have hms142_4 := NB404_373.out
           have hs143 : w138.cell? ⟨gb404, 3, none⟩ = some (.int .i64 0) := bc_ BK404 3
           have hfs143 := blk_frozen BK404.out 3
           have hns143_0 := NB336_404.out
           have hns143_1 := NB337_404.out
           have hns143_2 := NB355_404.out
           have hns143_3 := NB362_404.out
           have hns143_4 := NB373_404.out
           have hms143_0 := NB404_336.out
           have hms143_1 := NB404_337.out
           have hms143_2 := NB404_355.out
           have hms143_3 := NB404_362.out
           have hms143_4 := NB404_373.out
           refine skip_ (w1 := ?_) (by rfl) rfl ?_ ?_
           rotate_left
           ·go_simp
            rfl
           refine hK.out _ _ ⟨((cn_ NB336_404).trans (((cn_ NB336_404).trans (((cn_ NB336_404).trans (((cn_ NB336_404).trans (hHeld.1)))))))), ((cn_ NB336_404).trans (((cn_ NB336_404).trans (((cn_ NB336_404).trans (((cn_ NB336_404).trans (hHeld.2.1)))))))), ((cn_ NB336_404).trans (((cn_ NB336_404).trans (((cn_ NB336_404).trans (((cn_ NB336_404).trans (hHeld.2.2.1)))))))), ((cn_ NB336_404).trans (((cn_ NB336_404).trans (((cn_ NB336_404).trans (((cn_ NB336_404).trans (hHeld.2.2.2.1)))))))), ((cn_ NB337_404).trans (((cn_ NB337_404).trans (((cn_ NB337_404).trans (((cn_ NB337_404).trans (hHeld.2.2.2.2.1)))))))), ((cn_ NB337_404).trans (((cn_ NB337_404).trans (((cn_ NB337_404).trans (((cn_ NB337_404).trans (hHeld.2.2.2.2.2.1)))))))), ((cn_ NB337_404).trans (((cn_ NB337_404).trans (((cn_ NB337_404).trans (((cn_ NB337_404).trans (hHeld.2.2.2.2.2.2))))))))⟩ (fun hHeld => ?_)
           clear hK K
           refine pureA (N := some 15) 10 HT_ ?_
           refine done_ (done_of HT_.out (by kernel_rfl)) ?_
           go_upto_region 25 with (fail)
           go_cut [95] (fun v95 wc => ∃ (kq : Nat) (x95_122 : Bool), v95 = .bool x95_122 ∧ Aside0 (laws_FnExactStepShop.j2 kq t385 x95_122 t366 t367 t386 t371 = some r) ∧ Aside0 (kq ≤ kj80) ∧ Aside0 (Kd.R k34 34 wc w.heap.size (fun k_ => some k_ ≠ ((.slice Ao42 t383.length co42) : Value).ownBlock ∧ some k_ ≠ ((.slice Ao51 t368.length co51) : Value).ownBlock ∧ some k_ ≠ ((.slice Ao141 t399.length co141) : Value).ownBlock) (.slice Ao31 t350.length co31) t350) ∧ Aside0 (Kd.R k34 34 wc w.heap.size (fun k_ => some k_ ≠ ((.slice Ao31 t350.length co31) : Value).ownBlock ∧ some k_ ≠ ((.slice Ao51 t368.length co51) : Value).ownBlock ∧ some k_ ≠ ((.slice Ao141 t399.length co141) : Value).ownBlock) (.slice Ao42 t383.length co42) t383) ∧ Aside0 (Kd.R k34 34 wc w.heap.size (fun k_ => some k_ ≠ ((.slice Ao31 t350.length co31) : Value).ownBlock ∧ some k_ ≠ ((.slice Ao42 t383.length co42) : Value).ownBlock ∧ some k_ ≠ ((.slice Ao141 t399.length co141) : Value).ownBlock) (.slice Ao51 t368.length co51) t386) ∧ Aside0 (Kd.R k34 34 wc w.heap.size (fun k_ => some k_ ≠ ((.slice Ao31 t350.length co31) : Value).ownBlock ∧ some k_ ≠ ((.slice Ao42 t383.length co42) : Value).ownBlock ∧ some k_ ≠ ((.slice Ao51 t368.length co51) : Value).ownBlock) (.slice Ao141 t399.length co141) t399) ∧ Aside0 (wc.heap[gb336]? = some (.cells #[.int .i64 a0_0, .int .i64 a0_1, (.slice A0_2 l0_2.length c0_2), .int .i64 a0_3] 38 (0, 0))) ∧ Aside0 (wc.heap[gb337]? = some (.cells #[.int .i64 a1_0, .int .i64 a1_1, .int .i64 a1_2] 39 (0, 0))) ∧ Aside0 (wc.heap[gb355]? = some (.cells #[.int .i64 t348, .int .i64 t349, (.slice Ao31 t350.length co31), .int .i64 t353] 24 (0, 0))) ∧ Aside0 (wc.heap[gb362]? = some (.cells #[.int .i64 t356, .int .i64 t357, (.slice Ao42 t383.length co42), .int .i64 t361] 24 (0, 0))) ∧ Aside0 (wc.heap[gb373]? = some (.cells #[.int .i64 t366, .int .i64 t367, (.slice Ao51 t368.length co51), .int .i64 t371] 24 (0, 0))) ∧ Aside0 (wc.heap[gb404]? = some (.cells #[.int .i64 t397, .int .i64 t398, (.slice Ao141 t399.length co141), .int .i64 t402] 24 (0, 0))) ∧ Aside0 (Below w.heap.size w wc))
           case first =>
            have H := HC123.out
            clear HC123
            replace H := Option.bind_eq_some_iff.mp H
            obtain ⟨t405, A1440, H⟩ := H
            replace H : (if t405 = true then (laws_FnExactStepShop.j2 kj80 t385 (t403 != t354) t366 t367 t386 t371) else (laws_FnExactStepShop.j2 kj80 t385 true t366 t367 t386 t371)) = some r := H
            have A144 := Aside0.mk A1440
            clear A1440
            by_cases c145 : t405 = true
            ·subst c145
             have H1 : (laws_FnExactStepShop.j2 kj80 t385 (t403 != t354) t366 t367 t386 t371) = some r := by rw [if_pos rfl] at H; exact H
             clear H
             have H := H1
             clear H1
             have H' := Aside0.mk H
             clear H
             have hnb146 := NB404_336.out
             have hnc146 := NB336_404.out
             have hnb147 := NB404_337.out
             have hnc147 := NB337_404.out
             have hnb148 := NB404_355.out
             have hnc148 := NB355_404.out
             have hnb149 := NB404_362.out
             have hnc149 := NB362_404.out
             have hnb150 := NB404_373.out
             have hnc150 := NB373_404.out
             obtain ⟨hcz151_0, hcz151_1, hcz151_2, hcz151_3, hfz151_0, hfz151_1, hfz151_2, hfz151_3⟩ := bc4_ (w := w138) BK404
             have hnb152 := NB355_336.out
             have hnc152 := NB336_355.out
             have hnb153 := NB355_337.out
             have hnc153 := NB337_355.out
             have hnb154 := NB355_362.out
             have hnc154 := NB362_355.out
             have hnb155 := NB355_373.out
             have hnc155 := NB373_355.out
             obtain ⟨hcz156_0, hcz156_1, hcz156_2, hcz156_3, hfz156_0, hfz156_1, hfz156_2, hfz156_3⟩ := bc4_ (w := w138) BK355
             go_wp2_with (first | ((with_reducible refine gate_callee (f := 19) rfl ?_); refine goesB (some 89) Try.func19 #[.agg #[.int .i64 t397, .int .i64 t398, .slice Ao141 t399.length co141, .int .i64 t402], .agg #[.int .i64 t348, .int .i64 t349, .slice Ao31 t350.length co31, .int .i64 t353]] ?_; (with_reducible refine (laws_eqShop.calls kj80 t397 t398 _ _ t399 t402 t348 t349 _ _ t350 t353 true _ ?side1 ?side2 ?side3 ?side4 A144.out).mono ?_); (case side1 => refine (Kd.R_reads' (e := 34) (base := w.heap.size) (ok := fun k_ => (some k_ ≠ (v391 : Value).ownBlock ∧ (some k_ ≠ (.slice Ao31 t350.length co31 : Value).ownBlock ∧ (some k_ ≠ (.slice Ao42 t383.length co42 : Value).ownBlock ∧ some k_ ≠ (.slice Ao51 t368.length co51 : Value).ownBlock)))) (n := t399.length) (c := co141) ?_).2.2; exact (by exact rf_ (Kd.R_types HO401.out BK404.out (by decide)) (fun _ h_ => h_.1))); (case side2 => exact (Kd.R_reads' HO401.out).2.1); (case side3 => refine (Kd.R_reads' (e := 34) (base := w.heap.size) (ok := fun k_ => (some k_ ≠ (v391 : Value).ownBlock ∧ (some k_ ≠ (.slice Ao141 t399.length co141 : Value).ownBlock ∧ (some k_ ≠ (.slice Ao42 t383.length co42 : Value).ownBlock ∧ some k_ ≠ (.slice Ao51 t368.length co51 : Value).ownBlock)))) (n := t350.length) (c := co31) ?_).2.2; exact (by exact rf_ (Kd.R_types HO_356002.out BK404.out (by decide)) (fun _ h_ => h_.1))); (case side4 => exact (Kd.R_reads' HO_356002.out).2.1); rintro e w157 ⟨rfl, hb⟩; refine ⟨_, rfl, ?_⟩; replace HO_356002 := Aside0.mk (Kd.R_below (by exact rf_ (Kd.R_types HO_356002.out BK404.out (by decide)) (fun _ h_ => h_.1)) hb); replace HO_363002 := Aside0.mk (Kd.R_below (by exact rf_ (Kd.R_types HO_363002.out BK404.out (by decide)) (fun _ h_ => h_.1)) hb); replace HO_374002 := Aside0.mk (Kd.R_below (by exact rf_ (Kd.R_types HO_374002.out BK404.out (by decide)) (fun _ h_ => h_.1)) hb); replace HO392 := Aside0.mk (Kd.R_below (by exact rf_ (Kd.R_types HO392.out BK404.out (by decide)) (fun _ h_ => h_.1)) hb); replace HO401 := Aside0.mk (Kd.R_below (by exact rf_ (Kd.R_types HO401.out BK404.out (by decide)) (fun _ h_ => h_.1)) hb); replace BK336 := bb_ BK336 hb; replace BK337 := bb_ BK337 hb; replace BK355 := bb_ BK355 hb; replace BK362 := bb_ BK362 hb; replace BK373 := bb_ BK373 hb; replace BK404 := Aside0.mk (blk_below (g := gb404) (o := .cells #[.int .i64 t397, .int .i64 t398, .slice Ao141 t399.length co141, .int .i64 t402] 24 (0, 0)) (bq_ BK404) hb); replace HB := Aside0.mk (below_step (bw_ w) hb); (try clear hb); (try clear hb2); (try clear hk); (try clear hi)))
             go_meet
             case rel => exact ⟨_, ((t403 != t354)), (by first | rfl | (simp; done) | (simp [*]; done)), H', ⟨by have := HJ15.out; have := HJ80.out; first | omega | exact Nat.le_refl _⟩, ⟨by (try simp only [hl363002_80]); (with_reducible repeat (first | apply Kd.R_alloc | apply Kd.R_drewN | apply Kd.R_drew)); exact Kd.R_mono HO_356002.out (fun _ hk => ⟨hk.2.2.1, ⟨hk.2.2.2, hk.2.1⟩⟩)⟩, ⟨by (try simp only [hl363002_80]); (with_reducible repeat (first | apply Kd.R_alloc | apply Kd.R_drewN | apply Kd.R_drew)); exact Kd.R_mono HO_363002.out (fun _ hk => ⟨hk.2.2.1, ⟨hk.2.2.2, hk.2.1⟩⟩)⟩, ⟨by (try simp only [hl363002_80]); (with_reducible repeat (first | apply Kd.R_alloc | apply Kd.R_drewN | apply Kd.R_drew)); exact Kd.R_mono HO_374002.out (fun _ hk => ⟨hk.2.2.1, ⟨hk.2.2.2, hk.2.1⟩⟩)⟩, ⟨by (try simp only [hl363002_80]); (with_reducible repeat (first | apply Kd.R_alloc | apply Kd.R_drewN | apply Kd.R_drew)); exact Kd.R_mono HO401.out (fun _ hk => ⟨hk.2.1, ⟨hk.2.2.1, hk.2.2.2⟩⟩)⟩, ⟨by (try simp only [hl363002_80]); (with_reducible repeat (first | refine blk_drewN ?_ _ | refine blk_drew ?_ | refine blk_alloc ?_ _)); exact BK336.out⟩, ⟨by (try simp only [hl363002_80]); (with_reducible repeat (first | refine blk_drewN ?_ _ | refine blk_drew ?_ | refine blk_alloc ?_ _)); exact BK337.out⟩, ⟨by (try simp only [hl363002_80]); (with_reducible repeat (first | refine blk_drewN ?_ _ | refine blk_drew ?_ | refine blk_alloc ?_ _)); exact BK355.out⟩, ⟨by (try simp only [hl363002_80]); (with_reducible repeat (first | refine blk_drewN ?_ _ | refine blk_drew ?_ | refine blk_alloc ?_ _)); exact BK362.out⟩, ⟨by (try simp only [hl363002_80]); (with_reducible repeat (first | refine blk_drewN ?_ _ | refine blk_drew ?_ | refine blk_alloc ?_ _)); exact BK373.out⟩, ⟨by (try simp only [hl363002_80]); (with_reducible repeat (first | refine blk_drewN ?_ _ | refine blk_drew ?_ | refine blk_alloc ?_ _)); exact BK404.out⟩, ⟨(bw_ w)⟩⟩
            ·replace c145 := Bool.eq_false_iff.mpr c145
             subst c145
             have H1 : (laws_FnExactStepShop.j2 kj80 t385 true t366 t367 t386 t371) = some r := by rw [if_neg (show ¬ (false = true) by decide)] at H; exact H
             clear H
             have H := H1
             clear H1
             have H' := Aside0.mk H
             clear H
             have hnb158 := NB404_336.out
             have hnc158 := NB336_404.out
             have hnb159 := NB404_337.out
             have hnc159 := NB337_404.out
             have hnb160 := NB404_355.out
             have hnc160 := NB355_404.out
             have hnb161 := NB404_362.out
             have hnc161 := NB362_404.out
             have hnb162 := NB404_373.out
             have hnc162 := NB373_404.out
             obtain ⟨hcz163_0, hcz163_1, hcz163_2, hcz163_3, hfz163_0, hfz163_1, hfz163_2, hfz163_3⟩ := bc4_ (w := w138) BK404
             have hnb164 := NB355_336.out
             have hnc164 := NB336_355.out
             have hnb165 := NB355_337.out
             have hnc165 := NB337_355.out
             have hnb166 := NB355_362.out
             have hnc166 := NB362_355.out
             have hnb167 := NB355_373.out
             have hnc167 := NB373_355.out
             obtain ⟨hcz168_0, hcz168_1, hcz168_2, hcz168_3, hfz168_0, hfz168_1, hfz168_2, hfz168_3⟩ := bc4_ (w := w138) BK355
             go_wp2_with (first | ((with_reducible refine gate_callee (f := 19) rfl ?_); refine goesB (some 89) Try.func19 #[.agg #[.int .i64 t397, .int .i64 t398, .slice Ao141 t399.length co141, .int .i64 t402], .agg #[.int .i64 t348, .int .i64 t349, .slice Ao31 t350.length co31, .int .i64 t353]] ?_; (with_reducible refine (laws_eqShop.calls kj80 t397 t398 _ _ t399 t402 t348 t349 _ _ t350 t353 false _ ?side1 ?side2 ?side3 ?side4 A144.out).mono ?_); (case side1 => refine (Kd.R_reads' (e := 34) (base := w.heap.size) (ok := fun k_ => (some k_ ≠ (v391 : Value).ownBlock ∧ (some k_ ≠ (.slice Ao31 t350.length co31 : Value).ownBlock ∧ (some k_ ≠ (.slice Ao42 t383.length co42 : Value).ownBlock ∧ some k_ ≠ (.slice Ao51 t368.length co51 : Value).ownBlock)))) (n := t399.length) (c := co141) ?_).2.2; exact (by exact rf_ (Kd.R_types HO401.out BK404.out (by decide)) (fun _ h_ => h_.1))); (case side2 => exact (Kd.R_reads' HO401.out).2.1); (case side3 => refine (Kd.R_reads' (e := 34) (base := w.heap.size) (ok := fun k_ => (some k_ ≠ (v391 : Value).ownBlock ∧ (some k_ ≠ (.slice Ao141 t399.length co141 : Value).ownBlock ∧ (some k_ ≠ (.slice Ao42 t383.length co42 : Value).ownBlock ∧ some k_ ≠ (.slice Ao51 t368.length co51 : Value).ownBlock)))) (n := t350.length) (c := co31) ?_).2.2; exact (by exact rf_ (Kd.R_types HO_356002.out BK404.out (by decide)) (fun _ h_ => h_.1))); (case side4 => exact (Kd.R_reads' HO_356002.out).2.1); rintro e w169 ⟨rfl, hb⟩; refine ⟨_, rfl, ?_⟩; replace HO_356002 := Aside0.mk (Kd.R_below (by exact rf_ (Kd.R_types HO_356002.out BK404.out (by decide)) (fun _ h_ => h_.1)) hb); replace HO_363002 := Aside0.mk (Kd.R_below (by exact rf_ (Kd.R_types HO_363002.out BK404.out (by decide)) (fun _ h_ => h_.1)) hb); replace HO_374002 := Aside0.mk (Kd.R_below (by exact rf_ (Kd.R_types HO_374002.out BK404.out (by decide)) (fun _ h_ => h_.1)) hb); replace HO392 := Aside0.mk (Kd.R_below (by exact rf_ (Kd.R_types HO392.out BK404.out (by decide)) (fun _ h_ => h_.1)) hb); replace HO401 := Aside0.mk (Kd.R_below (by exact rf_ (Kd.R_types HO401.out BK404.out (by decide)) (fun _ h_ => h_.1)) hb); replace BK336 := bb_ BK336 hb; replace BK337 := bb_ BK337 hb; replace BK355 := bb_ BK355 hb; replace BK362 := bb_ BK362 hb; replace BK373 := bb_ BK373 hb; replace BK404 := Aside0.mk (blk_below (g := gb404) (o := .cells #[.int .i64 t397, .int .i64 t398, .slice Ao141 t399.length co141, .int .i64 t402] 24 (0, 0)) (bq_ BK404) hb); replace HB := Aside0.mk (below_step (bw_ w) hb); (try clear hb); (try clear hb2); (try clear hk); (try clear hi)))
             go_meet
             case rel => exact ⟨_, (true), (by first | rfl | (simp; done) | (simp [*]; done)), H', ⟨by have := HJ15.out; have := HJ80.out; first | omega | exact Nat.le_refl _⟩, ⟨by (try simp only [hl363002_80]); (with_reducible repeat (first | apply Kd.R_alloc | apply Kd.R_drewN | apply Kd.R_drew)); exact Kd.R_mono HO_356002.out (fun _ hk => ⟨hk.2.2.1, ⟨hk.2.2.2, hk.2.1⟩⟩)⟩, ⟨by (try simp only [hl363002_80]); (with_reducible repeat (first | apply Kd.R_alloc | apply Kd.R_drewN | apply Kd.R_drew)); exact Kd.R_mono HO_363002.out (fun _ hk => ⟨hk.2.2.1, ⟨hk.2.2.2, hk.2.1⟩⟩)⟩, ⟨by (try simp only [hl363002_80]); (with_reducible repeat (first | apply Kd.R_alloc | apply Kd.R_drewN | apply Kd.R_drew)); exact Kd.R_mono HO_374002.out (fun _ hk => ⟨hk.2.2.1, ⟨hk.2.2.2, hk.2.1⟩⟩)⟩, ⟨by (try simp only [hl363002_80]); (with_reducible repeat (first | apply Kd.R_alloc | apply Kd.R_drewN | apply Kd.R_drew)); exact Kd.R_mono HO401.out (fun _ hk => ⟨hk.2.1, ⟨hk.2.2.1, hk.2.2.2⟩⟩)⟩, ⟨by (try simp only [hl363002_80]); (with_reducible repeat (first | refine blk_drewN ?_ _ | refine blk_drew ?_ | refine blk_alloc ?_ _)); exact BK336.out⟩, ⟨by (try simp only [hl363002_80]); (with_reducible repeat (first | refine blk_drewN ?_ _ | refine blk_drew ?_ | refine blk_alloc ?_ _)); exact BK337.out⟩, ⟨by (try simp only [hl363002_80]); (with_reducible repeat (first | refine blk_drewN ?_ _ | refine blk_drew ?_ | refine blk_alloc ?_ _)); exact BK355.out⟩, ⟨by (try simp only [hl363002_80]); (with_reducible repeat (first | refine blk_drewN ?_ _ | refine blk_drew ?_ | refine blk_alloc ?_ _)); exact BK362.out⟩, ⟨by (try simp only [hl363002_80]); (with_reducible repeat (first | refine blk_drewN ?_ _ | refine blk_drew ?_ | refine blk_alloc ?_ _)); exact BK373.out⟩, ⟨by (try simp only [hl363002_80]); (with_reducible repeat (first | refine blk_drewN ?_ _ | refine blk_drew ?_ | refine blk_alloc ?_ _)); exact BK404.out⟩, ⟨(bw_ w)⟩⟩
           case rest =>
            clear HC123
            try clear c1
            try clear p2
            try clear c14
            try clear c15
            try clear c16
            try clear c17
            try clear c18
            try clear c19
            try clear c145
            try clear c146
            try clear c147
            try clear c148
            try clear c149
            try clear c150
            try clear c152
            try clear c153
            try clear c154
            try clear c155
            try clear c158
            try clear c159
            try clear c160
            try clear c161
            try clear c162
            try clear c164
            try clear c165
            try clear c166
            try clear c167
            try clear hcz151_0
            try clear hcz151_1
            try clear hcz151_2
            try clear hcz151_3
            try clear hcz156_0
            try clear hcz156_1
            try clear hcz156_2
            try clear hcz156_3
            try clear hcz163_0
            try clear hcz163_1
            try clear hcz163_2
            try clear hcz163_3
            try clear hcz168_0
            try clear hcz168_1
            try clear hcz168_2
            try clear hcz168_3
            try clear hfz151_0
            try clear hfz151_1
            try clear hfz151_2
            try clear hfz151_3
            try clear hfz156_0
            try clear hfz156_1
            try clear hfz156_2
            try clear hfz156_3
            try clear hfz163_0
            try clear hfz163_1
            try clear hfz163_2
            try clear hfz163_3
            try clear hfz168_0
            try clear hfz168_1
            try clear hfz168_2
            try clear hfz168_3
            obtain ⟨kq, x95_122, rfl, HA, HJ122, HO_356002, HO_363002, HO_374002, HO_405002, BK336, BK337, BK355, BK362, BK373, BK404, HB⟩ := hcut
            have hl374002_122 := (Kd.R_reads' HO_374002.out).1
            rw [hl374002_122] at HO_374002
            (try simp only [hl374002_122])
            (try simp only [hl374002_122] at BK336)
            (try simp only [hl374002_122] at BK337)
            (try simp only [hl374002_122] at BK355)
            (try simp only [hl374002_122] at BK362)
            (try simp only [hl374002_122] at BK373)
            (try simp only [hl374002_122] at BK404)
            (try simp only [hl374002_122] at HO_356002)
            (try simp only [hl374002_122] at HO_363002)
            (try simp only [hl374002_122] at HO_405002)
            cases kq with
            | zero => exact absurd HA.out (by simp [laws_FnExactStepShop.j2])
            | succ kj122 =>
             have H := HA.out
             clear HA
             simp only [laws_FnExactStepShop.j2] at H
             by_cases c170 : x95_122 = true
             ·subst c170
              have H1 : (some false) = some r := by rw [if_pos rfl] at H; exact H
              clear H
              have H := H1
              clear H1
              exact absurd (H.trans (congrArg some HRT.out)) (by simp)
             ·replace c170 := Bool.eq_false_iff.mpr c170
              subst c170
              have H1 : ((laws_heldShop.f kj122 t366 t367 t386 t371 1).bind fun t406 => (if t406 < 0 then (some false) else (if t406 = t385 then (some true) else (some false)))) = some r := by rw [if_neg (show ¬ (false = true) by decide)] at H; exact H
              clear H
              have H := H1
              clear H1
              replace H := Option.bind_eq_some_iff.mp H
              obtain ⟨t406, A1710, H⟩ := H
              replace H : (if t406 < 0 then (some false) else (if t406 = t385 then (some true) else (some false))) = some r := H
              have A171 := Aside0.mk A1710
              clear A1710
              by_cases c172 : t406 < 0
              ·rw [if_pos c172] at H
               have c172b0 : decide (t406 < 0) = true := decide_eq_true c172
               clear c172
               exact absurd (H.trans (congrArg some HRT.out)) (by simp)
              ·rw [if_neg c172] at H
               have c172b0 : decide (t406 < 0) = false := decide_eq_false c172
               clear c172
               by_cases c173 : t406 = t385
               ·rw [if_pos c173] at H
                have c173b0 : (t406 == t385) = true := beq_iff_eq.mpr c173
                have c173b1 : (t406 != t385) = false := bne_eq_false_iff_eq.mpr c173
                clear c173
                obtain rfl := Option.some.inj H
                have hnb174 := NB373_336.out
                have hnc174 := NB336_373.out
                have hnb175 := NB373_337.out
                have hnc175 := NB337_373.out
                have hnb176 := NB373_355.out
                have hnc176 := NB355_373.out
                have hnb177 := NB373_362.out
                have hnc177 := NB362_373.out
                have hnb178 := NB373_404.out
                have hnc178 := NB404_373.out
                obtain ⟨hcz179_0, hcz179_1, hcz179_2, hcz179_3, hfz179_0, hfz179_1, hfz179_2, hfz179_3⟩ := bc4_ (w := wc) BK373
                go_wp2_with (first | ((with_reducible refine gate_callee (f := 21) rfl ?_); refine goesB (some 98) Try.func21 #[.agg #[.int .i64 t366, .int .i64 t367, .slice Ao51 t386.length co51, .int .i64 t371], .int .i64 1] ?_; (with_reducible refine (laws_heldShop.calls kj122 t366 t367 _ _ t386 t371 1 t406 _ ?side1 ?side2 A171.out).mono ?_); (case side1 => exact co_ (Kd.R_reads' HO_374002.out).2.2); (case side2 => exact (Kd.R_reads' HO_374002.out).2.1); rintro e w180 ⟨rfl, hb⟩; refine ⟨_, rfl, ?_⟩; replace HO_356002 := Aside0.mk (Kd.R_below (ra_ HO_356002) hb); replace HO_363002 := Aside0.mk (Kd.R_below (ra_ HO_363002) hb); replace HO_374002 := Aside0.mk (Kd.R_below (ra_ HO_374002) hb); replace HO_405002 := Aside0.mk (Kd.R_below (ra_ HO_405002) hb); replace BK336 := bb_ BK336 hb; replace BK337 := bb_ BK337 hb; replace BK355 := bb_ BK355 hb; replace BK362 := bb_ BK362 hb; replace BK373 := bb_ BK373 hb; replace BK404 := bb_ BK404 hb; replace HB := Aside0.mk (below_step (bw_ w) hb); (try clear hb); (try clear hb2); (try clear hk); (try clear hi)))
                go_ret
                exact ⟨by first | rfl | (simp [errW_none, errW_some] <;> rfl) | (simp [*, errW_none, errW_some] <;> rfl), (bw_ w)⟩
               ·rw [if_neg c173] at H
                have c173b0 : (t406 == t385) = false := beq_eq_false_iff_ne.mpr c173
                have c173b1 : (t406 != t385) = true := bne_iff_ne.mpr c173
                exact absurd (H.trans (congrArg some HRT.out)) (by simp)
          ·rw [if_neg c119] at H
           have c119b0 : (t387 == t385) = false := beq_eq_false_iff_ne.mpr c119
           have c119b1 : (t387 != t385) = true := bne_iff_ne.mpr c119
           exact absurd (H.trans (congrArg some HRT.out)) (by simp)
     ·replace c79 := Bool.eq_false_iff.mpr c79
      subst c79
      have H1 : (some false) = some r := by rw [if_neg (show ¬ (false = true) by decide)] at H; exact H
      clear H
      have H := H1
      clear H1
      exact absurd (H.trans (congrArg some HRT.out)) (by simp)

/-- The pure statement of laws_FnExactStepShop. -/
def laws_FnExactStepShop.Pure : Prop := ∀ (a0_0 : Int) (a0_1 : Int) (l0_2 : List (S143)) (a0_3 : Int) (a1_0 : Int) (a1_1 : Int) (a1_2 : Int), ((Lit.int .i64 a0_0).wf = true) → ((Lit.int .i64 a0_1).wf = true) → (l0_2.length * 40 ≤ 140737488351232) → (∀ y0 ∈ l0_2, ((Lit.int .i64 y0.f0).wf = true) ∧ ((Lit.int .i64 y0.f1).wf = true) ∧ ((Lit.int .i64 y0.f2).wf = true) ∧ ((Lit.int .i64 y0.f3).wf = true) ∧ (Lit.int .i64 y0.f4).wf = true) → ((Lit.int .i64 a0_3).wf = true) → ((Lit.int .i64 a1_0).wf = true) → ((Lit.int .i64 a1_1).wf = true) → ((Lit.int .i64 a1_2).wf = true) → ∃ k, laws_FnExactStepShop.f k a0_0 a0_1 l0_2 a0_3 a1_0 a1_1 a1_2 = some true

end Go.Proofs.Ytahglcpndiadnaa.PFnExactStepShop
