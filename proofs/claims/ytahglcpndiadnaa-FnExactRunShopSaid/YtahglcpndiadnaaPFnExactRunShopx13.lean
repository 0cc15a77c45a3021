-- Printed by this session's own program (wip/tool/myprint.py, over the kit's print); Lean checks it.
import Derived.Test.YtahglcpndiadnaaPFnExactRunShopx0
import Derived.Test.YtahglcpndiadnaaPFnExactRunShopx4
import Derived.Test.YtahglcpndiadnaaPFnExactRunShopx9
import Derived.Test.YtahglcpndiadnaaPFnExactRunShopx10
import Derived.Test.YtahglcpndiadnaaPFnExactRunShopx11
import Derived.Test.YtahglcpndiadnaaPFnExactRunShopx12
namespace Go.Proofs.Ytahglcpndiadnaa.PFnExactRunShop
open Go.RowKit Go.Proofs.YtahglcpndiadnaaW.PrintWords Go.Proofs.YtahglcpndiadnaaW.PrintLast Go.Proofs.YtahglcpndiadnaaW.PrintMore
attribute [local go_sem] max2_int min2_int max_two min_two max_three min_three max_four min_four   -- for this text's walks alone
set_option linter.unusedVariables false
set_option linter.unusedSimpArgs false

/-! ### laws_FnExactRunShop: function 6 -/
mutual
def laws_FnExactRunShop.j0 : Nat → List (S39) → Int → Bool → List (S30) → Int → Bool → Bool → Int → Int → List (S143) → Int → Int → Int → List (S34) → Int → Int → Int → List (S34) → Int → Int → Int → List (S34) → Int → Option (Bool)
  | 0, _, _, _, _, _, _, _, _, _, _, _, _, _, _, _, _, _, _, _, _, _, _, _ => none
  | k + 1, x1, x7, x8, x10, x12, x13, x63, x370000, x370001, x370002, x370003, x390000, x390001, x390002, x390003, x397000, x397001, x397002, x397003, x409000, x409001, x409002, x409003 => if x63 = true then (some false) else ((laws_toShop.f k x370000 x370001 x370002 x370003).bind fun bt410 => ((laws_eqShop.f k x397000 x397001 x397002 x397003 bt410.1 bt410.2.1 bt410.2.2.1 bt410.2.2.2).bind fun t416 => (if t416 = true then ((laws_toShopStepS.f k x1).bind fun t417 => ((laws_eqShopStepS.f k x10 t417).bind fun t420 => (if t420 = true then ((laws_markShop.f k x397000 x397001 x397002 x397003 1).bind fun bt421 => ((laws_markShopStepS.f k x10 bt421.1).bind fun bt423 => (if bt423.1 < 0 then (laws_FnExactRunShop.j1 k x1 x7 x8 true x370000 x370001 x370002 x370003 x390000 x390001 x390002 x390003 x409000 x409001 x409002 x409003) else ((laws_eqShop.f k x409000 x409001 x409002 x409003 x390000 x390001 x390002 x390003).bind fun t425 => (if t425 = true then (if x12 = x7 then (laws_FnExactRunShop.j1 k x1 x7 x8 (x13 != x8) x370000 x370001 x370002 x370003 x390000 x390001 x390002 x390003 x409000 x409001 x409002 x409003) else (laws_FnExactRunShop.j1 k x1 x7 x8 true x370000 x370001 x370002 x370003 x390000 x390001 x390002 x390003 x409000 x409001 x409002 x409003)) else (laws_FnExactRunShop.j1 k x1 x7 x8 true x370000 x370001 x370002 x370003 x390000 x390001 x390002 x390003 x409000 x409001 x409002 x409003)))))) else (some false)))) else (some false))))
def laws_FnExactRunShop.j1 : Nat → List (S39) → Int → Bool → Bool → Int → Int → List (S143) → Int → Int → Int → List (S34) → Int → Int → Int → List (S34) → Int → Option (Bool)
  | 0, _, _, _, _, _, _, _, _, _, _, _, _, _, _, _, _ => none
  | k + 1, x1, x7, x8, x97, x370000, x370001, x370002, x370003, x390000, x390001, x390002, x390003, x409000, x409001, x409002, x409003 => if x97 = true then (some false) else ((laws_markShop.f k x409000 x409001 x409002 x409003 1).bind fun bt426 => ((laws_heldShop.f k x409000 x409001 bt426.2 x409003 1).bind fun t428 => (if t428 < 0 then (some false) else (if t428 = bt426.1 then ((laws_toShop.f k x370000 x370001 x370002 x370003).bind fun bt429 => ((laws_toShopStepS.f k x1).bind fun t435 => ((impl_RunShop.f k bt429.1 bt429.2.1 bt429.2.2.1 bt429.2.2.2 t435).bind fun bt438 => ((laws_eqShop.f k bt438.1 bt438.2.1 bt438.2.2.1 bt438.2.2.2.1 x390000 x390001 x390002 x390003).bind fun t447 => (if t447 = true then (if bt438.2.2.2.2.1 = x7 then (laws_FnExactRunShop.j2 k bt426.1 (bt438.2.2.2.2.2 != x8) x409000 x409001 bt426.2 x409003) else (laws_FnExactRunShop.j2 k bt426.1 true x409000 x409001 bt426.2 x409003)) else (laws_FnExactRunShop.j2 k bt426.1 true x409000 x409001 bt426.2 x409003)))))) else (some false)))))
def laws_FnExactRunShop.j2 : Nat → Int → Bool → Int → Int → List (S34) → Int → Option (Bool)
  | 0, _, _, _, _, _, _ => none
  | k + 1, x15, x131, x409000, x409001, x409002, x409003 => if x131 = true then (some false) else ((laws_heldShop.f k x409000 x409001 x409002 x409003 1).bind fun t448 => (if t448 < 0 then (some false) else (if t448 = x15 then (some true) else (some false))))
end
def laws_FnExactRunShop.f (k : Nat) (a0_0 : Int) (a0_1 : Int) (l0_2 : List (S143)) (a0_3 : Int) (l1 : List (S39)) : Option (Bool) := (laws_szShop.f a0_0 a0_1 l0_2 a0_3 1048576).bind fun t370 => (if t370 < 0 then (some true) else ((laws_szShopStepS.f l1 t370).bind fun t371 => (if t371 < 0 then (some true) else ((laws_toShop.f k a0_0 a0_1 l0_2 a0_3).bind fun bt372 => ((laws_toShopStepS.f k l1).bind fun t378 => ((spec_RunShop.f k bt372.1 bt372.2.1 bt372.2.2.1 bt372.2.2.2 t378).bind fun bt381 => ((laws_toShop.f k a0_0 a0_1 l0_2 a0_3).bind fun bt390 => ((laws_toShopStepS.f k l1).bind fun t397 => ((impl_RunShop.f k bt390.1 bt390.2.1 bt390.2.2.1 bt390.2.2.2 t397).bind fun bt400 => ((laws_eqShop.f k bt400.1 bt400.2.1 bt400.2.2.1 bt400.2.2.2.1 bt381.1 bt381.2.1 bt381.2.2.1 bt381.2.2.2.1).bind fun t409 => (if t409 = true then (if bt400.2.2.2.2.1 = bt381.2.2.2.2.1 then (laws_FnExactRunShop.j0 k l1 bt381.2.2.2.2.1 bt381.2.2.2.2.2 t397 bt400.2.2.2.2.1 bt400.2.2.2.2.2 (bt400.2.2.2.2.2 != bt381.2.2.2.2.2) a0_0 a0_1 l0_2 a0_3 bt381.1 bt381.2.1 bt381.2.2.1 bt381.2.2.2.1 bt390.1 bt390.2.1 bt390.2.2.1 bt390.2.2.2 bt400.1 bt400.2.1 bt400.2.2.1 bt400.2.2.2.1) else (laws_FnExactRunShop.j0 k l1 bt381.2.2.2.2.1 bt381.2.2.2.2.2 t397 bt400.2.2.2.2.1 bt400.2.2.2.2.2 true a0_0 a0_1 l0_2 a0_3 bt381.1 bt381.2.1 bt381.2.2.1 bt381.2.2.2.1 bt390.1 bt390.2.1 bt390.2.2.1 bt390.2.2.2 bt400.1 bt400.2.1 bt400.2.2.1 bt400.2.2.2.1)) else (laws_FnExactRunShop.j0 k l1 bt381.2.2.2.2.1 bt381.2.2.2.2.2 t397 bt400.2.2.2.2.1 bt400.2.2.2.2.2 true a0_0 a0_1 l0_2 a0_3 bt381.1 bt381.2.1 bt381.2.2.1 bt381.2.2.2.1 bt390.1 bt390.2.1 bt390.2.2.1 bt390.2.2.2 bt400.1 bt400.2.1 bt400.2.2.1 bt400.2.2.2.1))))))))))))
theorem laws_FnExactRunShop.mono_l : ∀ k, (∀ y0 y1 y2 y3 y4 y5 y6 y7 y8 y9 y10 y11 y12 y13 y14 y15 y16 y17 y18 y19 y20 y21 y22, LeO (laws_FnExactRunShop.j0 k y0 y1 y2 y3 y4 y5 y6 y7 y8 y9 y10 y11 y12 y13 y14 y15 y16 y17 y18 y19 y20 y21 y22) (laws_FnExactRunShop.j0 (k + 1) y0 y1 y2 y3 y4 y5 y6 y7 y8 y9 y10 y11 y12 y13 y14 y15 y16 y17 y18 y19 y20 y21 y22)) ∧ (∀ y0 y1 y2 y3 y4 y5 y6 y7 y8 y9 y10 y11 y12 y13 y14 y15, LeO (laws_FnExactRunShop.j1 k y0 y1 y2 y3 y4 y5 y6 y7 y8 y9 y10 y11 y12 y13 y14 y15) (laws_FnExactRunShop.j1 (k + 1) y0 y1 y2 y3 y4 y5 y6 y7 y8 y9 y10 y11 y12 y13 y14 y15)) ∧ (∀ y0 y1 y2 y3 y4 y5, LeO (laws_FnExactRunShop.j2 k y0 y1 y2 y3 y4 y5) (laws_FnExactRunShop.j2 (k + 1) y0 y1 y2 y3 y4 y5))
  | 0 => ⟨fun _ _ _ _ _ _ _ _ _ _ _ _ _ _ _ _ _ _ _ _ _ _ _ r h => by simp [laws_FnExactRunShop.j0] at h, fun _ _ _ _ _ _ _ _ _ _ _ _ _ _ _ _ r h => by simp [laws_FnExactRunShop.j1] at h, fun _ _ _ _ _ _ r h => by simp [laws_FnExactRunShop.j2] at h⟩
  | k + 1 => by
    obtain ⟨ih0, ih1, ih2⟩ := laws_FnExactRunShop.mono_l k
    refine ⟨?_, ?_, ?_⟩
    · intro y0 y1 y2 y3 y4 y5 y6 y7 y8 y9 y10 y11 y12 y13 y14 y15 y16 y17 y18 y19 y20 y21 y22
      unfold laws_FnExactRunShop.j0
      repeat' first
      | (with_reducible exact ih0 _ _ _ _ _ _ _ _ _ _ _ _ _ _ _ _ _ _ _ _ _ _ _)
      | (with_reducible exact ih1 _ _ _ _ _ _ _ _ _ _ _ _ _ _ _ _)
      | (with_reducible exact ih2 _ _ _ _ _ _)
      | (with_reducible exact impl_RunShop.mono _ _ _ _ _ _)
      | (with_reducible exact laws_eqShop.mono _ _ _ _ _ _ _ _ _)
      | (with_reducible exact laws_eqShopStepS.mono _ _ _)
      | (with_reducible exact laws_heldShop.mono _ _ _ _ _ _)
      | (with_reducible exact laws_markShop.mono _ _ _ _ _ _)
      | (with_reducible exact laws_markShopStepS.mono _ _ _)
      | (with_reducible exact laws_toShop.mono _ _ _ _ _)
      | (with_reducible exact laws_toShopStepS.mono _ _)
      | (with_reducible exact spec_RunShop.mono _ _ _ _ _ _)
      | (with_reducible exact LeO.refl _)
      | (with_reducible exact LeO.none _)
      | (with_reducible refine LeO.ite ?_ ?_)
      | (with_reducible refine LeO.bind ?_ (fun _ => ?_))
      | exact ih0 _ _ _ _ _ _ _ _ _ _ _ _ _ _ _ _ _ _ _ _ _ _ _
      | exact ih1 _ _ _ _ _ _ _ _ _ _ _ _ _ _ _ _
      | exact ih2 _ _ _ _ _ _
      | exact impl_RunShop.mono _ _ _ _ _ _
      | exact laws_eqShop.mono _ _ _ _ _ _ _ _ _
      | exact laws_eqShopStepS.mono _ _ _
      | exact laws_heldShop.mono _ _ _ _ _ _
      | exact laws_markShop.mono _ _ _ _ _ _
      | exact laws_markShopStepS.mono _ _ _
      | exact laws_toShop.mono _ _ _ _ _
      | exact laws_toShopStepS.mono _ _
      | exact spec_RunShop.mono _ _ _ _ _ _
      | exact LeO.none _
      | refine LeO.ite ?_ ?_
      | refine LeO.bind ?_ (fun _ => ?_)
    · intro y0 y1 y2 y3 y4 y5 y6 y7 y8 y9 y10 y11 y12 y13 y14 y15
      unfold laws_FnExactRunShop.j1
      repeat' first
      | (with_reducible exact ih0 _ _ _ _ _ _ _ _ _ _ _ _ _ _ _ _ _ _ _ _ _ _ _)
      | (with_reducible exact ih1 _ _ _ _ _ _ _ _ _ _ _ _ _ _ _ _)
      | (with_reducible exact ih2 _ _ _ _ _ _)
      | (with_reducible exact impl_RunShop.mono _ _ _ _ _ _)
      | (with_reducible exact laws_eqShop.mono _ _ _ _ _ _ _ _ _)
      | (with_reducible exact laws_eqShopStepS.mono _ _ _)
      | (with_reducible exact laws_heldShop.mono _ _ _ _ _ _)
      | (with_reducible exact laws_markShop.mono _ _ _ _ _ _)
      | (with_reducible exact laws_markShopStepS.mono _ _ _)
      | (with_reducible exact laws_toShop.mono _ _ _ _ _)
      | (with_reducible exact laws_toShopStepS.mono _ _)
      | (with_reducible exact spec_RunShop.mono _ _ _ _ _ _)
      | (with_reducible exact LeO.refl _)
      | (with_reducible exact LeO.none _)
      | (with_reducible refine LeO.ite ?_ ?_)
      | (with_reducible refine LeO.bind ?_ (fun _ => ?_))
      | exact ih0 _ _ _ _ _ _ _ _ _ _ _ _ _ _ _ _ _ _ _ _ _ _ _
      | exact ih1 _ _ _ _ _ _ _ _ _ _ _ _ _ _ _ _
      | exact ih2 _ _ _ _ _ _
      | exact impl_RunShop.mono _ _ _ _ _ _
      | exact laws_eqShop.mono _ _ _ _ _ _ _ _ _
      | exact laws_eqShopStepS.mono _ _ _
      | exact laws_heldShop.mono _ _ _ _ _ _
      | exact laws_markShop.mono _ _ _ _ _ _
      | exact laws_markShopStepS.mono _ _ _
      | exact laws_toShop.mono _ _ _ _ _
      | exact laws_toShopStepS.mono _ _
      | exact spec_RunShop.mono _ _ _ _ _ _
      | exact LeO.none _
      | refine LeO.ite ?_ ?_
      | refine LeO.bind ?_ (fun _ => ?_)
    · intro y0 y1 y2 y3 y4 y5
      unfold laws_FnExactRunShop.j2
      repeat' first
      | (with_reducible exact ih0 _ _ _ _ _ _ _ _ _ _ _ _ _ _ _ _ _ _ _ _ _ _ _)
      | (with_reducible exact ih1 _ _ _ _ _ _ _ _ _ _ _ _ _ _ _ _)
      | (with_reducible exact ih2 _ _ _ _ _ _)
      | (with_reducible exact impl_RunShop.mono _ _ _ _ _ _)
      | (with_reducible exact laws_eqShop.mono _ _ _ _ _ _ _ _ _)
      | (with_reducible exact laws_eqShopStepS.mono _ _ _)
      | (with_reducible exact laws_heldShop.mono _ _ _ _ _ _)
      | (with_reducible exact laws_markShop.mono _ _ _ _ _ _)
      | (with_reducible exact laws_markShopStepS.mono _ _ _)
      | (with_reducible exact laws_toShop.mono _ _ _ _ _)
      | (with_reducible exact laws_toShopStepS.mono _ _)
      | (with_reducible exact spec_RunShop.mono _ _ _ _ _ _)
      | (with_reducible exact LeO.refl _)
      | (with_reducible exact LeO.none _)
      | (with_reducible refine LeO.ite ?_ ?_)
      | (with_reducible refine LeO.bind ?_ (fun _ => ?_))
      | exact ih0 _ _ _ _ _ _ _ _ _ _ _ _ _ _ _ _ _ _ _ _ _ _ _
      | exact ih1 _ _ _ _ _ _ _ _ _ _ _ _ _ _ _ _
      | exact ih2 _ _ _ _ _ _
      | exact impl_RunShop.mono _ _ _ _ _ _
      | exact laws_eqShop.mono _ _ _ _ _ _ _ _ _
      | exact laws_eqShopStepS.mono _ _ _
      | exact laws_heldShop.mono _ _ _ _ _ _
      | exact laws_markShop.mono _ _ _ _ _ _
      | exact laws_markShopStepS.mono _ _ _
      | exact laws_toShop.mono _ _ _ _ _
      | exact laws_toShopStepS.mono _ _
      | exact spec_RunShop.mono _ _ _ _ _ _
      | exact LeO.none _
      | refine LeO.ite ?_ ?_
      | refine LeO.bind ?_ (fun _ => ?_)
theorem laws_FnExactRunShop.mono : ∀ a0 a1 a2 a3 a4 k, LeO (laws_FnExactRunShop.f k a0 a1 a2 a3 a4) (laws_FnExactRunShop.f (k + 1) a0 a1 a2 a3 a4) := by
  intro a0 a1 a2 a3 a4 k
  obtain ⟨ih0, ih1, ih2⟩ := laws_FnExactRunShop.mono_l k
  unfold laws_FnExactRunShop.f
  repeat' first
      | (with_reducible exact ih0 _ _ _ _ _ _ _ _ _ _ _ _ _ _ _ _ _ _ _ _ _ _ _)
      | (with_reducible exact ih1 _ _ _ _ _ _ _ _ _ _ _ _ _ _ _ _)
      | (with_reducible exact ih2 _ _ _ _ _ _)
      | (with_reducible exact impl_RunShop.mono _ _ _ _ _ _)
      | (with_reducible exact laws_eqShop.mono _ _ _ _ _ _ _ _ _)
      | (with_reducible exact laws_eqShopStepS.mono _ _ _)
      | (with_reducible exact laws_heldShop.mono _ _ _ _ _ _)
      | (with_reducible exact laws_markShop.mono _ _ _ _ _ _)
      | (with_reducible exact laws_markShopStepS.mono _ _ _)
      | (with_reducible exact laws_toShop.mono _ _ _ _ _)
      | (with_reducible exact laws_toShopStepS.mono _ _)
      | (with_reducible exact spec_RunShop.mono _ _ _ _ _ _)
      | (with_reducible exact LeO.refl _)
      | (with_reducible exact LeO.none _)
      | (with_reducible refine LeO.ite ?_ ?_)
      | (with_reducible refine LeO.bind ?_ (fun _ => ?_))
      | exact ih0 _ _ _ _ _ _ _ _ _ _ _ _ _ _ _ _ _ _ _ _ _ _ _
      | exact ih1 _ _ _ _ _ _ _ _ _ _ _ _ _ _ _ _
      | exact ih2 _ _ _ _ _ _
      | exact impl_RunShop.mono _ _ _ _ _ _
      | exact laws_eqShop.mono _ _ _ _ _ _ _ _ _
      | exact laws_eqShopStepS.mono _ _ _
      | exact laws_heldShop.mono _ _ _ _ _ _
      | exact laws_markShop.mono _ _ _ _ _ _
      | exact laws_markShopStepS.mono _ _ _
      | exact laws_toShop.mono _ _ _ _ _
      | exact laws_toShopStepS.mono _ _
      | exact spec_RunShop.mono _ _ _ _ _ _
      | exact LeO.none _
      | refine LeO.ite ?_ ?_
      | refine LeO.bind ?_ (fun _ => ?_)
set_option maxHeartbeats 8000000 in
set_option maxRecDepth 100000 in
theorem laws_FnExactRunShop.calls (k : Nat) (a0_0 : Int) (a0_1 : Int) (A0_2 : Option Addr) (c0_2 : Nat) (l0_2 : List (S143)) (a0_3 : Int) (A1 : Option Addr) (c1 : Nat) (l1 : List (S39)) (w : World) (hr0_2 : Kd.C k143 w A0_2 l0_2.length l0_2) (hc0_2 : l0_2.length ≤ c0_2) (hr1 : Kd.C k39 w A1 l1.length l1) (hc1 : l1.length ≤ c1) (h : laws_FnExactRunShop.f k a0_0 a0_1 l0_2 a0_3 l1 = some true) :
  Calls Try.prog 6 #[.agg #[.int .i64 a0_0, .int .i64 a0_1, .slice A0_2 l0_2.length c0_2, .int .i64 a0_3], .slice A1 l1.length c1] w fun e w' => e = .returned (.bool true) ∧ Below w.heap.size w w' := by
 obtain ⟨r, hrt_⟩ : ∃ r : Bool, true = r := ⟨true, rfl⟩
 rw [hrt_] at h ⊢
 have HRT := Aside0.mk hrt_.symm
 clear hrt_
 have hu38 := Try.underlying38
 have hu24 := Try.underlying24
 have HR0_2 := Aside0.mk hr0_2
 have HC0_2 := Aside0.mk hc0_2
 clear hr0_2 hc0_2
 have HR1 := Aside0.mk hr1
 have HC1 := Aside0.mk hc1
 clear hr1 hc1
 have HB := Aside0.mk (Below.refl w.heap.size w)
 have H : ((laws_szShop.f a0_0 a0_1 l0_2 a0_3 1048576).bind fun t370 => (if t370 < 0 then (some true) else ((laws_szShopStepS.f l1 t370).bind fun t371 => (if t371 < 0 then (some true) else ((laws_toShop.f k a0_0 a0_1 l0_2 a0_3).bind fun bt372 => ((laws_toShopStepS.f k l1).bind fun t378 => ((spec_RunShop.f k bt372.1 bt372.2.1 bt372.2.2.1 bt372.2.2.2 t378).bind fun bt381 => ((laws_toShop.f k a0_0 a0_1 l0_2 a0_3).bind fun bt390 => ((laws_toShopStepS.f k l1).bind fun t397 => ((impl_RunShop.f k bt390.1 bt390.2.1 bt390.2.2.1 bt390.2.2.2 t397).bind fun bt400 => ((laws_eqShop.f k bt400.1 bt400.2.1 bt400.2.2.1 bt400.2.2.2.1 bt381.1 bt381.2.1 bt381.2.2.1 bt381.2.2.2.1).bind fun t409 => (if t409 = true then (if bt400.2.2.2.2.1 = bt381.2.2.2.2.1 then (laws_FnExactRunShop.j0 k l1 bt381.2.2.2.2.1 bt381.2.2.2.2.2 t397 bt400.2.2.2.2.1 bt400.2.2.2.2.2 (bt400.2.2.2.2.2 != bt381.2.2.2.2.2) a0_0 a0_1 l0_2 a0_3 bt381.1 bt381.2.1 bt381.2.2.1 bt381.2.2.2.1 bt390.1 bt390.2.1 bt390.2.2.1 bt390.2.2.2 bt400.1 bt400.2.1 bt400.2.2.1 bt400.2.2.2.1) else (laws_FnExactRunShop.j0 k l1 bt381.2.2.2.2.1 bt381.2.2.2.2.2 t397 bt400.2.2.2.2.1 bt400.2.2.2.2.2 true a0_0 a0_1 l0_2 a0_3 bt381.1 bt381.2.1 bt381.2.2.1 bt381.2.2.2.1 bt390.1 bt390.2.1 bt390.2.2.1 bt390.2.2.2 bt400.1 bt400.2.1 bt400.2.2.1 bt400.2.2.2.1)) else (laws_FnExactRunShop.j0 k l1 bt381.2.2.2.2.1 bt381.2.2.2.2.2 t397 bt400.2.2.2.2.1 bt400.2.2.2.2.2 true a0_0 a0_1 l0_2 a0_3 bt381.1 bt381.2.1 bt381.2.2.1 bt381.2.2.2.1 bt390.1 bt390.2.1 bt390.2.2.1 bt390.2.2.2 bt400.1 bt400.2.1 bt400.2.2.1 bt400.2.2.2.1))))))))))))) = some r := h
 clear h
 replace H := Option.bind_eq_some_iff.mp H
 obtain ⟨t370, A30, H⟩ := H
 (try dsimp only at H)
 have A3 := Aside0.mk A30
 clear A30
 by_cases c4 : t370 < 0
 ·rw [if_pos c4] at H
  have c4b0 := decide_eq_true c4
  clear c4
  obtain rfl := Option.some.inj H
  go_enter Try.func6, Try.ntmps6
  go_wp2_with (first | ((with_reducible refine gate_dst (N := 2) rfl ?_); refine box_ (N := 2) (cs := #[.int .i64 a0_0, .int .i64 a0_1, .slice A0_2 l0_2.length c0_2, .int .i64 a0_3]) (t := 38) ?_; intro gb369 hg w5 hbox hb; have BK369 := Aside0.mk (hbox); have GW369 := gz_ w hg; have GE369 := gz_ w hg; replace HB := hb_ w hb; clear hb hbox hg; obtain ⟨hcz6_0, hcz6_1, hcz6_2, hcz6_3, hfz6_0, hfz6_1, hfz6_2, hfz6_3⟩ := bc4_ (w := w5) BK369) | ((with_reducible refine gate_callee (f := 15) rfl ?_); refine goesB (some 22) Try.func15 #[.agg #[.int .i64 a0_0, .int .i64 a0_1, .slice A0_2 l0_2.length c0_2, .int .i64 a0_3], .int .i64 1048576] ?_; (with_reducible refine (laws_szShop.calls a0_0 a0_1 _ _ l0_2 a0_3 1048576 t370 _ ?side1 ?side2 A3.out).mono ?_); (case side1 => exact cb_ HR0_2 HB); (case side2 => exact HC0_2.out); rintro e w7 ⟨rfl, hb⟩; refine ⟨_, rfl, ?_⟩; replace BK369 := bb_ BK369 hb; replace HB := hb_ w hb; clear hb))
  go_ret
  exact ⟨by first | rfl | (simp [errW_none, errW_some] <;> rfl) | (simp [*, errW_none, errW_some] <;> rfl), (bw_ w)⟩
 ·rw [if_neg c4] at H
  have c4b0 := decide_eq_false c4
  clear c4
  replace H := Option.bind_eq_some_iff.mp H
  obtain ⟨t371, A80, H⟩ := H
  (try dsimp only at H)
  have A8 := Aside0.mk A80
  clear A80
  by_cases c9 : t371 < 0
  ·rw [if_pos c9] at H
   have c9b0 := decide_eq_true c9
   clear c9
   obtain rfl := Option.some.inj H
   go_enter Try.func6, Try.ntmps6
   go_wp2_with (first | ((with_reducible refine gate_dst (N := 2) rfl ?_); refine box_ (N := 2) (cs := #[.int .i64 a0_0, .int .i64 a0_1, .slice A0_2 l0_2.length c0_2, .int .i64 a0_3]) (t := 38) ?_; intro gb369 hg w10 hbox hb; have BK369 := Aside0.mk (hbox); have GW369 := gz_ w hg; have GE369 := gz_ w hg; replace HB := hb_ w hb; clear hb hbox hg; obtain ⟨hcz11_0, hcz11_1, hcz11_2, hcz11_3, hfz11_0, hfz11_1, hfz11_2, hfz11_3⟩ := bc4_ (w := w10) BK369) | ((with_reducible refine gate_callee (f := 15) rfl ?_); refine goesB (some 22) Try.func15 #[.agg #[.int .i64 a0_0, .int .i64 a0_1, .slice A0_2 l0_2.length c0_2, .int .i64 a0_3], .int .i64 1048576] ?_; (with_reducible refine (laws_szShop.calls a0_0 a0_1 _ _ l0_2 a0_3 1048576 t370 _ ?side1 ?side2 A3.out).mono ?_); (case side1 => exact cb_ HR0_2 HB); (case side2 => exact HC0_2.out); rintro e w12 ⟨rfl, hb⟩; refine ⟨_, rfl, ?_⟩; replace BK369 := bb_ BK369 hb; replace HB := hb_ w hb; clear hb) | ((with_reducible refine gate_callee (f := 32) rfl ?_); refine goesB (some 27) Try.func32 #[.slice A1 l1.length c1, .int .i64 t370] ?_; (with_reducible refine (laws_szShopStepS.calls _ _ l1 t370 t371 _ ?side1 ?side2 A8.out).mono ?_); (case side1 => exact cb_ HR1 HB); (case side2 => exact HC1.out); rintro e w' ⟨rfl, ⟨nd, rfl⟩⟩; refine ⟨_, rfl, ?_⟩))
   go_ret
   exact ⟨by first | rfl | (simp [errW_none, errW_some] <;> rfl) | (simp [*, errW_none, errW_some] <;> rfl), (bw_ w)⟩
  ·rw [if_neg c9] at H
   have c9b0 := decide_eq_false c9
   clear c9
   replace H := Option.bind_eq_some_iff.mp H
   obtain ⟨⟨t372, t373, t374, t377⟩, A130, H⟩ := H
   (try dsimp only at H)
   have A13 := Aside0.mk A130
   clear A130
   replace H := Option.bind_eq_some_iff.mp H
   obtain ⟨t378, A140, H⟩ := H
   (try dsimp only at H)
   have A14 := Aside0.mk A140
   clear A140
   replace H := Option.bind_eq_some_iff.mp H
   obtain ⟨⟨t381, t382, t383, t386, t387, t388⟩, A150, H⟩ := H
   (try dsimp only at H)
   have A15 := Aside0.mk A150
   clear A150
   replace H := Option.bind_eq_some_iff.mp H
   obtain ⟨⟨t390, t391, t392, t395⟩, A160, H⟩ := H
   (try dsimp only at H)
   have A16 := Aside0.mk A160
   clear A160
   replace H := Option.bind_eq_some_iff.mp H
   obtain ⟨t397, A170, H⟩ := H
   (try dsimp only at H)
   have A17 := Aside0.mk A170
   clear A170
   replace H := Option.bind_eq_some_iff.mp H
   obtain ⟨⟨t400, t401, t402, t405, t406, t407⟩, A180, H⟩ := H
   (try dsimp only at H)
   have A18 := Aside0.mk A180
   clear A180
   have HC19 := Aside0.mk H
   clear H
   go_enter Try.func6, Try.ntmps6
   go_upto_region 12 with (first | ((with_reducible refine gate_dst (N := 2) rfl ?_); refine box_ (N := 2) (cs := #[.int .i64 a0_0, .int .i64 a0_1, .slice A0_2 l0_2.length c0_2, .int .i64 a0_3]) (t := 38) ?_; intro gb369 hg w20 hbox hb; have BK369 := Aside0.mk (hbox); have GW369 := gz_ w hg; have GE369 := gz_ w hg; replace HB := hb_ w hb; clear hb hbox hg; obtain ⟨hcz21_0, hcz21_1, hcz21_2, hcz21_3, hfz21_0, hfz21_1, hfz21_2, hfz21_3⟩ := bc4_ (w := w20) BK369) | ((with_reducible refine gate_callee (f := 15) rfl ?_); refine goesB (some 22) Try.func15 #[.agg #[.int .i64 a0_0, .int .i64 a0_1, .slice A0_2 l0_2.length c0_2, .int .i64 a0_3], .int .i64 1048576] ?_; (with_reducible refine (laws_szShop.calls a0_0 a0_1 _ _ l0_2 a0_3 1048576 t370 _ ?side1 ?side2 A3.out).mono ?_); (case side1 => exact cb_ HR0_2 HB); (case side2 => exact HC0_2.out); rintro e w22 ⟨rfl, hb⟩; refine ⟨_, rfl, ?_⟩; replace BK369 := bb_ BK369 hb; replace HB := hb_ w hb; clear hb) | ((with_reducible refine gate_callee (f := 32) rfl ?_); refine goesB (some 27) Try.func32 #[.slice A1 l1.length c1, .int .i64 t370] ?_; (with_reducible refine (laws_szShopStepS.calls _ _ l1 t370 t371 _ ?side1 ?side2 A8.out).mono ?_); (case side1 => exact cb_ HR1 HB); (case side2 => exact HC1.out); rintro e w' ⟨rfl, ⟨nd, rfl⟩⟩; refine ⟨_, rfl, ?_⟩; (try (rw [drewN_self w22]; generalize hq_ : World.drewN w22 _ = w22; have n0_ : Aside0 (w22.heap[gb369]? = some (.cells #[.int .i64 a0_0, .int .i64 a0_1, .slice A0_2 l0_2.length c0_2, .int .i64 a0_3] 38 (0, 0))) := ⟨by rw [← hq_]; exact (by (with_reducible repeat (first | refine blk_drewN ?_ _ | refine blk_drew ?_ | refine blk_alloc ?_ _)); exact BK369.out)⟩; have n1_ : Aside0 (Below w.heap.size w w22) := ⟨by rw [← hq_]; exact (by repeat (first | (with_reducible first | exact HB.out | apply below_alloc | apply pw_below_drewN | apply below_drew1 | refine below_set ?_ GE369.out) | exact HB.out))⟩; clear BK369 HB hq_; have BK369 := n0_; have HB := n1_; clear n0_ n1_)); obtain ⟨hcz23_0, hcz23_1, hcz23_2, hcz23_3, hfz23_0, hfz23_1, hfz23_2, hfz23_3⟩ := bc4_ (w := w22) BK369) | ((with_reducible refine gate_callee (f := 17) rfl ?_); refine goesB (some 32) Try.func17 #[.agg #[.int .i64 a0_0, .int .i64 a0_1, .slice A0_2 l0_2.length c0_2, .int .i64 a0_3]] ?_; (with_reducible refine (laws_toShop.calls k a0_0 a0_1 _ _ l0_2 a0_3 t372 t373 t374 t377 _ ?side1 ?side2 A13.out).mono ?_); (case side1 => exact cb_ HR0_2 HB); (case side2 => exact HC0_2.out); rintro e w24 ⟨v375, rfl, ho0, hb⟩; refine ⟨_, rfl, ?_⟩; have HO376 := Aside0.mk (Kd.R_lower ho0 (below_size (bw_ w))); replace BK369 := bb_ BK369 hb; replace HB := hb_ w hb; (try clear hb); (try clear hb2); (try clear hk); (try clear hi); (try clear ho0)) | ((with_reducible refine gate_callee (f := 33) rfl ?_); refine goesB (some 34) Try.func33 #[.slice A1 l1.length c1] ?_; (with_reducible refine (laws_toShopStepS.calls k _ _ l1 t378 _ ?side1 ?side2 A14.out).mono ?_); (case side1 => exact cb_ HR1 HB); (case side2 => exact HC1.out); rintro e w25 ⟨v379, rfl, ho0, hb⟩; refine ⟨_, rfl, ?_⟩; replace HO376 := Aside0.mk (Kd.R_below (ra_ HO376) hb); have HO380 := Aside0.mk (Kd.R_lower ho0 (below_size (bw_ w))); replace BK369 := bb_ BK369 hb; replace HB := hb_ w hb; (try clear hb); (try clear hb2); (try clear hk); (try clear hi); (try clear ho0); obtain ⟨Ao26, co26, eo26⟩ := Kd.R_slice HO376.out; subst eo26; obtain ⟨Ao27, co27, eo27⟩ := Kd.R_slice HO380.out; subst eo27) | ((with_reducible refine gate_callee (f := 12) rfl ?_); refine goesB (some 35) Try.func12 #[.agg #[.int .i64 t372, .int .i64 t373, .slice Ao26 t374.length co26, .int .i64 t377], .slice Ao27 t378.length co27] ?_; (with_reducible refine (spec_RunShop.calls k t372 t373 _ _ t374 t377 _ _ t378 t381 t382 t383 t386 t387 t388 _ ?side1 ?side2 ?side3 ?side4 A15.out).mono ?_); (case side1 => exact co_ (Kd.R_reads' HO376.out).2.2); (case side2 => exact (Kd.R_reads' HO376.out).2.1); (case side3 => exact co_ (Kd.R_reads' HO380.out).2.2); (case side4 => exact (Kd.R_reads' HO380.out).2.1); rintro e w28 ⟨v384, rfl, ho0, hb⟩; refine ⟨_, rfl, ?_⟩; have HO385 := Aside0.mk (Kd.R_lower (Kd.R_new' ho0 (Kd.R_lt (ra_ HO376))) (below_size (bw_ w))); replace HO376 := Aside0.mk (Kd.R_elder' (ra_ HO376) (Kd.R_base ho0) hb); replace HO380 := Aside0.mk (Kd.R_below (ra_ HO380) hb); replace BK369 := bb_ BK369 hb; replace HB := hb_ w hb; (try clear hb); (try clear hb2); (try clear hk); (try clear hi); (try clear ho0)) | ((with_reducible refine gate_dst (N := 6) rfl ?_); refine box_ (N := 6) (cs := #[.int .i64 0, .int .i64 0, .slice none 0 0, .int .i64 0]) (t := 24) ?_; intro gb389 hg w29 hbox hb; have BK389 := Aside0.mk (hbox); have GW389 := gz_ w hg; have GE389 := gz_ w hg; have NB369_389 := ne_ hg BK369; have NB389_369 := en_ hg BK369; replace HO376 := Aside0.mk (Kd.R_below (ra_ HO376) hb); replace HO380 := Aside0.mk (Kd.R_below (ra_ HO380) hb); replace HO385 := Aside0.mk (Kd.R_below (ra_ HO385) hb); replace BK369 := bb_ BK369 hb; replace HB := hb_ w hb; clear hb hbox hg; have hnb30 := NB389_369.out; have hnc30 := NB369_389.out; obtain ⟨hcz31_0, hcz31_1, hcz31_2, hcz31_3, hfz31_0, hfz31_1, hfz31_2, hfz31_3⟩ := bc4_ (w := w29) BK389; obtain ⟨Ao32, co32, eo32⟩ := Kd.R_slice HO385.out; subst eo32; obtain ⟨hcz33_0, hcz33_1, hcz33_2, hcz33_3, hfz33_0, hfz33_1, hfz33_2, hfz33_3⟩ := bc4_ (w := w29) BK369) | ((with_reducible refine gate_callee (f := 17) rfl ?_); refine goesB (some 40) Try.func17 #[.agg #[.int .i64 a0_0, .int .i64 a0_1, .slice A0_2 l0_2.length c0_2, .int .i64 a0_3]] ?_; (with_reducible refine (laws_toShop.calls k a0_0 a0_1 _ _ l0_2 a0_3 t390 t391 t392 t395 _ ?side1 ?side2 A16.out).mono ?_); (case side1 => exact Kd.C_below HR0_2.out (bw_ w)); (case side2 => exact HC0_2.out); rintro e w34 ⟨v393, rfl, ho0, hb⟩; refine ⟨_, rfl, ?_⟩; have HO394 := Aside0.mk (Kd.R_lower (Kd.R_new' (Kd.R_new' ho0 (Kd.R_lt (by exact rf_ (Kd.R_types HO376.out BK389.out (by decide)) (fun _ h_ => h_.1)))) (Kd.R_lt (by exact rf_ (Kd.R_types HO385.out BK389.out (by decide)) (fun _ h_ => h_.1)))) (below_size (bw_ w))); replace HO376 := Aside0.mk (Kd.R_elder' (by exact rf_ (Kd.R_types HO376.out BK389.out (by decide)) (fun _ h_ => h_.1)) (Kd.R_base ho0) hb); replace HO380 := Aside0.mk (Kd.R_below (by exact rf_ (Kd.R_types HO380.out BK389.out (by decide)) (fun _ h_ => h_.1)) hb); replace HO385 := Aside0.mk (Kd.R_elder' (by exact rf_ (Kd.R_types HO385.out BK389.out (by decide)) (fun _ h_ => h_.1)) (Kd.R_base ho0) hb); replace BK369 := bb_ BK369 hb; replace BK389 := Aside0.mk (blk_below (g := gb389) (o := .cells #[.int .i64 t381, .int .i64 t382, .slice Ao32 t383.length co32, .int .i64 t386] 24 (0, 0)) (bq_ BK389) hb); replace HB := hb_ w hb; (try clear hb); (try clear hb2); (try clear hk); (try clear hi); (try clear ho0)) | ((with_reducible refine gate_dst (N := 9) rfl ?_); refine box_ (N := 9) (cs := #[.int .i64 0, .int .i64 0, .slice none 0 0, .int .i64 0]) (t := 24) ?_; intro gb396 hg w35 hbox hb; have BK396 := Aside0.mk (hbox); have GW396 := gz_ w hg; have GE396 := gz_ w hg; have NB369_396 := ne_ hg BK369; have NB396_369 := en_ hg BK369; have NB389_396 := ne_ hg BK389; have NB396_389 := en_ hg BK389; replace HO376 := Aside0.mk (Kd.R_below (ra_ HO376) hb); replace HO380 := Aside0.mk (Kd.R_below (ra_ HO380) hb); replace HO385 := Aside0.mk (Kd.R_below (ra_ HO385) hb); replace HO394 := Aside0.mk (Kd.R_below (ra_ HO394) hb); replace BK369 := bb_ BK369 hb; replace BK389 := bb_ BK389 hb; replace HB := hb_ w hb; clear hb hbox hg; have hnb36 := NB396_369.out; have hnc36 := NB369_396.out; have hnb37 := NB396_389.out; have hnc37 := NB389_396.out; obtain ⟨hcz38_0, hcz38_1, hcz38_2, hcz38_3, hfz38_0, hfz38_1, hfz38_2, hfz38_3⟩ := bc4_ (w := w35) BK396; obtain ⟨Ao39, co39, eo39⟩ := Kd.R_slice HO394.out; subst eo39) | ((with_reducible refine gate_callee (f := 33) rfl ?_); refine goesB (some 42) Try.func33 #[.slice A1 l1.length c1] ?_; (with_reducible refine (laws_toShopStepS.calls k _ _ l1 t397 _ ?side1 ?side2 A17.out).mono ?_); (case side1 => exact Kd.C_below HR1.out (bw_ w)); (case side2 => exact HC1.out); rintro e w40 ⟨v398, rfl, ho0, hb⟩; refine ⟨_, rfl, ?_⟩; have HO399 := Aside0.mk (Kd.R_lower (Kd.R_new' ho0 (Kd.R_lt (by exact rf_ (Kd.R_types HO380.out BK396.out (by decide)) (fun _ h_ => h_.1)))) (below_size (bw_ w))); replace HO376 := Aside0.mk (Kd.R_below (by exact rf_ (Kd.R_types HO376.out BK396.out (by decide)) (fun _ h_ => h_.1)) hb); replace HO380 := Aside0.mk (Kd.R_elder' (by exact rf_ (Kd.R_types HO380.out BK396.out (by decide)) (fun _ h_ => h_.1)) (Kd.R_base ho0) hb); replace HO385 := Aside0.mk (Kd.R_below (by exact rf_ (Kd.R_types HO385.out BK396.out (by decide)) (fun _ h_ => h_.1)) hb); replace HO394 := Aside0.mk (Kd.R_below (by exact rf_ (Kd.R_types HO394.out BK396.out (by decide)) (fun _ h_ => h_.1)) hb); replace BK369 := bb_ BK369 hb; replace BK389 := bb_ BK389 hb; replace BK396 := Aside0.mk (blk_below (g := gb396) (o := .cells #[.int .i64 t390, .int .i64 t391, .slice Ao39 t392.length co39, .int .i64 t395] 24 (0, 0)) (bq_ BK396) hb); replace HB := hb_ w hb; (try clear hb); (try clear hb2); (try clear hk); (try clear hi); (try clear ho0); obtain ⟨hcz41_0, hcz41_1, hcz41_2, hcz41_3, hfz41_0, hfz41_1, hfz41_2, hfz41_3⟩ := bc4_ (w := w40) BK396; obtain ⟨Ao42, co42, eo42⟩ := Kd.R_slice HO399.out; subst eo42) | ((with_reducible refine gate_callee (f := 11) rfl ?_); refine goesB (some 46) Try.func11 #[.agg #[.int .i64 t390, .int .i64 t391, .slice Ao39 t392.length co39, .int .i64 t395], .slice Ao42 t397.length co42] ?_; (with_reducible refine (impl_RunShop.calls k t390 t391 _ _ t392 t395 _ _ t397 t400 t401 t402 t405 t406 t407 _ ?side1 ?side2 ?side3 ?side4 A18.out).mono ?_); (case side1 => exact co_ (Kd.R_reads' HO394.out).2.2); (case side2 => exact (Kd.R_reads' HO394.out).2.1); (case side3 => exact co_ (Kd.R_reads' HO399.out).2.2); (case side4 => exact (Kd.R_reads' HO399.out).2.1); rintro e w43 ⟨v403, rfl, ho0, hb⟩; refine ⟨_, rfl, ?_⟩; have HO404 := Aside0.mk (Kd.R_lower (Kd.R_new' (Kd.R_new' (Kd.R_new' ho0 (Kd.R_lt (ra_ HO376))) (Kd.R_lt (ra_ HO385))) (Kd.R_lt (ra_ HO394))) (below_size (bw_ w))); replace HO376 := Aside0.mk (Kd.R_elder' (ra_ HO376) (Kd.R_base ho0) hb); replace HO380 := Aside0.mk (Kd.R_below (ra_ HO380) hb); replace HO385 := Aside0.mk (Kd.R_elder' (ra_ HO385) (Kd.R_base ho0) hb); replace HO394 := Aside0.mk (Kd.R_elder' (ra_ HO394) (Kd.R_base ho0) hb); replace HO399 := Aside0.mk (Kd.R_below (ra_ HO399) hb); replace BK369 := bb_ BK369 hb; replace BK389 := bb_ BK389 hb; replace BK396 := bb_ BK396 hb; replace HB := hb_ w hb; (try clear hb); (try clear hb2); (try clear hk); (try clear hi); (try clear ho0)) | ((with_reducible refine gate_dst (N := 11) rfl ?_); refine box_ (N := 11) (cs := #[.int .i64 0, .int .i64 0, .slice none 0 0, .int .i64 0]) (t := 24) ?_; intro gb408 hg w44 hbox hb; have BK408 := Aside0.mk (hbox); have GW408 := gz_ w hg; have GE408 := gz_ w hg; have NB369_408 := ne_ hg BK369; have NB408_369 := en_ hg BK369; have NB389_408 := ne_ hg BK389; have NB408_389 := en_ hg BK389; have NB396_408 := ne_ hg BK396; have NB408_396 := en_ hg BK396; replace HO376 := Aside0.mk (Kd.R_below (ra_ HO376) hb); replace HO380 := Aside0.mk (Kd.R_below (ra_ HO380) hb); replace HO385 := Aside0.mk (Kd.R_below (ra_ HO385) hb); replace HO394 := Aside0.mk (Kd.R_below (ra_ HO394) hb); replace HO399 := Aside0.mk (Kd.R_below (ra_ HO399) hb); replace HO404 := Aside0.mk (Kd.R_below (ra_ HO404) hb); replace BK369 := bb_ BK369 hb; replace BK389 := bb_ BK389 hb; replace BK396 := bb_ BK396 hb; replace HB := hb_ w hb; clear hb hbox hg; have hnb45 := NB408_369.out; have hnc45 := NB369_408.out; have hnb46 := NB408_389.out; have hnc46 := NB389_408.out; have hnb47 := NB408_396.out; have hnc47 := NB396_408.out; obtain ⟨hcz48_0, hcz48_1, hcz48_2, hcz48_3, hfz48_0, hfz48_1, hfz48_2, hfz48_3⟩ := bc4_ (w := w44) BK408; obtain ⟨Ao49, co49, eo49⟩ := Kd.R_slice HO404.out; subst eo49))
   (try simp only [Act.put, List.setIfInBounds_toArray, List.set_cons_zero, List.set_cons_succ])
   go_cut [63] (fun v63 wc => ∃ (kq : Nat) (x63_18 : Bool), v63 = .bool x63_18 ∧ Aside0 (laws_FnExactRunShop.j0 kq l1 t387 t388 t397 t406 t407 x63_18 a0_0 a0_1 l0_2 a0_3 t381 t382 t383 t386 t390 t391 t392 t395 t400 t401 t402 t405 = some r) ∧ Aside0 (kq ≤ k) ∧ Aside0 (Kd.R k30 30 wc w.heap.size (fun _ => True) (.slice Ao42 t397.length co42) t397) ∧ Aside0 (Kd.R k34 34 wc w.heap.size (fun k_ => some k_ ≠ ((.slice Ao39 t392.length co39) : Value).ownBlock ∧ some k_ ≠ ((.slice Ao49 t402.length co49) : Value).ownBlock) (.slice Ao32 t383.length co32) t383) ∧ Aside0 (Kd.R k34 34 wc w.heap.size (fun k_ => some k_ ≠ ((.slice Ao32 t383.length co32) : Value).ownBlock ∧ some k_ ≠ ((.slice Ao49 t402.length co49) : Value).ownBlock) (.slice Ao39 t392.length co39) t392) ∧ Aside0 (Kd.R k34 34 wc w.heap.size (fun k_ => some k_ ≠ ((.slice Ao32 t383.length co32) : Value).ownBlock ∧ some k_ ≠ ((.slice Ao39 t392.length co39) : Value).ownBlock) (.slice Ao49 t402.length co49) t402) ∧ Aside0 (wc.heap[gb369]? = some (.cells #[.int .i64 a0_0, .int .i64 a0_1, (.slice A0_2 l0_2.length c0_2), .int .i64 a0_3] 38 (0, 0))) ∧ Aside0 (wc.heap[gb389]? = some (.cells #[.int .i64 t381, .int .i64 t382, (.slice Ao32 t383.length co32), .int .i64 t386] 24 (0, 0))) ∧ Aside0 (wc.heap[gb396]? = some (.cells #[.int .i64 t390, .int .i64 t391, (.slice Ao39 t392.length co39), .int .i64 t395] 24 (0, 0))) ∧ Aside0 (wc.heap[gb408]? = some (.cells #[.int .i64 t400, .int .i64 t401, (.slice Ao49 t402.length co49), .int .i64 t405] 24 (0, 0))) ∧ Aside0 (Below w.heap.size w wc))
   case first =>
    have H := HC19.out
    clear HC19
    replace H := Option.bind_eq_some_iff.mp H
    obtain ⟨t409, A500, H⟩ := H
    (try dsimp only at H)
    have A50 := Aside0.mk A500
    clear A500
    by_cases c51 : t409 = true
    ·subst c51
     rw [if_pos rfl] at H
     by_cases c52 : t406 = t387
     ·rw [if_pos c52] at H
      have c52b0 := beq_iff_eq.mpr c52
      have c52b1 := bne_eq_false_iff_eq.mpr c52
      clear c52
      (first | rw [c52b0] | (simp only [i64_w, i32_w]; rw [c52b0]) | skip)
      have H' := Aside0.mk H
      clear H
      have hnb53 := NB408_369.out
      have hnc53 := NB369_408.out
      have hnb54 := NB408_389.out
      have hnc54 := NB389_408.out
      have hnb55 := NB408_396.out
      have hnc55 := NB396_408.out
      obtain ⟨hcz56_0, hcz56_1, hcz56_2, hcz56_3, hfz56_0, hfz56_1, hfz56_2, hfz56_3⟩ := bc4_ (w := w44) BK408
      have hnb57 := NB389_369.out
      have hnc57 := NB369_389.out
      have hnb58 := NB389_396.out
      have hnc58 := NB396_389.out
      obtain ⟨hcz59_0, hcz59_1, hcz59_2, hcz59_3, hfz59_0, hfz59_1, hfz59_2, hfz59_3⟩ := bc4_ (w := w44) BK389
      go_wp2_with (first | ((with_reducible refine gate_callee (f := 19) rfl ?_); refine goesB (some 52) Try.func19 #[.agg #[.int .i64 t400, .int .i64 t401, .slice Ao49 t402.length co49, .int .i64 t405], .agg #[.int .i64 t381, .int .i64 t382, .slice Ao32 t383.length co32, .int .i64 t386]] ?_; (with_reducible refine (laws_eqShop.calls k t400 t401 _ _ t402 t405 t381 t382 _ _ t383 t386 true _ ?side1 ?side2 ?side3 ?side4 A50.out).mono ?_); (case side1 => refine (Kd.R_reads' (e := 34) (base := w.heap.size) (ok := fun k_ => (((True ∧ some k_ ≠ (.slice Ao26 t374.length co26 : Value).ownBlock) ∧ some k_ ≠ (.slice Ao32 t383.length co32 : Value).ownBlock) ∧ some k_ ≠ (.slice Ao39 t392.length co39 : Value).ownBlock)) (n := t402.length) (c := co49) ?_).2.2; exact (by exact rf_ (Kd.R_types HO404.out BK408.out (by decide)) (fun _ h_ => h_.1))); (case side2 => exact (Kd.R_reads' HO404.out).2.1); (case side3 => refine (Kd.R_reads' (e := 34) (base := w.heap.size) (ok := fun k_ => (((True ∧ some k_ ≠ (.slice Ao26 t374.length co26 : Value).ownBlock) ∧ some k_ ≠ (.slice Ao39 t392.length co39 : Value).ownBlock) ∧ some k_ ≠ (.slice Ao49 t402.length co49 : Value).ownBlock)) (n := t383.length) (c := co32) ?_).2.2; exact (by exact rf_ (Kd.R_types HO385.out BK408.out (by decide)) (fun _ h_ => h_.1))); (case side4 => exact (Kd.R_reads' HO385.out).2.1); rintro e w60 ⟨rfl, hb⟩; refine ⟨_, rfl, ?_⟩; replace HO376 := Aside0.mk (Kd.R_below (by exact rf_ (Kd.R_types HO376.out BK408.out (by decide)) (fun _ h_ => h_.1)) hb); replace HO380 := Aside0.mk (Kd.R_below (by exact rf_ (Kd.R_types HO380.out BK408.out (by decide)) (fun _ h_ => h_.1)) hb); replace HO385 := Aside0.mk (Kd.R_below (by exact rf_ (Kd.R_types HO385.out BK408.out (by decide)) (fun _ h_ => h_.1)) hb); replace HO394 := Aside0.mk (Kd.R_below (by exact rf_ (Kd.R_types HO394.out BK408.out (by decide)) (fun _ h_ => h_.1)) hb); replace HO399 := Aside0.mk (Kd.R_below (by exact rf_ (Kd.R_types HO399.out BK408.out (by decide)) (fun _ h_ => h_.1)) hb); replace HO404 := Aside0.mk (Kd.R_below (by exact rf_ (Kd.R_types HO404.out BK408.out (by decide)) (fun _ h_ => h_.1)) hb); replace BK369 := bb_ BK369 hb; replace BK389 := bb_ BK389 hb; replace BK396 := bb_ BK396 hb; replace BK408 := Aside0.mk (blk_below (g := gb408) (o := .cells #[.int .i64 t400, .int .i64 t401, .slice Ao49 t402.length co49, .int .i64 t405] 24 (0, 0)) (bq_ BK408) hb); replace HB := hb_ w hb; clear hb))
      go_meet
      case rel => exact ⟨_, ((t407 != t388)), (by first | rfl | (simp; done) | (simp [*]; done)), H', ⟨by first | omega | exact Nat.le_refl _⟩, ⟨by exact rf_ HO399.out (fun _ hk => trivial)⟩, ⟨by exact rf_ HO385.out (fun _ hk => ⟨hk.1.2, hk.2⟩)⟩, ⟨by exact rf_ HO394.out (fun _ hk => ⟨hk.1.2, hk.2⟩)⟩, ⟨by exact rf_ HO404.out (fun _ hk => ⟨hk.1.2, hk.2⟩)⟩, ⟨bk_ BK369⟩, ⟨bk_ BK389⟩, ⟨bk_ BK396⟩, ⟨bk_ BK408⟩, ⟨(bw_ w)⟩⟩
     ·rw [if_neg c52] at H
      have c52b0 := beq_eq_false_iff_ne.mpr c52
      have c52b1 := bne_iff_ne.mpr c52
      (first | rw [c52b0] | (simp only [i64_w, i32_w]; rw [c52b0]) | skip)
      have H' := Aside0.mk H
      clear H
      have hnb61 := NB408_369.out
      have hnc61 := NB369_408.out
      have hnb62 := NB408_389.out
      have hnc62 := NB389_408.out
      have hnb63 := NB408_396.out
      have hnc63 := NB396_408.out
      obtain ⟨hcz64_0, hcz64_1, hcz64_2, hcz64_3, hfz64_0, hfz64_1, hfz64_2, hfz64_3⟩ := bc4_ (w := w44) BK408
      have hnb65 := NB389_369.out
      have hnc65 := NB369_389.out
      have hnb66 := NB389_396.out
      have hnc66 := NB396_389.out
      obtain ⟨hcz67_0, hcz67_1, hcz67_2, hcz67_3, hfz67_0, hfz67_1, hfz67_2, hfz67_3⟩ := bc4_ (w := w44) BK389
      go_wp2_with (first | ((with_reducible refine gate_callee (f := 19) rfl ?_); refine goesB (some 52) Try.func19 #[.agg #[.int .i64 t400, .int .i64 t401, .slice Ao49 t402.length co49, .int .i64 t405], .agg #[.int .i64 t381, .int .i64 t382, .slice Ao32 t383.length co32, .int .i64 t386]] ?_; (with_reducible refine (laws_eqShop.calls k t400 t401 _ _ t402 t405 t381 t382 _ _ t383 t386 true _ ?side1 ?side2 ?side3 ?side4 A50.out).mono ?_); (case side1 => refine (Kd.R_reads' (e := 34) (base := w.heap.size) (ok := fun k_ => (((True ∧ some k_ ≠ (.slice Ao26 t374.length co26 : Value).ownBlock) ∧ some k_ ≠ (.slice Ao32 t383.length co32 : Value).ownBlock) ∧ some k_ ≠ (.slice Ao39 t392.length co39 : Value).ownBlock)) (n := t402.length) (c := co49) ?_).2.2; exact (by exact rf_ (Kd.R_types HO404.out BK408.out (by decide)) (fun _ h_ => h_.1))); (case side2 => exact (Kd.R_reads' HO404.out).2.1); (case side3 => refine (Kd.R_reads' (e := 34) (base := w.heap.size) (ok := fun k_ => (((True ∧ some k_ ≠ (.slice Ao26 t374.length co26 : Value).ownBlock) ∧ some k_ ≠ (.slice Ao39 t392.length co39 : Value).ownBlock) ∧ some k_ ≠ (.slice Ao49 t402.length co49 : Value).ownBlock)) (n := t383.length) (c := co32) ?_).2.2; exact (by exact rf_ (Kd.R_types HO385.out BK408.out (by decide)) (fun _ h_ => h_.1))); (case side4 => exact (Kd.R_reads' HO385.out).2.1); rintro e w68 ⟨rfl, hb⟩; refine ⟨_, rfl, ?_⟩; replace HO376 := Aside0.mk (Kd.R_below (by exact rf_ (Kd.R_types HO376.out BK408.out (by decide)) (fun _ h_ => h_.1)) hb); replace HO380 := Aside0.mk (Kd.R_below (by exact rf_ (Kd.R_types HO380.out BK408.out (by decide)) (fun _ h_ => h_.1)) hb); replace HO385 := Aside0.mk (Kd.R_below (by exact rf_ (Kd.R_types HO385.out BK408.out (by decide)) (fun _ h_ => h_.1)) hb); replace HO394 := Aside0.mk (Kd.R_below (by exact rf_ (Kd.R_types HO394.out BK408.out (by decide)) (fun _ h_ => h_.1)) hb); replace HO399 := Aside0.mk (Kd.R_below (by exact rf_ (Kd.R_types HO399.out BK408.out (by decide)) (fun _ h_ => h_.1)) hb); replace HO404 := Aside0.mk (Kd.R_below (by exact rf_ (Kd.R_types HO404.out BK408.out (by decide)) (fun _ h_ => h_.1)) hb); replace BK369 := bb_ BK369 hb; replace BK389 := bb_ BK389 hb; replace BK396 := bb_ BK396 hb; replace BK408 := Aside0.mk (blk_below (g := gb408) (o := .cells #[.int .i64 t400, .int .i64 t401, .slice Ao49 t402.length co49, .int .i64 t405] 24 (0, 0)) (bq_ BK408) hb); replace HB := hb_ w hb; clear hb))
      go_meet
      case rel => exact ⟨_, (true), (by first | rfl | (simp; done) | (simp [*]; done)), H', ⟨by first | omega | exact Nat.le_refl _⟩, ⟨by exact rf_ HO399.out (fun _ hk => trivial)⟩, ⟨by exact rf_ HO385.out (fun _ hk => ⟨hk.1.2, hk.2⟩)⟩, ⟨by exact rf_ HO394.out (fun _ hk => ⟨hk.1.2, hk.2⟩)⟩, ⟨by exact rf_ HO404.out (fun _ hk => ⟨hk.1.2, hk.2⟩)⟩, ⟨bk_ BK369⟩, ⟨bk_ BK389⟩, ⟨bk_ BK396⟩, ⟨bk_ BK408⟩, ⟨(bw_ w)⟩⟩
    ·replace c51 := Bool.eq_false_iff.mpr c51
     subst c51
     rw [if_neg (show ¬ (false = true) by decide)] at H
     have H' := Aside0.mk H
     clear H
     have hnb69 := NB408_369.out
     have hnc69 := NB369_408.out
     have hnb70 := NB408_389.out
     have hnc70 := NB389_408.out
     have hnb71 := NB408_396.out
     have hnc71 := NB396_408.out
     obtain ⟨hcz72_0, hcz72_1, hcz72_2, hcz72_3, hfz72_0, hfz72_1, hfz72_2, hfz72_3⟩ := bc4_ (w := w44) BK408
     have hnb73 := NB389_369.out
     have hnc73 := NB369_389.out
     have hnb74 := NB389_396.out
     have hnc74 := NB396_389.out
     obtain ⟨hcz75_0, hcz75_1, hcz75_2, hcz75_3, hfz75_0, hfz75_1, hfz75_2, hfz75_3⟩ := bc4_ (w := w44) BK389
     go_wp2_with (first | ((with_reducible refine gate_callee (f := 19) rfl ?_); refine goesB (some 52) Try.func19 #[.agg #[.int .i64 t400, .int .i64 t401, .slice Ao49 t402.length co49, .int .i64 t405], .agg #[.int .i64 t381, .int .i64 t382, .slice Ao32 t383.length co32, .int .i64 t386]] ?_; (with_reducible refine (laws_eqShop.calls k t400 t401 _ _ t402 t405 t381 t382 _ _ t383 t386 false _ ?side1 ?side2 ?side3 ?side4 A50.out).mono ?_); (case side1 => refine (Kd.R_reads' (e := 34) (base := w.heap.size) (ok := fun k_ => (((True ∧ some k_ ≠ (.slice Ao26 t374.length co26 : Value).ownBlock) ∧ some k_ ≠ (.slice Ao32 t383.length co32 : Value).ownBlock) ∧ some k_ ≠ (.slice Ao39 t392.length co39 : Value).ownBlock)) (n := t402.length) (c := co49) ?_).2.2; exact (by exact rf_ (Kd.R_types HO404.out BK408.out (by decide)) (fun _ h_ => h_.1))); (case side2 => exact (Kd.R_reads' HO404.out).2.1); (case side3 => refine (Kd.R_reads' (e := 34) (base := w.heap.size) (ok := fun k_ => (((True ∧ some k_ ≠ (.slice Ao26 t374.length co26 : Value).ownBlock) ∧ some k_ ≠ (.slice Ao39 t392.length co39 : Value).ownBlock) ∧ some k_ ≠ (.slice Ao49 t402.length co49 : Value).ownBlock)) (n := t383.length) (c := co32) ?_).2.2; exact (by exact rf_ (Kd.R_types HO385.out BK408.out (by decide)) (fun _ h_ => h_.1))); (case side4 => exact (Kd.R_reads' HO385.out).2.1); rintro e w76 ⟨rfl, hb⟩; refine ⟨_, rfl, ?_⟩; replace HO376 := Aside0.mk (Kd.R_below (by exact rf_ (Kd.R_types HO376.out BK408.out (by decide)) (fun _ h_ => h_.1)) hb); replace HO380 := Aside0.mk (Kd.R_below (by exact rf_ (Kd.R_types HO380.out BK408.out (by decide)) (fun _ h_ => h_.1)) hb); replace HO385 := Aside0.mk (Kd.R_below (by exact rf_ (Kd.R_types HO385.out BK408.out (by decide)) (fun _ h_ => h_.1)) hb); replace HO394 := Aside0.mk (Kd.R_below (by exact rf_ (Kd.R_types HO394.out BK408.out (by decide)) (fun _ h_ => h_.1)) hb); replace HO399 := Aside0.mk (Kd.R_below (by exact rf_ (Kd.R_types HO399.out BK408.out (by decide)) (fun _ h_ => h_.1)) hb); replace HO404 := Aside0.mk (Kd.R_below (by exact rf_ (Kd.R_types HO404.out BK408.out (by decide)) (fun _ h_ => h_.1)) hb); replace BK369 := bb_ BK369 hb; replace BK389 := bb_ BK389 hb; replace BK396 := bb_ BK396 hb; replace BK408 := Aside0.mk (blk_below (g := gb408) (o := .cells #[.int .i64 t400, .int .i64 t401, .slice Ao49 t402.length co49, .int .i64 t405] 24 (0, 0)) (bq_ BK408) hb); replace HB := hb_ w hb; clear hb))
     go_meet
     case rel => exact ⟨_, (true), (by first | rfl | (simp; done) | (simp [*]; done)), H', ⟨by first | omega | exact Nat.le_refl _⟩, ⟨by exact rf_ HO399.out (fun _ hk => trivial)⟩, ⟨by exact rf_ HO385.out (fun _ hk => ⟨hk.1.2, hk.2⟩)⟩, ⟨by exact rf_ HO394.out (fun _ hk => ⟨hk.1.2, hk.2⟩)⟩, ⟨by exact rf_ HO404.out (fun _ hk => ⟨hk.1.2, hk.2⟩)⟩, ⟨bk_ BK369⟩, ⟨bk_ BK389⟩, ⟨bk_ BK396⟩, ⟨bk_ BK408⟩, ⟨(bw_ w)⟩⟩
   case rest =>
    clear HC19
    try clear c1
    try clear p2
    try clear c3
    try clear c4
    try clear c4b0
    try clear c5
    try clear c6
    try clear c7
    try clear c9
    try clear c9b0
    try clear c11
    try clear c12
    try clear c15
    try clear c17
    try clear c19
    try clear c30
    try clear c32
    try clear c33
    try clear c36
    try clear c37
    try clear c45
    try clear c46
    try clear c47
    try clear c51
    try clear c52
    try clear c52b0
    try clear c52b1
    try clear c53
    try clear c54
    try clear c55
    try clear c57
    try clear c58
    try clear c61
    try clear c62
    try clear c63
    try clear c65
    try clear c66
    try clear c69
    try clear c70
    try clear c71
    try clear c73
    try clear c74
    try clear hcz11_0 hcz11_1 hcz11_2 hcz11_3
    try clear hcz21_0 hcz21_1 hcz21_2 hcz21_3
    try clear hcz23_0 hcz23_1 hcz23_2 hcz23_3
    try clear hcz31_0 hcz31_1 hcz31_2 hcz31_3
    try clear hcz33_0 hcz33_1 hcz33_2 hcz33_3
    try clear hcz38_0 hcz38_1 hcz38_2 hcz38_3
    try clear hcz41_0 hcz41_1 hcz41_2 hcz41_3
    try clear hcz48_0 hcz48_1 hcz48_2 hcz48_3
    try clear hcz56_0 hcz56_1 hcz56_2 hcz56_3
    try clear hcz59_0 hcz59_1 hcz59_2 hcz59_3
    try clear hcz64_0 hcz64_1 hcz64_2 hcz64_3
    try clear hcz67_0 hcz67_1 hcz67_2 hcz67_3
    try clear hcz6_0 hcz6_1 hcz6_2 hcz6_3
    try clear hcz72_0 hcz72_1 hcz72_2 hcz72_3
    try clear hcz75_0 hcz75_1 hcz75_2 hcz75_3
    try clear hfz11_0 hfz11_1 hfz11_2 hfz11_3
    try clear hfz21_0 hfz21_1 hfz21_2 hfz21_3
    try clear hfz23_0 hfz23_1 hfz23_2 hfz23_3
    try clear hfz31_0 hfz31_1 hfz31_2 hfz31_3
    try clear hfz33_0 hfz33_1 hfz33_2 hfz33_3
    try clear hfz38_0 hfz38_1 hfz38_2 hfz38_3
    try clear hfz41_0 hfz41_1 hfz41_2 hfz41_3
    try clear hfz48_0 hfz48_1 hfz48_2 hfz48_3
    try clear hfz56_0 hfz56_1 hfz56_2 hfz56_3
    try clear hfz59_0 hfz59_1 hfz59_2 hfz59_3
    try clear hfz64_0 hfz64_1 hfz64_2 hfz64_3
    try clear hfz67_0 hfz67_1 hfz67_2 hfz67_3
    try clear hfz6_0 hfz6_1 hfz6_2 hfz6_3
    try clear hfz72_0 hfz72_1 hfz72_2 hfz72_3
    try clear hfz75_0 hfz75_1 hfz75_2 hfz75_3
    obtain ⟨kq, x63_18, rfl, HA, HJ18, HO_10, HO_390002, HO_397002, HO_409002, BK369, BK389, BK396, BK408, HB⟩ := hcut
    cases kq with
    | zero => exact absurd HA.out (by simp [laws_FnExactRunShop.j0])
    | succ kj18 =>
     have H := HA.out
     clear HA
     simp only [laws_FnExactRunShop.j0] at H
     by_cases c77 : x63_18 = true
     ·subst c77
      rw [if_pos rfl] at H
      exact absurd (H.trans (congrArg some HRT.out)) (by simp)
     ·replace c77 := Bool.eq_false_iff.mpr c77
      subst c77
      rw [if_neg (show ¬ (false = true) by decide)] at H
      replace H := Option.bind_eq_some_iff.mp H
      obtain ⟨⟨t410, t411, t412, t415⟩, A780, H⟩ := H
      (try dsimp only at H)
      have A78 := Aside0.mk A780
      clear A780
      replace H := Option.bind_eq_some_iff.mp H
      obtain ⟨t416, A790, H⟩ := H
      (try dsimp only at H)
      have A79 := Aside0.mk A790
      clear A790
      by_cases c80 : t416 = true
      ·subst c80
       rw [if_pos rfl] at H
       replace H := Option.bind_eq_some_iff.mp H
       obtain ⟨t417, A810, H⟩ := H
       (try dsimp only at H)
       have A81 := Aside0.mk A810
       clear A810
       replace H := Option.bind_eq_some_iff.mp H
       obtain ⟨t420, A820, H⟩ := H
       (try dsimp only at H)
       have A82 := Aside0.mk A820
       clear A820
       by_cases c83 : t420 = true
       ·subst c83
        rw [if_pos rfl] at H
        replace H := Option.bind_eq_some_iff.mp H
        obtain ⟨⟨t421, t422⟩, A840, H⟩ := H
        (try dsimp only at H)
        have A84 := Aside0.mk A840
        clear A840
        replace H := Option.bind_eq_some_iff.mp H
        obtain ⟨⟨t423, t424⟩, A850, H⟩ := H
        (try dsimp only at H)
        have A85 := Aside0.mk A850
        clear A850
        have HC86 := Aside0.mk H
        clear H
        try go_wp2
        replace HO_10 := Aside0.mk (Kd.R_drew HO_10.out)
        replace HO_390002 := Aside0.mk (Kd.R_drew HO_390002.out)
        replace HO_397002 := Aside0.mk (Kd.R_drew HO_397002.out)
        replace HO_409002 := Aside0.mk (Kd.R_drew HO_409002.out)
        replace BK369 := Aside0.mk (blk_drew BK369.out)
        replace BK389 := Aside0.mk (blk_drew BK389.out)
        replace BK396 := Aside0.mk (blk_drew BK396.out)
        replace BK408 := Aside0.mk (blk_drew BK408.out)
        replace HB := Aside0.mk (below_drew1 HB.out)
        refine start_ (n := 5) (S := fun w' => w'.cell? ⟨gb396, 0, none⟩ = some (.int .i64 t390) ∧ w'.cell? ⟨gb396, 1, none⟩ = some (.int .i64 t391) ∧ w'.cell? ⟨gb396, 2, none⟩ = some (.slice Ao39 t392.length co39) ∧ w'.cell? ⟨gb396, 3, none⟩ = some (.int .i64 t395) ∧ w'.cell? ⟨gb369, 0, none⟩ = some (.int .i64 a0_0) ∧ w'.cell? ⟨gb369, 1, none⟩ = some (.int .i64 a0_1) ∧ w'.cell? ⟨gb369, 2, none⟩ = some (.slice A0_2 l0_2.length c0_2) ∧ w'.cell? ⟨gb369, 3, none⟩ = some (.int .i64 a0_3)) (ds := []) #[false, false, false, false, false] (by kernel_rfl) rfl rfl ⟨bc_ BK396 0, bc_ BK396 1, bc_ BK396 2, bc_ BK396 3, bc_ BK369 0, bc_ BK369 1, bc_ BK369 2, bc_ BK369 3⟩ (fun hHeld => ?_)
        generalize wc.drew = w87 at HO_10 HO_390002 HO_397002 HO_409002 BK369 BK389 BK396 BK408 HB hHeld ⊢
        refine take_ (i := 0) (N := some 64) (v := ?_) (a' := ?_) #[true, false, false, false, false] rfl rfl (by kernel_rfl) (fun _ _ _ h => h) (Or.inl ⟨by rfl, ?_⟩) hHeld ?_ ?_
        rotate_left
        ·rintro w' ⟨s0, s1, s2, s3, s4, s5, s6, s7⟩
         go_simp
         with_reducible rfl
        rotate_left
        ·simp only [Act.put, List.setIfInBounds_toArray, List.set_cons_zero, List.set_cons_succ, i64_w, i32_w]
         rfl
        refine take_ (i := 1) (N := some 65) (v := ?_) (a' := ?_) #[true, true, false, false, false] rfl rfl (by kernel_rfl) (fun _ _ _ h => h) (Or.inl ⟨by rfl, ?_⟩) hHeld ?_ ?_
        rotate_left
        ·rintro w' ⟨s0, s1, s2, s3, s4, s5, s6, s7⟩
         go_simp
         with_reducible rfl
        rotate_left
        ·simp only [Act.put, List.setIfInBounds_toArray, List.set_cons_zero, List.set_cons_succ, i64_w, i32_w]
         rfl
        refine one_ (i := 2) (N := some 66) #[true, true, true, false, false] rfl rfl (by kernel_rfl) (by decide) (fun K hK => ?_)
        refine goesA Try.func17 #[.agg #[.int .i64 a0_0, .int .i64 a0_1, .slice A0_2 l0_2.length c0_2, .int .i64 a0_3]] ?_
        with_reducible refine (laws_toShop.calls kj18 a0_0 a0_1 _ _ l0_2 a0_3 t410 t411 t412 t415 _ ?side1 ?side2 A78.out).mono ?_
        (case side1 => exact cb_ HR0_2 HB)
        (case side2 => exact HC0_2.out)
        rintro e w88 ⟨v413, rfl, ho0, hb⟩
        refine ⟨_, rfl, ?_⟩
        have HO414 := Aside0.mk (Kd.R_lower (Kd.R_new' (Kd.R_new' (Kd.R_new' ho0 (Kd.R_lt (ra_ HO_390002))) (Kd.R_lt (ra_ HO_397002))) (Kd.R_lt (ra_ HO_409002))) (below_size (bw_ w)))
        replace HO_10 := Aside0.mk (Kd.R_below (ra_ HO_10) hb)
        replace HO_390002 := Aside0.mk (Kd.R_elder' (ra_ HO_390002) (Kd.R_base ho0) hb)
        replace HO_397002 := Aside0.mk (Kd.R_elder' (ra_ HO_397002) (Kd.R_base ho0) hb)
        replace HO_409002 := Aside0.mk (Kd.R_elder' (ra_ HO_409002) (Kd.R_base ho0) hb)
        replace BK369 := bb_ BK369 hb
        replace BK389 := bb_ BK389 hb
        replace BK396 := bb_ BK396 hb
        replace BK408 := bb_ BK408 hb
        replace HB := hb_ w hb
        (try clear hb)
        (try clear hb2)
        (try clear hk)
        (try clear hi)
        (try clear ho0)
        obtain ⟨Ao89, co89, eo89⟩ := Kd.R_slice HO414.out
        (first | subst eo89 | (injection eo89 with f1_ f2_ f3_; have f4_ := f1_.symm; have f5_ := f3_.symm; clear f1_ f2_ f3_; subst f4_; subst f5_))
        refine hK.out _ _ ⟨bc_ BK396 0, bc_ BK396 1, bc_ BK396 2, bc_ BK396 3, bc_ BK369 0, bc_ BK369 1, bc_ BK369 2, bc_ BK369 3⟩ (fun hHeld => ?_)
        clear hK K
        refine normA (N := some 66) ?_
        refine one_ (i := 3) (N := some 67) #[true, true, true, true, false] rfl rfl (by kernel_rfl) (by decide) (fun K hK => ?_)
        refine goesA Try.func19 #[.agg #[.int .i64 t390, .int .i64 t391, .slice Ao39 t392.length co39, .int .i64 t395], .agg #[.int .i64 t410, .int .i64 t411, .slice Ao89 t412.length co89, .int .i64 t415]] ?_
        with_reducible refine (laws_eqShop.calls kj18 t390 t391 _ _ t392 t395 t410 t411 _ _ t412 t415 true _ ?side1 ?side2 ?side3 ?side4 A79.out).mono ?_
        (case side1 => exact co_ (Kd.R_reads' HO_397002.out).2.2)
        (case side2 => exact (Kd.R_reads' HO_397002.out).2.1)
        (case side3 => exact co_ (Kd.R_reads' HO414.out).2.2)
        (case side4 => exact (Kd.R_reads' HO414.out).2.1)
        rintro e w90 ⟨rfl, hb⟩
        refine ⟨_, rfl, ?_⟩
        replace HO_10 := Aside0.mk (Kd.R_below (ra_ HO_10) hb)
        replace HO_390002 := Aside0.mk (Kd.R_below (ra_ HO_390002) hb)
        replace HO_397002 := Aside0.mk (Kd.R_below (ra_ HO_397002) hb)
        replace HO_409002 := Aside0.mk (Kd.R_below (ra_ HO_409002) hb)
        replace HO414 := Aside0.mk (Kd.R_below (ra_ HO414) hb)
        replace BK369 := bb_ BK369 hb
        replace BK389 := bb_ BK389 hb
        replace BK396 := bb_ BK396 hb
        replace BK408 := bb_ BK408 hb
        replace HB := hb_ w hb
        clear hb
        refine hK.out _ _ ⟨bc_ BK396 0, bc_ BK396 1, bc_ BK396 2, bc_ BK396 3, bc_ BK369 0, bc_ BK369 1, bc_ BK369 2, bc_ BK369 3⟩ (fun hHeld => ?_)
        clear hK K
        refine normA (N := some 67) ?_
        refine pureK (N := some 68) 4 ?_
        refine done_ (by kernel_rfl) ?_
        go_upto_region 21 with (first | ((with_reducible refine gate_callee (f := 33) rfl ?_); refine goesB (some 71) Try.func33 #[.slice A1 l1.length c1] ?_; (with_reducible refine (laws_toShopStepS.calls kj18 _ _ l1 t417 _ ?side1 ?side2 A81.out).mono ?_); (case side1 => exact cb_ HR1 HB); (case side2 => exact HC1.out); rintro e w91 ⟨v418, rfl, ho0, hb⟩; refine ⟨_, rfl, ?_⟩; have HO419 := Aside0.mk (Kd.R_lower (Kd.R_new' ho0 (Kd.R_lt (ra_ HO_10))) (below_size (bw_ w))); replace HO_10 := Aside0.mk (Kd.R_elder' (ra_ HO_10) (Kd.R_base ho0) hb); replace HO_390002 := Aside0.mk (Kd.R_below (ra_ HO_390002) hb); replace HO_397002 := Aside0.mk (Kd.R_below (ra_ HO_397002) hb); replace HO_409002 := Aside0.mk (Kd.R_below (ra_ HO_409002) hb); replace HO414 := Aside0.mk (Kd.R_below (ra_ HO414) hb); replace BK369 := bb_ BK369 hb; replace BK389 := bb_ BK389 hb; replace BK396 := bb_ BK396 hb; replace BK408 := bb_ BK408 hb; replace HB := hb_ w hb; (try clear hb); (try clear hb2); (try clear hk); (try clear hi); (try clear ho0); obtain ⟨Ao92, co92, eo92⟩ := Kd.R_slice HO419.out; subst eo92) | ((with_reducible refine gate_callee (f := 34) rfl ?_); refine goesB (some 72) Try.func34 #[.slice Ao42 t397.length co42, .slice Ao92 t417.length co92] ?_; (with_reducible refine (laws_eqShopStepS.calls kj18 _ _ t397 _ _ t417 true _ ?side1 ?side2 ?side3 ?side4 A82.out).mono ?_); (case side1 => exact co_ (Kd.R_reads' HO_10.out).2.2); (case side2 => exact (Kd.R_reads' HO_10.out).2.1); (case side3 => exact co_ (Kd.R_reads' HO419.out).2.2); (case side4 => exact (Kd.R_reads' HO419.out).2.1); rintro e w93 ⟨rfl, hb⟩; refine ⟨_, rfl, ?_⟩; replace HO_10 := Aside0.mk (Kd.R_below (ra_ HO_10) hb); replace HO_390002 := Aside0.mk (Kd.R_below (ra_ HO_390002) hb); replace HO_397002 := Aside0.mk (Kd.R_below (ra_ HO_397002) hb); replace HO_409002 := Aside0.mk (Kd.R_below (ra_ HO_409002) hb); replace HO414 := Aside0.mk (Kd.R_below (ra_ HO414) hb); replace HO419 := Aside0.mk (Kd.R_below (ra_ HO419) hb); replace BK369 := bb_ BK369 hb; replace BK389 := bb_ BK389 hb; replace BK396 := bb_ BK396 hb; replace BK408 := bb_ BK408 hb; replace HB := hb_ w hb; clear hb; have hnb94 := NB396_369.out; have hnc94 := NB369_396.out; have hnb95 := NB396_389.out; have hnc95 := NB389_396.out; have hnb96 := NB396_408.out; have hnc96 := NB408_396.out; obtain ⟨hcz97_0, hcz97_1, hcz97_2, hcz97_3, hfz97_0, hfz97_1, hfz97_2, hfz97_3⟩ := bc4_ (w := w93) BK396) | ((with_reducible refine gate_callee (f := 20) rfl ?_); refine goesB (some 76) Try.func20 #[.agg #[.int .i64 t390, .int .i64 t391, .slice Ao39 t392.length co39, .int .i64 t395], .int .i64 1] ?_; (with_reducible refine (laws_markShop.calls kj18 t390 t391 (fun k_ => some k_ = (.slice Ao39 t392.length co39 : Value).ownBlock) (.slice Ao39 t392.length co39) t392 t395 1 t421 t422 w _ ?side1 ?side2 A84.out).mono ?_); (case side1 => repeat (first | (with_reducible first | exact HB.out | apply below_alloc | apply pw_below_drewN | apply below_drew1 | refine below_set ?_ GE369.out | refine below_set ?_ GE389.out | refine below_set ?_ GE396.out | refine below_set ?_ GE408.out) | exact HB.out)); (case side2 => exact Kd.R_tight rfl HO_397002.out); rintro e w98 ⟨rfl, hy0, hb, hkp⟩; refine ⟨_, rfl, ?_⟩; replace HO_10 := Aside0.mk (Kd.R_mono (ok' := fun k_ => some k_ ≠ (.slice Ao92 t417.length co92 : Value).ownBlock) (Kd.R_keptB ((Kd.R_apart' HO_10.out (Kd.R_typed HO_397002.out) (by decide))) hkp (fun k_ hk_ hs_ => (hk_.2) hs_)) (fun k_ hk_ => hk_.1.1.2)); replace HO_390002 := Aside0.mk (Kd.R_mono (ok' := fun k_ => some k_ ≠ (.slice Ao39 t392.length co39 : Value).ownBlock ∧ some k_ ≠ (.slice Ao49 t402.length co49 : Value).ownBlock ∧ some k_ ≠ (.slice Ao89 t412.length co89 : Value).ownBlock) (Kd.R_keptB (HO_390002.out) hkp (fun k_ hk_ hs_ => (hk_.1.1) hs_)) (fun k_ hk_ => ⟨hk_.1.1.1, hk_.1.1.2, hk_.1.2⟩)); replace HO_409002 := Aside0.mk (Kd.R_mono (ok' := fun k_ => some k_ ≠ (.slice Ao32 t383.length co32 : Value).ownBlock ∧ some k_ ≠ (.slice Ao39 t392.length co39 : Value).ownBlock ∧ some k_ ≠ (.slice Ao89 t412.length co89 : Value).ownBlock) (Kd.R_keptB (HO_409002.out) hkp (fun k_ hk_ hs_ => (hk_.1.2) hs_)) (fun k_ hk_ => ⟨hk_.1.1.1, hk_.1.1.2, hk_.1.2⟩)); replace BK369 := Aside0.mk (blk_kept (bk_ BK369) hkp (fun hs_ => (fun e_ => (Kd.R_ne HO_397002.out BK369.out (by decide)) e_) hs_)); replace BK389 := Aside0.mk (blk_kept (bk_ BK389) hkp (fun hs_ => (fun e_ => (Kd.R_ne HO_397002.out BK389.out (by decide)) e_) hs_)); replace BK396 := Aside0.mk (blk_kept (bk_ BK396) hkp (fun hs_ => (fun e_ => (Kd.R_ne HO_397002.out BK396.out (by decide)) e_) hs_)); replace BK408 := Aside0.mk (blk_kept (bk_ BK408) hkp (fun hs_ => (fun e_ => (Kd.R_ne HO_397002.out BK408.out (by decide)) e_) hs_)); replace HO414 := Aside0.mk (Kd.R_mono (ok' := fun k_ => some k_ ≠ (.slice Ao32 t383.length co32 : Value).ownBlock ∧ some k_ ≠ (.slice Ao39 t392.length co39 : Value).ownBlock ∧ some k_ ≠ (.slice Ao49 t402.length co49 : Value).ownBlock) (Kd.R_keptB (HO414.out) hkp (fun k_ hk_ hs_ => (hk_.1.2) hs_)) (fun k_ hk_ => ⟨hk_.1.1.1.2, hk_.1.1.2, hk_.1.2⟩)); replace HO419 := Aside0.mk (Kd.R_mono (ok' := fun k_ => some k_ ≠ (.slice Ao42 t397.length co42 : Value).ownBlock) (Kd.R_keptB ((Kd.R_apart' HO419.out (Kd.R_typed HO_397002.out) (by decide))) hkp (fun k_ hk_ hs_ => (hk_.2) hs_)) (fun k_ hk_ => hk_.1.1.2)); replace HO_397002 := Aside0.mk (Kd.R_reok rfl hy0 (fun k_ e_ => HO_397002.out.1 k_ e_)); replace HB := Aside0.mk (hb); (try clear hb); (try clear hkp); (try clear hy0)) | ((with_reducible refine gate_callee (f := 35) rfl ?_); refine goesB (some 79) Try.func35 #[.slice Ao42 t397.length co42, .int .i64 t421] ?_; (with_reducible refine (laws_markShopStepS.calls kj18 (fun k_ => some k_ = (.slice Ao42 t397.length co42 : Value).ownBlock) (.slice Ao42 t397.length co42) t397 t421 t423 t424 w _ ?side1 ?side2 A85.out).mono ?_); (case side1 => repeat (first | (with_reducible first | exact HB.out | apply below_alloc | apply pw_below_drewN | apply below_drew1 | refine below_set ?_ GE369.out | refine below_set ?_ GE389.out | refine below_set ?_ GE396.out | refine below_set ?_ GE408.out) | exact HB.out)); (case side2 => exact Kd.R_tight rfl HO_10.out); rintro e w99 ⟨rfl, hy0, hb, hkp⟩; refine ⟨_, rfl, ?_⟩; replace HO_390002 := Aside0.mk (Kd.R_mono (ok' := fun k_ => some k_ ≠ (.slice Ao39 t392.length co39 : Value).ownBlock ∧ some k_ ≠ (.slice Ao49 t402.length co49 : Value).ownBlock ∧ some k_ ≠ (.slice Ao89 t412.length co89 : Value).ownBlock) (Kd.R_keptB ((Kd.R_apart' HO_390002.out (Kd.R_typed HO_10.out) (by decide))) hkp (fun k_ hk_ hs_ => (hk_.2) hs_)) (fun k_ hk_ => ⟨hk_.1.1.1, hk_.1.1.2.1, hk_.1.1.2.2⟩)); replace HO_397002 := Aside0.mk (Kd.R_mono (ok' := fun k_ => some k_ ≠ (.slice Ao32 t383.length co32 : Value).ownBlock ∧ some k_ ≠ (.slice Ao49 t402.length co49 : Value).ownBlock ∧ some k_ ≠ (.slice Ao89 t412.length co89 : Value).ownBlock) (Kd.R_keptB ((Kd.R_apart' HO_397002.out (Kd.R_typed HO_10.out) (by decide))) hkp (fun k_ hk_ hs_ => (hk_.2) hs_)) (fun k_ hk_ => ⟨hk_.1.1.1.1, hk_.1.1.1.2, hk_.1.1.2⟩)); replace HO_409002 := Aside0.mk (Kd.R_mono (ok' := fun k_ => some k_ ≠ (.slice Ao32 t383.length co32 : Value).ownBlock ∧ some k_ ≠ (.slice Ao39 t392.length co39 : Value).ownBlock ∧ some k_ ≠ (.slice Ao89 t412.length co89 : Value).ownBlock) (Kd.R_keptB ((Kd.R_apart' HO_409002.out (Kd.R_typed HO_10.out) (by decide))) hkp (fun k_ hk_ hs_ => (hk_.2) hs_)) (fun k_ hk_ => ⟨hk_.1.1.1, hk_.1.1.2.1, hk_.1.1.2.2⟩)); replace BK369 := Aside0.mk (blk_kept (bk_ BK369) hkp (fun hs_ => (fun e_ => (Kd.R_ne HO_10.out BK369.out (by decide)) e_) hs_)); replace BK389 := Aside0.mk (blk_kept (bk_ BK389) hkp (fun hs_ => (fun e_ => (Kd.R_ne HO_10.out BK389.out (by decide)) e_) hs_)); replace BK396 := Aside0.mk (blk_kept (bk_ BK396) hkp (fun hs_ => (fun e_ => (Kd.R_ne HO_10.out BK396.out (by decide)) e_) hs_)); replace BK408 := Aside0.mk (blk_kept (bk_ BK408) hkp (fun hs_ => (fun e_ => (Kd.R_ne HO_10.out BK408.out (by decide)) e_) hs_)); replace HO414 := Aside0.mk (Kd.R_mono (ok' := fun k_ => some k_ ≠ (.slice Ao32 t383.length co32 : Value).ownBlock ∧ some k_ ≠ (.slice Ao39 t392.length co39 : Value).ownBlock ∧ some k_ ≠ (.slice Ao49 t402.length co49 : Value).ownBlock) (Kd.R_keptB ((Kd.R_apart' HO414.out (Kd.R_typed HO_10.out) (by decide))) hkp (fun k_ hk_ hs_ => (hk_.2) hs_)) (fun k_ hk_ => ⟨hk_.1.1.1, hk_.1.1.2.1, hk_.1.1.2.2⟩)); replace HO_10 := Aside0.mk (Kd.R_reok rfl hy0 (fun k_ e_ => HO_10.out.1 k_ e_)); replace HO419 := Aside0.mk (Kd.R_mono (ok' := fun k_ => some k_ ≠ (.slice Ao42 t397.length co42 : Value).ownBlock) (Kd.R_keptB (HO419.out) hkp (fun k_ hk_ hs_ => (hk_) hs_)) (fun k_ hk_ => hk_.1)); replace HB := Aside0.mk (hb); (try clear hb); (try clear hkp); (try clear hy0)))
        (try simp only [Act.put, List.setIfInBounds_toArray, List.set_cons_zero, List.set_cons_succ])
        go_cut [97] (fun v97 wc => ∃ (kq : Nat) (x97_85 : Bool), v97 = .bool x97_85 ∧ Aside0 (laws_FnExactRunShop.j1 kq l1 t387 t388 x97_85 a0_0 a0_1 l0_2 a0_3 t381 t382 t383 t386 t400 t401 t402 t405 = some r) ∧ Aside0 (kq ≤ kj18) ∧ Aside0 (Kd.R k34 34 wc w.heap.size (fun k_ => some k_ ≠ ((.slice Ao39 t392.length co39) : Value).ownBlock ∧ some k_ ≠ ((.slice Ao49 t402.length co49) : Value).ownBlock) (.slice Ao32 t383.length co32) t383) ∧ Aside0 (Kd.R k34 34 wc w.heap.size (fun k_ => some k_ ≠ ((.slice Ao32 t383.length co32) : Value).ownBlock ∧ some k_ ≠ ((.slice Ao49 t402.length co49) : Value).ownBlock) (.slice Ao39 t392.length co39) t422) ∧ Aside0 (Kd.R k34 34 wc w.heap.size (fun k_ => some k_ ≠ ((.slice Ao32 t383.length co32) : Value).ownBlock ∧ some k_ ≠ ((.slice Ao39 t392.length co39) : Value).ownBlock) (.slice Ao49 t402.length co49) t402) ∧ Aside0 (wc.heap[gb369]? = some (.cells #[.int .i64 a0_0, .int .i64 a0_1, (.slice A0_2 l0_2.length c0_2), .int .i64 a0_3] 38 (0, 0))) ∧ Aside0 (wc.heap[gb389]? = some (.cells #[.int .i64 t381, .int .i64 t382, (.slice Ao32 t383.length co32), .int .i64 t386] 24 (0, 0))) ∧ Aside0 (wc.heap[gb396]? = some (.cells #[.int .i64 t390, .int .i64 t391, (.slice Ao39 t392.length co39), .int .i64 t395] 24 (0, 0))) ∧ Aside0 (wc.heap[gb408]? = some (.cells #[.int .i64 t400, .int .i64 t401, (.slice Ao49 t402.length co49), .int .i64 t405] 24 (0, 0))) ∧ Aside0 (Below w.heap.size w wc))
        case first =>
         have H := HC86.out
         clear HC86
         by_cases c100 : t423 < 0
         ·rw [if_pos c100] at H
          have c100b0 := decide_eq_true c100
          clear c100
          (first | rw [c100b0] | (simp only [i64_w, i32_w]; rw [c100b0]) | skip)
          have H' := Aside0.mk H
          clear H
          go_wp2
          go_meet
          case rel => exact ⟨_, (true), (by first | rfl | (simp; done) | (simp [*]; done)), H', ⟨by have := HJ18.out; first | omega | exact Nat.le_refl _⟩, ⟨by exact rf_ HO_390002.out (fun _ hk => ⟨hk.1, hk.2.1⟩)⟩, ⟨by exact rf_ HO_397002.out (fun _ hk => ⟨hk.1, hk.2.1⟩)⟩, ⟨by exact rf_ HO_409002.out (fun _ hk => ⟨hk.1, hk.2.1⟩)⟩, ⟨bk_ BK369⟩, ⟨bk_ BK389⟩, ⟨bk_ BK396⟩, ⟨bk_ BK408⟩, ⟨(bw_ w)⟩⟩
         ·rw [if_neg c100] at H
          have c100b0 := decide_eq_false c100
          clear c100
          (first | rw [c100b0] | (simp only [i64_w, i32_w]; rw [c100b0]) | skip)
          replace H := Option.bind_eq_some_iff.mp H
          obtain ⟨t425, A1010, H⟩ := H
          (try dsimp only at H)
          have A101 := Aside0.mk A1010
          clear A1010
          by_cases c102 : t425 = true
          ·subst c102
           rw [if_pos rfl] at H
           by_cases c103 : t406 = t387
           ·rw [if_pos c103] at H
            have c103b0 := beq_iff_eq.mpr c103
            have c103b1 := bne_eq_false_iff_eq.mpr c103
            clear c103
            have H' := Aside0.mk H
            clear H
            have hnb104 := NB408_369.out
            have hnc104 := NB369_408.out
            have hnb105 := NB408_389.out
            have hnc105 := NB389_408.out
            have hnb106 := NB408_396.out
            have hnc106 := NB396_408.out
            obtain ⟨hcz107_0, hcz107_1, hcz107_2, hcz107_3, hfz107_0, hfz107_1, hfz107_2, hfz107_3⟩ := bc4_ (w := w99) BK408
            have hnb108 := NB389_369.out
            have hnc108 := NB369_389.out
            have hnb109 := NB389_396.out
            have hnc109 := NB396_389.out
            obtain ⟨hcz110_0, hcz110_1, hcz110_2, hcz110_3, hfz110_0, hfz110_1, hfz110_2, hfz110_3⟩ := bc4_ (w := w99) BK389
            go_wp2_with (first | (go_at_call 19; (with_reducible refine (laws_eqShop.calls kj18 t400 t401 _ _ t402 t405 t381 t382 _ _ t383 t386 true _ ?side1 ?side2 ?side3 ?side4 A101.out).mono ?_); (case side1 => exact co_ (Kd.R_reads' HO_409002.out).2.2); (case side2 => exact (Kd.R_reads' HO_409002.out).2.1); (case side3 => exact co_ (Kd.R_reads' HO_390002.out).2.2); (case side4 => exact (Kd.R_reads' HO_390002.out).2.1); rintro e w111 ⟨rfl, hb⟩; replace HO_10 := Aside0.mk (Kd.R_below (ra_ HO_10) hb); replace HO_390002 := Aside0.mk (Kd.R_below (ra_ HO_390002) hb); replace HO_397002 := Aside0.mk (Kd.R_below (ra_ HO_397002) hb); replace HO_409002 := Aside0.mk (Kd.R_below (ra_ HO_409002) hb); replace HO414 := Aside0.mk (Kd.R_below (ra_ HO414) hb); replace HO419 := Aside0.mk (Kd.R_below (ra_ HO419) hb); replace BK369 := bb_ BK369 hb; replace BK389 := bb_ BK389 hb; replace BK396 := bb_ BK396 hb; replace BK408 := bb_ BK408 hb; replace HB := hb_ w hb; clear hb))
            go_meet
            case rel => exact ⟨_, ((t407 != t388)), (by first | rfl | (simp; done) | (simp [*]; done)), H', ⟨by have := HJ18.out; first | omega | exact Nat.le_refl _⟩, ⟨by exact rf_ HO_390002.out (fun _ hk => ⟨hk.1, hk.2.1⟩)⟩, ⟨by exact rf_ HO_397002.out (fun _ hk => ⟨hk.1, hk.2.1⟩)⟩, ⟨by exact rf_ HO_409002.out (fun _ hk => ⟨hk.1, hk.2.1⟩)⟩, ⟨bk_ BK369⟩, ⟨bk_ BK389⟩, ⟨bk_ BK396⟩, ⟨bk_ BK408⟩, ⟨(bw_ w)⟩⟩
           ·rw [if_neg c103] at H
            have c103b0 := beq_eq_false_iff_ne.mpr c103
            have c103b1 := bne_iff_ne.mpr c103
            have H' := Aside0.mk H
            clear H
            have hnb112 := NB408_369.out
            have hnc112 := NB369_408.out
            have hnb113 := NB408_389.out
            have hnc113 := NB389_408.out
            have hnb114 := NB408_396.out
            have hnc114 := NB396_408.out
            obtain ⟨hcz115_0, hcz115_1, hcz115_2, hcz115_3, hfz115_0, hfz115_1, hfz115_2, hfz115_3⟩ := bc4_ (w := w99) BK408
            have hnb116 := NB389_369.out
            have hnc116 := NB369_389.out
            have hnb117 := NB389_396.out
            have hnc117 := NB396_389.out
            obtain ⟨hcz118_0, hcz118_1, hcz118_2, hcz118_3, hfz118_0, hfz118_1, hfz118_2, hfz118_3⟩ := bc4_ (w := w99) BK389
            go_wp2_with (first | (go_at_call 19; (with_reducible refine (laws_eqShop.calls kj18 t400 t401 _ _ t402 t405 t381 t382 _ _ t383 t386 true _ ?side1 ?side2 ?side3 ?side4 A101.out).mono ?_); (case side1 => exact co_ (Kd.R_reads' HO_409002.out).2.2); (case side2 => exact (Kd.R_reads' HO_409002.out).2.1); (case side3 => exact co_ (Kd.R_reads' HO_390002.out).2.2); (case side4 => exact (Kd.R_reads' HO_390002.out).2.1); rintro e w119 ⟨rfl, hb⟩; replace HO_10 := Aside0.mk (Kd.R_below (ra_ HO_10) hb); replace HO_390002 := Aside0.mk (Kd.R_below (ra_ HO_390002) hb); replace HO_397002 := Aside0.mk (Kd.R_below (ra_ HO_397002) hb); replace HO_409002 := Aside0.mk (Kd.R_below (ra_ HO_409002) hb); replace HO414 := Aside0.mk (Kd.R_below (ra_ HO414) hb); replace HO419 := Aside0.mk (Kd.R_below (ra_ HO419) hb); replace BK369 := bb_ BK369 hb; replace BK389 := bb_ BK389 hb; replace BK396 := bb_ BK396 hb; replace BK408 := bb_ BK408 hb; replace HB := hb_ w hb; clear hb))
            go_meet
            case rel => exact ⟨_, (true), (by first | rfl | (simp; done) | (simp [*]; done)), H', ⟨by have := HJ18.out; first | omega | exact Nat.le_refl _⟩, ⟨by exact rf_ HO_390002.out (fun _ hk => ⟨hk.1, hk.2.1⟩)⟩, ⟨by exact rf_ HO_397002.out (fun _ hk => ⟨hk.1, hk.2.1⟩)⟩, ⟨by exact rf_ HO_409002.out (fun _ hk => ⟨hk.1, hk.2.1⟩)⟩, ⟨bk_ BK369⟩, ⟨bk_ BK389⟩, ⟨bk_ BK396⟩, ⟨bk_ BK408⟩, ⟨(bw_ w)⟩⟩
          ·replace c102 := Bool.eq_false_iff.mpr c102
           subst c102
           rw [if_neg (show ¬ (false = true) by decide)] at H
           have H' := Aside0.mk H
           clear H
           have hnb120 := NB408_369.out
           have hnc120 := NB369_408.out
           have hnb121 := NB408_389.out
           have hnc121 := NB389_408.out
           have hnb122 := NB408_396.out
           have hnc122 := NB396_408.out
           obtain ⟨hcz123_0, hcz123_1, hcz123_2, hcz123_3, hfz123_0, hfz123_1, hfz123_2, hfz123_3⟩ := bc4_ (w := w99) BK408
           have hnb124 := NB389_369.out
           have hnc124 := NB369_389.out
           have hnb125 := NB389_396.out
           have hnc125 := NB396_389.out
           obtain ⟨hcz126_0, hcz126_1, hcz126_2, hcz126_3, hfz126_0, hfz126_1, hfz126_2, hfz126_3⟩ := bc4_ (w := w99) BK389
           go_wp2_with (first | (go_at_call 19; (with_reducible refine (laws_eqShop.calls kj18 t400 t401 _ _ t402 t405 t381 t382 _ _ t383 t386 false _ ?side1 ?side2 ?side3 ?side4 A101.out).mono ?_); (case side1 => exact co_ (Kd.R_reads' HO_409002.out).2.2); (case side2 => exact (Kd.R_reads' HO_409002.out).2.1); (case side3 => exact co_ (Kd.R_reads' HO_390002.out).2.2); (case side4 => exact (Kd.R_reads' HO_390002.out).2.1); rintro e w127 ⟨rfl, hb⟩; replace HO_10 := Aside0.mk (Kd.R_below (ra_ HO_10) hb); replace HO_390002 := Aside0.mk (Kd.R_below (ra_ HO_390002) hb); replace HO_397002 := Aside0.mk (Kd.R_below (ra_ HO_397002) hb); replace HO_409002 := Aside0.mk (Kd.R_below (ra_ HO_409002) hb); replace HO414 := Aside0.mk (Kd.R_below (ra_ HO414) hb); replace HO419 := Aside0.mk (Kd.R_below (ra_ HO419) hb); replace BK369 := bb_ BK369 hb; replace BK389 := bb_ BK389 hb; replace BK396 := bb_ BK396 hb; replace BK408 := bb_ BK408 hb; replace HB := hb_ w hb; clear hb))
           go_meet
           case rel => exact ⟨_, (true), (by first | rfl | (simp; done) | (simp [*]; done)), H', ⟨by have := HJ18.out; first | omega | exact Nat.le_refl _⟩, ⟨by exact rf_ HO_390002.out (fun _ hk => ⟨hk.1, hk.2.1⟩)⟩, ⟨by exact rf_ HO_397002.out (fun _ hk => ⟨hk.1, hk.2.1⟩)⟩, ⟨by exact rf_ HO_409002.out (fun _ hk => ⟨hk.1, hk.2.1⟩)⟩, ⟨bk_ BK369⟩, ⟨bk_ BK389⟩, ⟨bk_ BK396⟩, ⟨bk_ BK408⟩, ⟨(bw_ w)⟩⟩
        case rest =>
         clear HC86
         try clear c1
         try clear c2
         try clear p2
         try clear c3
         try clear c4
         try clear c4b0
         try clear c5
         try clear c6
         try clear c7
         try clear c8
         try clear c9
         try clear c9b0
         try clear c10
         try clear c11
         try clear c12
         try clear c15
         try clear c17
         try clear c19
         try clear c20
         try clear c30
         try clear c32
         try clear c33
         try clear c34
         try clear c35
         try clear c36
         try clear c37
         try clear c45
         try clear c46
         try clear c47
         try clear c51
         try clear c52
         try clear c52b0
         try clear c52b1
         try clear c53
         try clear c54
         try clear c55
         try clear c57
         try clear c58
         try clear c61
         try clear c62
         try clear c63
         try clear c65
         try clear c66
         try clear c69
         try clear c70
         try clear c71
         try clear c73
         try clear c74
         try clear c77
         try clear c80
         try clear c83
         try clear c94
         try clear c95
         try clear c96
         try clear c100
         try clear c100b0
         try clear c102
         try clear c103
         try clear c103b0
         try clear c103b1
         try clear c104
         try clear c105
         try clear c106
         try clear c108
         try clear c109
         try clear c112
         try clear c113
         try clear c114
         try clear c116
         try clear c117
         try clear c120
         try clear c121
         try clear c122
         try clear c124
         try clear c125
         try clear hcz107_0 hcz107_1 hcz107_2 hcz107_3
         try clear hcz110_0 hcz110_1 hcz110_2 hcz110_3
         try clear hcz115_0 hcz115_1 hcz115_2 hcz115_3
         try clear hcz118_0 hcz118_1 hcz118_2 hcz118_3
         try clear hcz11_0 hcz11_1 hcz11_2 hcz11_3
         try clear hcz123_0 hcz123_1 hcz123_2 hcz123_3
         try clear hcz126_0 hcz126_1 hcz126_2 hcz126_3
         try clear hcz21_0 hcz21_1 hcz21_2 hcz21_3
         try clear hcz23_0 hcz23_1 hcz23_2 hcz23_3
         try clear hcz31_0 hcz31_1 hcz31_2 hcz31_3
         try clear hcz33_0 hcz33_1 hcz33_2 hcz33_3
         try clear hcz38_0 hcz38_1 hcz38_2 hcz38_3
         try clear hcz41_0 hcz41_1 hcz41_2 hcz41_3
         try clear hcz48_0 hcz48_1 hcz48_2 hcz48_3
         try clear hcz56_0 hcz56_1 hcz56_2 hcz56_3
         try clear hcz59_0 hcz59_1 hcz59_2 hcz59_3
         try clear hcz64_0 hcz64_1 hcz64_2 hcz64_3
         try clear hcz67_0 hcz67_1 hcz67_2 hcz67_3
         try clear hcz6_0 hcz6_1 hcz6_2 hcz6_3
         try clear hcz72_0 hcz72_1 hcz72_2 hcz72_3
         try clear hcz75_0 hcz75_1 hcz75_2 hcz75_3
         try clear hcz97_0 hcz97_1 hcz97_2 hcz97_3
         try clear hfz107_0 hfz107_1 hfz107_2 hfz107_3
         try clear hfz110_0 hfz110_1 hfz110_2 hfz110_3
         try clear hfz115_0 hfz115_1 hfz115_2 hfz115_3
         try clear hfz118_0 hfz118_1 hfz118_2 hfz118_3
         try clear hfz11_0 hfz11_1 hfz11_2 hfz11_3
         try clear hfz123_0 hfz123_1 hfz123_2 hfz123_3
         try clear hfz126_0 hfz126_1 hfz126_2 hfz126_3
         try clear hfz21_0 hfz21_1 hfz21_2 hfz21_3
         try clear hfz23_0 hfz23_1 hfz23_2 hfz23_3
         try clear hfz31_0 hfz31_1 hfz31_2 hfz31_3
         try clear hfz33_0 hfz33_1 hfz33_2 hfz33_3
         try clear hfz38_0 hfz38_1 hfz38_2 hfz38_3
         try clear hfz41_0 hfz41_1 hfz41_2 hfz41_3
         try clear hfz48_0 hfz48_1 hfz48_2 hfz48_3
         try clear hfz56_0 hfz56_1 hfz56_2 hfz56_3
         try clear hfz59_0 hfz59_1 hfz59_2 hfz59_3
         try clear hfz64_0 hfz64_1 hfz64_2 hfz64_3
         try clear hfz67_0 hfz67_1 hfz67_2 hfz67_3
         try clear hfz6_0 hfz6_1 hfz6_2 hfz6_3
         try clear hfz72_0 hfz72_1 hfz72_2 hfz72_3
         try clear hfz75_0 hfz75_1 hfz75_2 hfz75_3
         try clear hfz97_0 hfz97_1 hfz97_2 hfz97_3
         try clear p2
         obtain ⟨kq, x97_85, rfl, HA, HJ85, HO_390002, HO_397002, HO_409002, BK369, BK389, BK396, BK408, HB⟩ := hcut
         have hl397002_85 := (Kd.R_reads' HO_397002.out).1
         rw [hl397002_85] at HO_397002
         (try simp only [hl397002_85])
         (try simp only [hl397002_85] at BK369)
         (try simp only [hl397002_85] at BK389)
         (try simp only [hl397002_85] at BK396)
         (try simp only [hl397002_85] at BK408)
         (try simp only [hl397002_85] at HO_390002)
         (try simp only [hl397002_85] at HO_409002)
         cases kq with
         | zero => exact absurd HA.out (by simp [laws_FnExactRunShop.j1])
         | succ kj85 =>
          have H := HA.out
          clear HA
          simp only [laws_FnExactRunShop.j1] at H
          by_cases c128 : x97_85 = true
          ·subst c128
           rw [if_pos rfl] at H
           exact absurd (H.trans (congrArg some HRT.out)) (by simp)
          ·replace c128 := Bool.eq_false_iff.mpr c128
           subst c128
           rw [if_neg (show ¬ (false = true) by decide)] at H
           replace H := Option.bind_eq_some_iff.mp H
           obtain ⟨⟨t426, t427⟩, A1290, H⟩ := H
           (try dsimp only at H)
           have A129 := Aside0.mk A1290
           clear A1290
           replace H := Option.bind_eq_some_iff.mp H
           obtain ⟨t428, A1300, H⟩ := H
           (try dsimp only at H)
           have A130 := Aside0.mk A1300
           clear A1300
           by_cases c131 : t428 < 0
           ·rw [if_pos c131] at H
            have c131b0 := decide_eq_true c131
            clear c131
            exact absurd (H.trans (congrArg some HRT.out)) (by simp)
           ·rw [if_neg c131] at H
            have c131b0 := decide_eq_false c131
            clear c131
            by_cases c132 : t428 = t426
            ·rw [if_pos c132] at H
             have c132b0 := beq_iff_eq.mpr c132
             have c132b1 := bne_eq_false_iff_eq.mpr c132
             clear c132
             replace H := Option.bind_eq_some_iff.mp H
             obtain ⟨⟨t429, t430, t431, t434⟩, A1330, H⟩ := H
             (try dsimp only at H)
             have A133 := Aside0.mk A1330
             clear A1330
             replace H := Option.bind_eq_some_iff.mp H
             obtain ⟨t435, A1340, H⟩ := H
             (try dsimp only at H)
             have A134 := Aside0.mk A1340
             clear A1340
             replace H := Option.bind_eq_some_iff.mp H
             obtain ⟨⟨t438, t439, t440, t443, t444, t445⟩, A1350, H⟩ := H
             (try dsimp only at H)
             have A135 := Aside0.mk A1350
             clear A1350
             have HC136 := Aside0.mk H
             clear H
             have hnb137 := NB408_369.out
             have hnc137 := NB369_408.out
             have hnb138 := NB408_389.out
             have hnc138 := NB389_408.out
             have hnb139 := NB408_396.out
             have hnc139 := NB396_408.out
             obtain ⟨hcz140_0, hcz140_1, hcz140_2, hcz140_3, hfz140_0, hfz140_1, hfz140_2, hfz140_3⟩ := bc4_ (w := wc) BK408
             go_upto_region 32 with (first | ((with_reducible refine gate_callee (f := 20) rfl ?_); refine goesB (some 100) Try.func20 #[.agg #[.int .i64 t400, .int .i64 t401, .slice Ao49 t402.length co49, .int .i64 t405], .int .i64 1] ?_; (with_reducible refine (laws_markShop.calls kj85 t400 t401 (fun k_ => some k_ = (.slice Ao49 t402.length co49 : Value).ownBlock) (.slice Ao49 t402.length co49) t402 t405 1 t426 t427 w _ ?side1 ?side2 A129.out).mono ?_); (case side1 => repeat (first | (with_reducible first | exact HB.out | apply below_alloc | apply pw_below_drewN | apply below_drew1 | refine below_set ?_ GE369.out | refine below_set ?_ GE389.out | refine below_set ?_ GE396.out | refine below_set ?_ GE408.out) | exact HB.out)); (case side2 => exact Kd.R_tight rfl HO_409002.out); rintro e w141 ⟨rfl, hy0, hb, hkp⟩; refine ⟨_, rfl, ?_⟩; replace HO_390002 := Aside0.mk (Kd.R_mono (ok' := fun k_ => some k_ ≠ (.slice Ao39 t422.length co39 : Value).ownBlock ∧ some k_ ≠ (.slice Ao49 t402.length co49 : Value).ownBlock) (Kd.R_keptB (HO_390002.out) hkp (fun k_ hk_ hs_ => (hk_.2) hs_)) (fun k_ hk_ => ⟨hk_.1.1, hk_.1.2⟩)); replace HO_397002 := Aside0.mk (Kd.R_mono (ok' := fun k_ => some k_ ≠ (.slice Ao32 t383.length co32 : Value).ownBlock ∧ some k_ ≠ (.slice Ao49 t402.length co49 : Value).ownBlock) (Kd.R_keptB (HO_397002.out) hkp (fun k_ hk_ hs_ => (hk_.2) hs_)) (fun k_ hk_ => ⟨hk_.1.1, hk_.1.2⟩)); replace BK369 := Aside0.mk (blk_kept (bk_ BK369) hkp (fun hs_ => (fun e_ => (Kd.R_ne HO_409002.out BK369.out (by decide)) e_) hs_)); replace BK389 := Aside0.mk (blk_kept (bk_ BK389) hkp (fun hs_ => (fun e_ => (Kd.R_ne HO_409002.out BK389.out (by decide)) e_) hs_)); replace BK396 := Aside0.mk (blk_kept (bk_ BK396) hkp (fun hs_ => (fun e_ => (Kd.R_ne HO_409002.out BK396.out (by decide)) e_) hs_)); replace BK408 := Aside0.mk (blk_kept (bk_ BK408) hkp (fun hs_ => (fun e_ => (Kd.R_ne HO_409002.out BK408.out (by decide)) e_) hs_)); replace HO_409002 := Aside0.mk (Kd.R_reok rfl hy0 (fun k_ e_ => HO_409002.out.1 k_ e_)); replace HB := Aside0.mk (hb); (try clear hb); (try clear hkp); (try clear hy0); obtain ⟨hcz142_0, hcz142_1, hcz142_2, hcz142_3, hfz142_0, hfz142_1, hfz142_2, hfz142_3⟩ := bc4_ (w := w141) BK408) | ((with_reducible refine gate_callee (f := 21) rfl ?_); refine goesL_ (some 103) rfl rfl Try.func21 (by kernel_rfl) rfl #[.agg #[.int .i64 t400, .int .i64 t401, .slice Ao49 t427.length co49, .int .i64 t405], .int .i64 1] rfl (by (try simp only [List.map_toArray, List.map_cons, List.map_nil]); first | done | (rw [show t427.length = t402.length from (Kd.R_reads' HO_409002.out).1.symm] <;> rfl) | rfl | (simp only [List.length_drop, List.length_take]; rfl)) ?_; (with_reducible refine (laws_heldShop.calls kj85 t400 t401 _ _ t427 t405 1 t428 _ ?side1 ?side2 A130.out).mono ?_); (case side1 => exact co_ (Kd.R_reads' HO_409002.out).2.2); (case side2 => rw [show t427.length = t402.length from (Kd.R_reads' HO_409002.out).1.symm]; exact (Kd.R_reads' HO_409002.out).2.1); rintro e w143 ⟨rfl, hb⟩; refine ⟨_, rfl, ?_⟩; replace HO_390002 := Aside0.mk (Kd.R_below (ra_ HO_390002) hb); replace HO_397002 := Aside0.mk (Kd.R_below (ra_ HO_397002) hb); replace HO_409002 := Aside0.mk (Kd.R_below (ra_ HO_409002) hb); replace BK369 := bb_ BK369 hb; replace BK389 := bb_ BK389 hb; replace BK396 := bb_ BK396 hb; replace BK408 := bb_ BK408 hb; replace HB := hb_ w hb; clear hb; have hnb144 := NB369_389.out; have hnc144 := NB389_369.out; have hnb145 := NB369_396.out; have hnc145 := NB396_369.out; obtain ⟨hcz146_0, hcz146_1, hcz146_2, hcz146_3, hfz146_0, hfz146_1, hfz146_2, hfz146_3⟩ := bc4_ (w := w143) BK369) | ((with_reducible refine gate_callee (f := 17) rfl ?_); refine goesB (some 111) Try.func17 #[.agg #[.int .i64 a0_0, .int .i64 a0_1, .slice A0_2 l0_2.length c0_2, .int .i64 a0_3]] ?_; (with_reducible refine (laws_toShop.calls kj85 a0_0 a0_1 _ _ l0_2 a0_3 t429 t430 t431 t434 _ ?side1 ?side2 A133.out).mono ?_); (case side1 => exact cb_ HR0_2 HB); (case side2 => exact HC0_2.out); rintro e w147 ⟨v432, rfl, ho0, hb⟩; refine ⟨_, rfl, ?_⟩; have HO433 := Aside0.mk (Kd.R_lower (Kd.R_new' (Kd.R_new' (Kd.R_new' ho0 (Kd.R_lt (ra_ HO_390002))) (Kd.R_lt (ra_ HO_397002))) (Kd.R_lt (ra_ HO_409002))) (below_size (bw_ w))); replace HO_390002 := Aside0.mk (Kd.R_elder' (ra_ HO_390002) (Kd.R_base ho0) hb); replace HO_397002 := Aside0.mk (Kd.R_elder' (ra_ HO_397002) (Kd.R_base ho0) hb); replace HO_409002 := Aside0.mk (Kd.R_elder' (ra_ HO_409002) (Kd.R_base ho0) hb); replace BK369 := bb_ BK369 hb; replace BK389 := bb_ BK389 hb; replace BK396 := bb_ BK396 hb; replace BK408 := bb_ BK408 hb; replace HB := hb_ w hb; (try clear hb); (try clear hb2); (try clear hk); (try clear hi); (try clear ho0)) | ((with_reducible refine gate_callee (f := 33) rfl ?_); refine goesB (some 113) Try.func33 #[.slice A1 l1.length c1] ?_; (with_reducible refine (laws_toShopStepS.calls kj85 _ _ l1 t435 _ ?side1 ?side2 A134.out).mono ?_); (case side1 => exact cb_ HR1 HB); (case side2 => exact HC1.out); rintro e w148 ⟨v436, rfl, ho0, hb⟩; refine ⟨_, rfl, ?_⟩; replace HO_390002 := Aside0.mk (Kd.R_below (ra_ HO_390002) hb); replace HO_397002 := Aside0.mk (Kd.R_below (ra_ HO_397002) hb); replace HO_409002 := Aside0.mk (Kd.R_below (ra_ HO_409002) hb); replace HO433 := Aside0.mk (Kd.R_below (ra_ HO433) hb); have HO437 := Aside0.mk (Kd.R_lower ho0 (below_size (bw_ w))); replace BK369 := bb_ BK369 hb; replace BK389 := bb_ BK389 hb; replace BK396 := bb_ BK396 hb; replace BK408 := bb_ BK408 hb; replace HB := hb_ w hb; (try clear hb); (try clear hb2); (try clear hk); (try clear hi); (try clear ho0); obtain ⟨Ao149, co149, eo149⟩ := Kd.R_slice HO433.out; subst eo149; obtain ⟨Ao150, co150, eo150⟩ := Kd.R_slice HO437.out; subst eo150) | ((with_reducible refine gate_callee (f := 11) rfl ?_); refine goesB (some 114) Try.func11 #[.agg #[.int .i64 t429, .int .i64 t430, .slice Ao149 t431.length co149, .int .i64 t434], .slice Ao150 t435.length co150] ?_; (with_reducible refine (impl_RunShop.calls kj85 t429 t430 _ _ t431 t434 _ _ t435 t438 t439 t440 t443 t444 t445 _ ?side1 ?side2 ?side3 ?side4 A135.out).mono ?_); (case side1 => exact co_ (Kd.R_reads' HO433.out).2.2); (case side2 => exact (Kd.R_reads' HO433.out).2.1); (case side3 => exact co_ (Kd.R_reads' HO437.out).2.2); (case side4 => exact (Kd.R_reads' HO437.out).2.1); rintro e w151 ⟨v441, rfl, ho0, hb⟩; refine ⟨_, rfl, ?_⟩; have HO442 := Aside0.mk (Kd.R_lower (Kd.R_new' (Kd.R_new' (Kd.R_new' (Kd.R_new' ho0 (Kd.R_lt (ra_ HO_390002))) (Kd.R_lt (ra_ HO_397002))) (Kd.R_lt (ra_ HO_409002))) (Kd.R_lt (ra_ HO433))) (below_size (bw_ w))); replace HO_390002 := Aside0.mk (Kd.R_elder' (ra_ HO_390002) (Kd.R_base ho0) hb); replace HO_397002 := Aside0.mk (Kd.R_elder' (ra_ HO_397002) (Kd.R_base ho0) hb); replace HO_409002 := Aside0.mk (Kd.R_elder' (ra_ HO_409002) (Kd.R_base ho0) hb); replace HO433 := Aside0.mk (Kd.R_elder' (ra_ HO433) (Kd.R_base ho0) hb); replace HO437 := Aside0.mk (Kd.R_below (ra_ HO437) hb); replace BK369 := bb_ BK369 hb; replace BK389 := bb_ BK389 hb; replace BK396 := bb_ BK396 hb; replace BK408 := bb_ BK408 hb; replace HB := hb_ w hb; (try clear hb); (try clear hb2); (try clear hk); (try clear hi); (try clear ho0)) | ((with_reducible refine gate_dst (N := 17) rfl ?_); refine box_ (N := 17) (cs := #[.int .i64 0, .int .i64 0, .slice none 0 0, .int .i64 0]) (t := 24) ?_; intro gb446 hg w152 hbox hb; have BK446 := Aside0.mk (hbox); have GW446 := gz_ w hg; have GE446 := gz_ w hg; have NB369_446 := ne_ hg BK369; have NB446_369 := en_ hg BK369; have NB389_446 := ne_ hg BK389; have NB446_389 := en_ hg BK389; have NB396_446 := ne_ hg BK396; have NB446_396 := en_ hg BK396; have NB408_446 := ne_ hg BK408; have NB446_408 := en_ hg BK408; replace HO_390002 := Aside0.mk (Kd.R_below (ra_ HO_390002) hb); replace HO_397002 := Aside0.mk (Kd.R_below (ra_ HO_397002) hb); replace HO_409002 := Aside0.mk (Kd.R_below (ra_ HO_409002) hb); replace HO433 := Aside0.mk (Kd.R_below (ra_ HO433) hb); replace HO437 := Aside0.mk (Kd.R_below (ra_ HO437) hb); replace HO442 := Aside0.mk (Kd.R_below (ra_ HO442) hb); replace BK369 := bb_ BK369 hb; replace BK389 := bb_ BK389 hb; replace BK396 := bb_ BK396 hb; replace BK408 := bb_ BK408 hb; replace HB := hb_ w hb; clear hb hbox hg; have hnb153 := NB446_369.out; have hnc153 := NB369_446.out; have hnb154 := NB446_389.out; have hnc154 := NB389_446.out; have hnb155 := NB446_396.out; have hnc155 := NB396_446.out; have hnb156 := NB446_408.out; have hnc156 := NB408_446.out; obtain ⟨hcz157_0, hcz157_1, hcz157_2, hcz157_3, hfz157_0, hfz157_1, hfz157_2, hfz157_3⟩ := bc4_ (w := w152) BK446; obtain ⟨Ao158, co158, eo158⟩ := Kd.R_slice HO442.out; subst eo158))
             (try simp only [Act.put, List.setIfInBounds_toArray, List.set_cons_zero, List.set_cons_succ])
             go_cut [131] (fun v131 wc => ∃ (kq : Nat) (x131_135 : Bool), v131 = .bool x131_135 ∧ Aside0 (laws_FnExactRunShop.j2 kq t426 x131_135 t400 t401 t427 t405 = some r) ∧ Aside0 (kq ≤ kj85) ∧ Aside0 (Kd.R k34 34 wc w.heap.size (fun k_ => some k_ ≠ ((.slice Ao39 t422.length co39) : Value).ownBlock ∧ some k_ ≠ ((.slice Ao49 t402.length co49) : Value).ownBlock ∧ some k_ ≠ ((.slice Ao158 t440.length co158) : Value).ownBlock) (.slice Ao32 t383.length co32) t383) ∧ Aside0 (Kd.R k34 34 wc w.heap.size (fun k_ => some k_ ≠ ((.slice Ao32 t383.length co32) : Value).ownBlock ∧ some k_ ≠ ((.slice Ao49 t402.length co49) : Value).ownBlock ∧ some k_ ≠ ((.slice Ao158 t440.length co158) : Value).ownBlock) (.slice Ao39 t422.length co39) t422) ∧ Aside0 (Kd.R k34 34 wc w.heap.size (fun k_ => some k_ ≠ ((.slice Ao32 t383.length co32) : Value).ownBlock ∧ some k_ ≠ ((.slice Ao39 t422.length co39) : Value).ownBlock ∧ some k_ ≠ ((.slice Ao158 t440.length co158) : Value).ownBlock) (.slice Ao49 t402.length co49) t427) ∧ Aside0 (Kd.R k34 34 wc w.heap.size (fun k_ => some k_ ≠ ((.slice Ao32 t383.length co32) : Value).ownBlock ∧ some k_ ≠ ((.slice Ao39 t422.length co39) : Value).ownBlock ∧ some k_ ≠ ((.slice Ao49 t402.length co49) : Value).ownBlock) (.slice Ao158 t440.length co158) t440) ∧ Aside0 (wc.heap[gb369]? = some (.cells #[.int .i64 a0_0, .int .i64 a0_1, (.slice A0_2 l0_2.length c0_2), .int .i64 a0_3] 38 (0, 0))) ∧ Aside0 (wc.heap[gb389]? = some (.cells #[.int .i64 t381, .int .i64 t382, (.slice Ao32 t383.length co32), .int .i64 t386] 24 (0, 0))) ∧ Aside0 (wc.heap[gb396]? = some (.cells #[.int .i64 t390, .int .i64 t391, (.slice Ao39 t422.length co39), .int .i64 t395] 24 (0, 0))) ∧ Aside0 (wc.heap[gb408]? = some (.cells #[.int .i64 t400, .int .i64 t401, (.slice Ao49 t402.length co49), .int .i64 t405] 24 (0, 0))) ∧ Aside0 (wc.heap[gb446]? = some (.cells #[.int .i64 t438, .int .i64 t439, (.slice Ao158 t440.length co158), .int .i64 t443] 24 (0, 0))) ∧ Aside0 (Below w.heap.size w wc))
             case first =>
              have H := HC136.out
              clear HC136
              replace H := Option.bind_eq_some_iff.mp H
              obtain ⟨t447, A1590, H⟩ := H
              (try dsimp only at H)
              have A159 := Aside0.mk A1590
              clear A1590
              by_cases c160 : t447 = true
              ·subst c160
               rw [if_pos rfl] at H
               by_cases c161 : t444 = t387
               ·rw [if_pos c161] at H
                have c161b0 := beq_iff_eq.mpr c161
                have c161b1 := bne_eq_false_iff_eq.mpr c161
                clear c161
                (first | rw [c161b0] | (simp only [i64_w, i32_w]; rw [c161b0]) | skip)
                have H' := Aside0.mk H
                clear H
                have hnb162 := NB446_369.out
                have hnc162 := NB369_446.out
                have hnb163 := NB446_389.out
                have hnc163 := NB389_446.out
                have hnb164 := NB446_396.out
                have hnc164 := NB396_446.out
                have hnb165 := NB446_408.out
                have hnc165 := NB408_446.out
                obtain ⟨hcz166_0, hcz166_1, hcz166_2, hcz166_3, hfz166_0, hfz166_1, hfz166_2, hfz166_3⟩ := bc4_ (w := w152) BK446
                have hnb167 := NB389_369.out
                have hnc167 := NB369_389.out
                have hnb168 := NB389_396.out
                have hnc168 := NB396_389.out
                have hnb169 := NB389_408.out
                have hnc169 := NB408_389.out
                obtain ⟨hcz170_0, hcz170_1, hcz170_2, hcz170_3, hfz170_0, hfz170_1, hfz170_2, hfz170_3⟩ := bc4_ (w := w152) BK389
                go_wp2_with (first | ((with_reducible refine gate_callee (f := 19) rfl ?_); refine goesB (some 120) Try.func19 #[.agg #[.int .i64 t438, .int .i64 t439, .slice Ao158 t440.length co158, .int .i64 t443], .agg #[.int .i64 t381, .int .i64 t382, .slice Ao32 t383.length co32, .int .i64 t386]] ?_; (with_reducible refine (laws_eqShop.calls kj85 t438 t439 _ _ t440 t443 t381 t382 _ _ t383 t386 true _ ?side1 ?side2 ?side3 ?side4 A159.out).mono ?_); (case side1 => refine (Kd.R_reads' (e := 34) (base := w.heap.size) (ok := fun k_ => ((((True ∧ some k_ ≠ (.slice Ao32 t383.length co32 : Value).ownBlock) ∧ some k_ ≠ (.slice Ao39 t422.length co39 : Value).ownBlock) ∧ some k_ ≠ (.slice Ao49 t402.length co49 : Value).ownBlock) ∧ some k_ ≠ (.slice Ao149 t431.length co149 : Value).ownBlock)) (n := t440.length) (c := co158) ?_).2.2; exact (by exact rf_ (Kd.R_types HO442.out BK446.out (by decide)) (fun _ h_ => h_.1))); (case side2 => exact (Kd.R_reads' HO442.out).2.1); (case side3 => refine (Kd.R_reads' (e := 34) (base := w.heap.size) (ok := fun k_ => (((some k_ ≠ (.slice Ao39 t422.length co39 : Value).ownBlock ∧ some k_ ≠ (.slice Ao49 t402.length co49 : Value).ownBlock) ∧ some k_ ≠ (.slice Ao149 t431.length co149 : Value).ownBlock) ∧ some k_ ≠ (.slice Ao158 t440.length co158 : Value).ownBlock)) (n := t383.length) (c := co32) ?_).2.2; exact (by exact rf_ (Kd.R_types HO_390002.out BK446.out (by decide)) (fun _ h_ => h_.1))); (case side4 => exact (Kd.R_reads' HO_390002.out).2.1); rintro e w171 ⟨rfl, hb⟩; refine ⟨_, rfl, ?_⟩; replace HO_390002 := Aside0.mk (Kd.R_below (by exact rf_ (Kd.R_types HO_390002.out BK446.out (by decide)) (fun _ h_ => h_.1)) hb); replace HO_397002 := Aside0.mk (Kd.R_below (by exact rf_ (Kd.R_types HO_397002.out BK446.out (by decide)) (fun _ h_ => h_.1)) hb); replace HO_409002 := Aside0.mk (Kd.R_below (by exact rf_ (Kd.R_types HO_409002.out BK446.out (by decide)) (fun _ h_ => h_.1)) hb); replace HO433 := Aside0.mk (Kd.R_below (by exact rf_ (Kd.R_types HO433.out BK446.out (by decide)) (fun _ h_ => h_.1)) hb); replace HO437 := Aside0.mk (Kd.R_below (by exact rf_ (Kd.R_types HO437.out BK446.out (by decide)) (fun _ h_ => h_.1)) hb); replace HO442 := Aside0.mk (Kd.R_below (by exact rf_ (Kd.R_types HO442.out BK446.out (by decide)) (fun _ h_ => h_.1)) hb); replace BK369 := bb_ BK369 hb; replace BK389 := bb_ BK389 hb; replace BK396 := bb_ BK396 hb; replace BK408 := bb_ BK408 hb; replace BK446 := Aside0.mk (blk_below (g := gb446) (o := .cells #[.int .i64 t438, .int .i64 t439, .slice Ao158 t440.length co158, .int .i64 t443] 24 (0, 0)) (bq_ BK446) hb); replace HB := hb_ w hb; clear hb))
                go_meet
                case rel => exact ⟨_, ((t445 != t388)), (by first | rfl | (simp; done) | (simp [*]; done)), H', ⟨by have := HJ18.out; have := HJ85.out; first | omega | exact Nat.le_refl _⟩, ⟨by (try simp only [hl397002_85]); (with_reducible repeat (first | apply Kd.R_alloc | apply Kd.R_drewN | apply Kd.R_drew)); exact Kd.R_mono HO_390002.out (fun _ hk => ⟨hk.1.1.1, ⟨hk.1.1.2, hk.2⟩⟩)⟩, ⟨by (try simp only [hl397002_85]); (with_reducible repeat (first | apply Kd.R_alloc | apply Kd.R_drewN | apply Kd.R_drew)); exact Kd.R_mono HO_397002.out (fun _ hk => ⟨hk.1.1.1, ⟨hk.1.1.2, hk.2⟩⟩)⟩, ⟨by (try simp only [hl397002_85]); (with_reducible repeat (first | apply Kd.R_alloc | apply Kd.R_drewN | apply Kd.R_drew)); exact Kd.R_mono HO_409002.out (fun _ hk => ⟨hk.1.1.1, ⟨hk.1.1.2, hk.2⟩⟩)⟩, ⟨by (try simp only [hl397002_85]); (with_reducible repeat (first | apply Kd.R_alloc | apply Kd.R_drewN | apply Kd.R_drew)); exact Kd.R_mono HO442.out (fun _ hk => ⟨hk.1.1.1.2, ⟨hk.1.1.2, hk.1.2⟩⟩)⟩, ⟨by (try simp only [hl397002_85]); (with_reducible repeat (first | refine blk_drewN ?_ _ | refine blk_drew ?_ | refine blk_alloc ?_ _)); exact BK369.out⟩, ⟨by (try simp only [hl397002_85]); (with_reducible repeat (first | refine blk_drewN ?_ _ | refine blk_drew ?_ | refine blk_alloc ?_ _)); exact BK389.out⟩, ⟨by (try simp only [hl397002_85]); (with_reducible repeat (first | refine blk_drewN ?_ _ | refine blk_drew ?_ | refine blk_alloc ?_ _)); exact BK396.out⟩, ⟨by (try simp only [hl397002_85]); (with_reducible repeat (first | refine blk_drewN ?_ _ | refine blk_drew ?_ | refine blk_alloc ?_ _)); exact BK408.out⟩, ⟨by (try simp only [hl397002_85]); (with_reducible repeat (first | refine blk_drewN ?_ _ | refine blk_drew ?_ | refine blk_alloc ?_ _)); exact BK446.out⟩, ⟨(bw_ w)⟩⟩
               ·rw [if_neg c161] at H
                have c161b0 := beq_eq_false_iff_ne.mpr c161
                have c161b1 := bne_iff_ne.mpr c161
                (first | rw [c161b0] | (simp only [i64_w, i32_w]; rw [c161b0]) | skip)
                have H' := Aside0.mk H
                clear H
                have hnb172 := NB446_369.out
                have hnc172 := NB369_446.out
                have hnb173 := NB446_389.out
                have hnc173 := NB389_446.out
                have hnb174 := NB446_396.out
                have hnc174 := NB396_446.out
                have hnb175 := NB446_408.out
                have hnc175 := NB408_446.out
                obtain ⟨hcz176_0, hcz176_1, hcz176_2, hcz176_3, hfz176_0, hfz176_1, hfz176_2, hfz176_3⟩ := bc4_ (w := w152) BK446
                have hnb177 := NB389_369.out
                have hnc177 := NB369_389.out
                have hnb178 := NB389_396.out
                have hnc178 := NB396_389.out
                have hnb179 := NB389_408.out
                have hnc179 := NB408_389.out
                obtain ⟨hcz180_0, hcz180_1, hcz180_2, hcz180_3, hfz180_0, hfz180_1, hfz180_2, hfz180_3⟩ := bc4_ (w := w152) BK389
                go_wp2_with (first | ((with_reducible refine gate_callee (f := 19) rfl ?_); refine goesB (some 120) Try.func19 #[.agg #[.int .i64 t438, .int .i64 t439, .slice Ao158 t440.length co158, .int .i64 t443], .agg #[.int .i64 t381, .int .i64 t382, .slice Ao32 t383.length co32, .int .i64 t386]] ?_; (with_reducible refine (laws_eqShop.calls kj85 t438 t439 _ _ t440 t443 t381 t382 _ _ t383 t386 true _ ?side1 ?side2 ?side3 ?side4 A159.out).mono ?_); (case side1 => refine (Kd.R_reads' (e := 34) (base := w.heap.size) (ok := fun k_ => ((((True ∧ some k_ ≠ (.slice Ao32 t383.length co32 : Value).ownBlock) ∧ some k_ ≠ (.slice Ao39 t422.length co39 : Value).ownBlock) ∧ some k_ ≠ (.slice Ao49 t402.length co49 : Value).ownBlock) ∧ some k_ ≠ (.slice Ao149 t431.length co149 : Value).ownBlock)) (n := t440.length) (c := co158) ?_).2.2; exact (by exact rf_ (Kd.R_types HO442.out BK446.out (by decide)) (fun _ h_ => h_.1))); (case side2 => exact (Kd.R_reads' HO442.out).2.1); (case side3 => refine (Kd.R_reads' (e := 34) (base := w.heap.size) (ok := fun k_ => (((some k_ ≠ (.slice Ao39 t422.length co39 : Value).ownBlock ∧ some k_ ≠ (.slice Ao49 t402.length co49 : Value).ownBlock) ∧ some k_ ≠ (.slice Ao149 t431.length co149 : Value).ownBlock) ∧ some k_ ≠ (.slice Ao158 t440.length co158 : Value).ownBlock)) (n := t383.length) (c := co32) ?_).2.2; exact (by exact rf_ (Kd.R_types HO_390002.out BK446.out (by decide)) (fun _ h_ => h_.1))); (case side4 => exact (Kd.R_reads' HO_390002.out).2.1); rintro e w181 ⟨rfl, hb⟩; refine ⟨_, rfl, ?_⟩; replace HO_390002 := Aside0.mk (Kd.R_below (by exact rf_ (Kd.R_types HO_390002.out BK446.out (by decide)) (fun _ h_ => h_.1)) hb); replace HO_397002 := Aside0.mk (Kd.R_below (by exact rf_ (Kd.R_types HO_397002.out BK446.out (by decide)) (fun _ h_ => h_.1)) hb); replace HO_409002 := Aside0.mk (Kd.R_below (by exact rf_ (Kd.R_types HO_409002.out BK446.out (by decide)) (fun _ h_ => h_.1)) hb); replace HO433 := Aside0.mk (Kd.R_below (by exact rf_ (Kd.R_types HO433.out BK446.out (by decide)) (fun _ h_ => h_.1)) hb); replace HO437 := Aside0.mk (Kd.R_below (by exact rf_ (Kd.R_types HO437.out BK446.out (by decide)) (fun _ h_ => h_.1)) hb); replace HO442 := Aside0.mk (Kd.R_below (by exact rf_ (Kd.R_types HO442.out BK446.out (by decide)) (fun _ h_ => h_.1)) hb); replace BK369 := bb_ BK369 hb; replace BK389 := bb_ BK389 hb; replace BK396 := bb_ BK396 hb; replace BK408 := bb_ BK408 hb; replace BK446 := Aside0.mk (blk_below (g := gb446) (o := .cells #[.int .i64 t438, .int .i64 t439, .slice Ao158 t440.length co158, .int .i64 t443] 24 (0, 0)) (bq_ BK446) hb); replace HB := hb_ w hb; clear hb))
                go_meet
                case rel => exact ⟨_, (true), (by first | rfl | (simp; done) | (simp [*]; done)), H', ⟨by have := HJ18.out; have := HJ85.out; first | omega | exact Nat.le_refl _⟩, ⟨by (try simp only [hl397002_85]); (with_reducible repeat (first | apply Kd.R_alloc | apply Kd.R_drewN | apply Kd.R_drew)); exact Kd.R_mono HO_390002.out (fun _ hk => ⟨hk.1.1.1, ⟨hk.1.1.2, hk.2⟩⟩)⟩, ⟨by (try simp only [hl397002_85]); (with_reducible repeat (first | apply Kd.R_alloc | apply Kd.R_drewN | apply Kd.R_drew)); exact Kd.R_mono HO_397002.out (fun _ hk => ⟨hk.1.1.1, ⟨hk.1.1.2, hk.2⟩⟩)⟩, ⟨by (try simp only [hl397002_85]); (with_reducible repeat (first | apply Kd.R_alloc | apply Kd.R_drewN | apply Kd.R_drew)); exact Kd.R_mono HO_409002.out (fun _ hk => ⟨hk.1.1.1, ⟨hk.1.1.2, hk.2⟩⟩)⟩, ⟨by (try simp only [hl397002_85]); (with_reducible repeat (first | apply Kd.R_alloc | apply Kd.R_drewN | apply Kd.R_drew)); exact Kd.R_mono HO442.out (fun _ hk => ⟨hk.1.1.1.2, ⟨hk.1.1.2, hk.1.2⟩⟩)⟩, ⟨by (try simp only [hl397002_85]); (with_reducible repeat (first | refine blk_drewN ?_ _ | refine blk_drew ?_ | refine blk_alloc ?_ _)); exact BK369.out⟩, ⟨by (try simp only [hl397002_85]); (with_reducible repeat (first | refine blk_drewN ?_ _ | refine blk_drew ?_ | refine blk_alloc ?_ _)); exact BK389.out⟩, ⟨by (try simp only [hl397002_85]); (with_reducible repeat (first | refine blk_drewN ?_ _ | refine blk_drew ?_ | refine blk_alloc ?_ _)); exact BK396.out⟩, ⟨by (try simp only [hl397002_85]); (with_reducible repeat (first | refine blk_drewN ?_ _ | refine blk_drew ?_ | refine blk_alloc ?_ _)); exact BK408.out⟩, ⟨by (try simp only [hl397002_85]); (with_reducible repeat (first | refine blk_drewN ?_ _ | refine blk_drew ?_ | refine blk_alloc ?_ _)); exact BK446.out⟩, ⟨(bw_ w)⟩⟩
              ·replace c160 := Bool.eq_false_iff.mpr c160
               subst c160
               rw [if_neg (show ¬ (false = true) by decide)] at H
               have H' := Aside0.mk H
               clear H
               have hnb182 := NB446_369.out
               have hnc182 := NB369_446.out
               have hnb183 := NB446_389.out
               have hnc183 := NB389_446.out
               have hnb184 := NB446_396.out
               have hnc184 := NB396_446.out
               have hnb185 := NB446_408.out
               have hnc185 := NB408_446.out
               obtain ⟨hcz186_0, hcz186_1, hcz186_2, hcz186_3, hfz186_0, hfz186_1, hfz186_2, hfz186_3⟩ := bc4_ (w := w152) BK446
               have hnb187 := NB389_369.out
               have hnc187 := NB369_389.out
               have hnb188 := NB389_396.out
               have hnc188 := NB396_389.out
               have hnb189 := NB389_408.out
               have hnc189 := NB408_389.out
               obtain ⟨hcz190_0, hcz190_1, hcz190_2, hcz190_3, hfz190_0, hfz190_1, hfz190_2, hfz190_3⟩ := bc4_ (w := w152) BK389
               go_wp2_with (first | ((with_reducible refine gate_callee (f := 19) rfl ?_); refine goesB (some 120) Try.func19 #[.agg #[.int .i64 t438, .int .i64 t439, .slice Ao158 t440.length co158, .int .i64 t443], .agg #[.int .i64 t381, .int .i64 t382, .slice Ao32 t383.length co32, .int .i64 t386]] ?_; (with_reducible refine (laws_eqShop.calls kj85 t438 t439 _ _ t440 t443 t381 t382 _ _ t383 t386 false _ ?side1 ?side2 ?side3 ?side4 A159.out).mono ?_); (case side1 => refine (Kd.R_reads' (e := 34) (base := w.heap.size) (ok := fun k_ => ((((True ∧ some k_ ≠ (.slice Ao32 t383.length co32 : Value).ownBlock) ∧ some k_ ≠ (.slice Ao39 t422.length co39 : Value).ownBlock) ∧ some k_ ≠ (.slice Ao49 t402.length co49 : Value).ownBlock) ∧ some k_ ≠ (.slice Ao149 t431.length co149 : Value).ownBlock)) (n := t440.length) (c := co158) ?_).2.2; exact (by exact rf_ (Kd.R_types HO442.out BK446.out (by decide)) (fun _ h_ => h_.1))); (case side2 => exact (Kd.R_reads' HO442.out).2.1); (case side3 => refine (Kd.R_reads' (e := 34) (base := w.heap.size) (ok := fun k_ => (((some k_ ≠ (.slice Ao39 t422.length co39 : Value).ownBlock ∧ some k_ ≠ (.slice Ao49 t402.length co49 : Value).ownBlock) ∧ some k_ ≠ (.slice Ao149 t431.length co149 : Value).ownBlock) ∧ some k_ ≠ (.slice Ao158 t440.length co158 : Value).ownBlock)) (n := t383.length) (c := co32) ?_).2.2; exact (by exact rf_ (Kd.R_types HO_390002.out BK446.out (by decide)) (fun _ h_ => h_.1))); (case side4 => exact (Kd.R_reads' HO_390002.out).2.1); rintro e w191 ⟨rfl, hb⟩; refine ⟨_, rfl, ?_⟩; replace HO_390002 := Aside0.mk (Kd.R_below (by exact rf_ (Kd.R_types HO_390002.out BK446.out (by decide)) (fun _ h_ => h_.1)) hb); replace HO_397002 := Aside0.mk (Kd.R_below (by exact rf_ (Kd.R_types HO_397002.out BK446.out (by decide)) (fun _ h_ => h_.1)) hb); replace HO_409002 := Aside0.mk (Kd.R_below (by exact rf_ (Kd.R_types HO_409002.out BK446.out (by decide)) (fun _ h_ => h_.1)) hb); replace HO433 := Aside0.mk (Kd.R_below (by exact rf_ (Kd.R_types HO433.out BK446.out (by decide)) (fun _ h_ => h_.1)) hb); replace HO437 := Aside0.mk (Kd.R_below (by exact rf_ (Kd.R_types HO437.out BK446.out (by decide)) (fun _ h_ => h_.1)) hb); replace HO442 := Aside0.mk (Kd.R_below (by exact rf_ (Kd.R_types HO442.out BK446.out (by decide)) (fun _ h_ => h_.1)) hb); replace BK369 := bb_ BK369 hb; replace BK389 := bb_ BK389 hb; replace BK396 := bb_ BK396 hb; replace BK408 := bb_ BK408 hb; replace BK446 := Aside0.mk (blk_below (g := gb446) (o := .cells #[.int .i64 t438, .int .i64 t439, .slice Ao158 t440.length co158, .int .i64 t443] 24 (0, 0)) (bq_ BK446) hb); replace HB := hb_ w hb; clear hb))
               go_meet
               case rel => exact ⟨_, (true), (by first | rfl | (simp; done) | (simp [*]; done)), H', ⟨by have := HJ18.out; have := HJ85.out; first | omega | exact Nat.le_refl _⟩, ⟨by (try simp only [hl397002_85]); (with_reducible repeat (first | apply Kd.R_alloc | apply Kd.R_drewN | apply Kd.R_drew)); exact Kd.R_mono HO_390002.out (fun _ hk => ⟨hk.1.1.1, ⟨hk.1.1.2, hk.2⟩⟩)⟩, ⟨by (try simp only [hl397002_85]); (with_reducible repeat (first | apply Kd.R_alloc | apply Kd.R_drewN | apply Kd.R_drew)); exact Kd.R_mono HO_397002.out (fun _ hk => ⟨hk.1.1.1, ⟨hk.1.1.2, hk.2⟩⟩)⟩, ⟨by (try simp only [hl397002_85]); (with_reducible repeat (first | apply Kd.R_alloc | apply Kd.R_drewN | apply Kd.R_drew)); exact Kd.R_mono HO_409002.out (fun _ hk => ⟨hk.1.1.1, ⟨hk.1.1.2, hk.2⟩⟩)⟩, ⟨by (try simp only [hl397002_85]); (with_reducible repeat (first | apply Kd.R_alloc | apply Kd.R_drewN | apply Kd.R_drew)); exact Kd.R_mono HO442.out (fun _ hk => ⟨hk.1.1.1.2, ⟨hk.1.1.2, hk.1.2⟩⟩)⟩, ⟨by (try simp only [hl397002_85]); (with_reducible repeat (first | refine blk_drewN ?_ _ | refine blk_drew ?_ | refine blk_alloc ?_ _)); exact BK369.out⟩, ⟨by (try simp only [hl397002_85]); (with_reducible repeat (first | refine blk_drewN ?_ _ | refine blk_drew ?_ | refine blk_alloc ?_ _)); exact BK389.out⟩, ⟨by (try simp only [hl397002_85]); (with_reducible repeat (first | refine blk_drewN ?_ _ | refine blk_drew ?_ | refine blk_alloc ?_ _)); exact BK396.out⟩, ⟨by (try simp only [hl397002_85]); (with_reducible repeat (first | refine blk_drewN ?_ _ | refine blk_drew ?_ | refine blk_alloc ?_ _)); exact BK408.out⟩, ⟨by (try simp only [hl397002_85]); (with_reducible repeat (first | refine blk_drewN ?_ _ | refine blk_drew ?_ | refine blk_alloc ?_ _)); exact BK446.out⟩, ⟨(bw_ w)⟩⟩
             case rest =>
              clear HC136
              try clear c1
              try clear c2
              try clear p2
              try clear c3
              try clear c4
              try clear c4b0
              try clear c5
              try clear c6
              try clear c7
              try clear c8
              try clear c9
              try clear c9b0
              try clear c10
              try clear c11
              try clear c12
              try clear c13
              try clear c14
              try clear c15
              try clear c16
              try clear c17
              try clear c18
              try clear c19
              try clear c20
              try clear c21
              try clear c30
              try clear c32
              try clear c33
              try clear c34
              try clear c35
              try clear c36
              try clear c37
              try clear c45
              try clear c46
              try clear c47
              try clear c51
              try clear c52
              try clear c52b0
              try clear c52b1
              try clear c53
              try clear c54
              try clear c55
              try clear c57
              try clear c58
              try clear c61
              try clear c62
              try clear c63
              try clear c65
              try clear c66
              try clear c69
              try clear c70
              try clear c71
              try clear c73
              try clear c74
              try clear c77
              try clear c80
              try clear c83
              try clear c94
              try clear c95
              try clear c96
              try clear c100
              try clear c100b0
              try clear c102
              try clear c103
              try clear c103b0
              try clear c103b1
              try clear c104
              try clear c105
              try clear c106
              try clear c108
              try clear c109
              try clear c112
              try clear c113
              try clear c114
              try clear c116
              try clear c117
              try clear c120
              try clear c121
              try clear c122
              try clear c124
              try clear c125
              try clear c128
              try clear c131
              try clear c131b0
              try clear c132
              try clear c132b0
              try clear c132b1
              try clear c137
              try clear c138
              try clear c139
              try clear c144
              try clear c145
              try clear c153
              try clear c154
              try clear c155
              try clear c156
              try clear c160
              try clear c161
              try clear c161b0
              try clear c161b1
              try clear c162
              try clear c163
              try clear c164
              try clear c165
              try clear c167
              try clear c168
              try clear c169
              try clear c172
              try clear c173
              try clear c174
              try clear c175
              try clear c177
              try clear c178
              try clear c179
              try clear c182
              try clear c183
              try clear c184
              try clear c185
              try clear c187
              try clear c188
              try clear c189
              try clear hcz107_0 hcz107_1 hcz107_2 hcz107_3
              try clear hcz110_0 hcz110_1 hcz110_2 hcz110_3
              try clear hcz115_0 hcz115_1 hcz115_2 hcz115_3
              try clear hcz118_0 hcz118_1 hcz118_2 hcz118_3
              try clear hcz11_0 hcz11_1 hcz11_2 hcz11_3
              try clear hcz123_0 hcz123_1 hcz123_2 hcz123_3
              try clear hcz126_0 hcz126_1 hcz126_2 hcz126_3
              try clear hcz140_0 hcz140_1 hcz140_2 hcz140_3
              try clear hcz142_0 hcz142_1 hcz142_2 hcz142_3
              try clear hcz146_0 hcz146_1 hcz146_2 hcz146_3
              try clear hcz157_0 hcz157_1 hcz157_2 hcz157_3
              try clear hcz166_0 hcz166_1 hcz166_2 hcz166_3
              try clear hcz170_0 hcz170_1 hcz170_2 hcz170_3
              try clear hcz176_0 hcz176_1 hcz176_2 hcz176_3
              try clear hcz180_0 hcz180_1 hcz180_2 hcz180_3
              try clear hcz186_0 hcz186_1 hcz186_2 hcz186_3
              try clear hcz190_0 hcz190_1 hcz190_2 hcz190_3
              try clear hcz21_0 hcz21_1 hcz21_2 hcz21_3
              try clear hcz23_0 hcz23_1 hcz23_2 hcz23_3
              try clear hcz31_0 hcz31_1 hcz31_2 hcz31_3
              try clear hcz33_0 hcz33_1 hcz33_2 hcz33_3
              try clear hcz38_0 hcz38_1 hcz38_2 hcz38_3
              try clear hcz41_0 hcz41_1 hcz41_2 hcz41_3
              try clear hcz48_0 hcz48_1 hcz48_2 hcz48_3
              try clear hcz56_0 hcz56_1 hcz56_2 hcz56_3
              try clear hcz59_0 hcz59_1 hcz59_2 hcz59_3
              try clear hcz64_0 hcz64_1 hcz64_2 hcz64_3
              try clear hcz67_0 hcz67_1 hcz67_2 hcz67_3
              try clear hcz6_0 hcz6_1 hcz6_2 hcz6_3
              try clear hcz72_0 hcz72_1 hcz72_2 hcz72_3
              try clear hcz75_0 hcz75_1 hcz75_2 hcz75_3
              try clear hcz97_0 hcz97_1 hcz97_2 hcz97_3
              try clear hfz107_0 hfz107_1 hfz107_2 hfz107_3
              try clear hfz110_0 hfz110_1 hfz110_2 hfz110_3
              try clear hfz115_0 hfz115_1 hfz115_2 hfz115_3
              try clear hfz118_0 hfz118_1 hfz118_2 hfz118_3
              try clear hfz11_0 hfz11_1 hfz11_2 hfz11_3
              try clear hfz123_0 hfz123_1 hfz123_2 hfz123_3
              try clear hfz126_0 hfz126_1 hfz126_2 hfz126_3
              try clear hfz140_0 hfz140_1 hfz140_2 hfz140_3
              try clear hfz142_0 hfz142_1 hfz142_2 hfz142_3
              try clear hfz146_0 hfz146_1 hfz146_2 hfz146_3
              try clear hfz157_0 hfz157_1 hfz157_2 hfz157_3
              try clear hfz166_0 hfz166_1 hfz166_2 hfz166_3
              try clear hfz170_0 hfz170_1 hfz170_2 hfz170_3
              try clear hfz176_0 hfz176_1 hfz176_2 hfz176_3
              try clear hfz180_0 hfz180_1 hfz180_2 hfz180_3
              try clear hfz186_0 hfz186_1 hfz186_2 hfz186_3
              try clear hfz190_0 hfz190_1 hfz190_2 hfz190_3
              try clear hfz21_0 hfz21_1 hfz21_2 hfz21_3
              try clear hfz23_0 hfz23_1 hfz23_2 hfz23_3
              try clear hfz31_0 hfz31_1 hfz31_2 hfz31_3
              try clear hfz33_0 hfz33_1 hfz33_2 hfz33_3
              try clear hfz38_0 hfz38_1 hfz38_2 hfz38_3
              try clear hfz41_0 hfz41_1 hfz41_2 hfz41_3
              try clear hfz48_0 hfz48_1 hfz48_2 hfz48_3
              try clear hfz56_0 hfz56_1 hfz56_2 hfz56_3
              try clear hfz59_0 hfz59_1 hfz59_2 hfz59_3
              try clear hfz64_0 hfz64_1 hfz64_2 hfz64_3
              try clear hfz67_0 hfz67_1 hfz67_2 hfz67_3
              try clear hfz6_0 hfz6_1 hfz6_2 hfz6_3
              try clear hfz72_0 hfz72_1 hfz72_2 hfz72_3
              try clear hfz75_0 hfz75_1 hfz75_2 hfz75_3
              try clear hfz97_0 hfz97_1 hfz97_2 hfz97_3
              try clear p2
              obtain ⟨kq, x131_135, rfl, HA, HJ135, HO_390002, HO_397002, HO_409002, HO_447002, BK369, BK389, BK396, BK408, BK446, HB⟩ := hcut
              have hl409002_135 := (Kd.R_reads' HO_409002.out).1
              rw [hl409002_135] at HO_409002
              (try simp only [hl409002_135])
              (try simp only [hl409002_135] at BK369)
              (try simp only [hl409002_135] at BK389)
              (try simp only [hl409002_135] at BK396)
              (try simp only [hl409002_135] at BK408)
              (try simp only [hl409002_135] at BK446)
              (try simp only [hl409002_135] at HO_390002)
              (try simp only [hl409002_135] at HO_397002)
              (try simp only [hl409002_135] at HO_447002)
              cases kq with
              | zero => exact absurd HA.out (by simp [laws_FnExactRunShop.j2])
              | succ kj135 =>
               have H := HA.out
               clear HA
               simp only [laws_FnExactRunShop.j2] at H
               by_cases c192 : x131_135 = true
               ·subst c192
                rw [if_pos rfl] at H
                exact absurd (H.trans (congrArg some HRT.out)) (by simp)
               ·replace c192 := Bool.eq_false_iff.mpr c192
                subst c192
                rw [if_neg (show ¬ (false = true) by decide)] at H
                replace H := Option.bind_eq_some_iff.mp H
                obtain ⟨t448, A1930, H⟩ := H
                (try dsimp only at H)
                have A193 := Aside0.mk A1930
                clear A1930
                by_cases c194 : t448 < 0
                ·rw [if_pos c194] at H
                 have c194b0 := decide_eq_true c194
                 clear c194
                 exact absurd (H.trans (congrArg some HRT.out)) (by simp)
                ·rw [if_neg c194] at H
                 have c194b0 := decide_eq_false c194
                 clear c194
                 by_cases c195 : t448 = t426
                 ·rw [if_pos c195] at H
                  have c195b0 := beq_iff_eq.mpr c195
                  have c195b1 := bne_eq_false_iff_eq.mpr c195
                  clear c195
                  obtain rfl := Option.some.inj H
                  have hnb196 := NB408_369.out
                  have hnc196 := NB369_408.out
                  have hnb197 := NB408_389.out
                  have hnc197 := NB389_408.out
                  have hnb198 := NB408_396.out
                  have hnc198 := NB396_408.out
                  have hnb199 := NB408_446.out
                  have hnc199 := NB446_408.out
                  obtain ⟨hcz200_0, hcz200_1, hcz200_2, hcz200_3, hfz200_0, hfz200_1, hfz200_2, hfz200_3⟩ := bc4_ (w := wc) BK408
                  go_wp2_with (first | ((with_reducible refine gate_callee (f := 21) rfl ?_); refine goesB (some 134) Try.func21 #[.agg #[.int .i64 t400, .int .i64 t401, .slice Ao49 t427.length co49, .int .i64 t405], .int .i64 1] ?_; (with_reducible refine (laws_heldShop.calls kj135 t400 t401 _ _ t427 t405 1 t448 _ ?side1 ?side2 A193.out).mono ?_); (case side1 => exact co_ (Kd.R_reads' HO_409002.out).2.2); (case side2 => exact (Kd.R_reads' HO_409002.out).2.1); rintro e w201 ⟨rfl, hb⟩; refine ⟨_, rfl, ?_⟩; replace HO_390002 := Aside0.mk (Kd.R_below (ra_ HO_390002) hb); replace HO_397002 := Aside0.mk (Kd.R_below (ra_ HO_397002) hb); replace HO_409002 := Aside0.mk (Kd.R_below (ra_ HO_409002) hb); replace HO_447002 := Aside0.mk (Kd.R_below (ra_ HO_447002) hb); replace BK369 := bb_ BK369 hb; replace BK389 := bb_ BK389 hb; replace BK396 := bb_ BK396 hb; replace BK408 := bb_ BK408 hb; replace BK446 := bb_ BK446 hb; replace HB := hb_ w hb; clear hb))
                  go_ret
                  exact ⟨by first | rfl | (simp [errW_none, errW_some] <;> rfl) | (simp [*, errW_none, errW_some] <;> rfl), (bw_ w)⟩
                 ·rw [if_neg c195] at H
                  have c195b0 := beq_eq_false_iff_ne.mpr c195
                  have c195b1 := bne_iff_ne.mpr c195
                  exact absurd (H.trans (congrArg some HRT.out)) (by simp)
            ·rw [if_neg c132] at H
             have c132b0 := beq_eq_false_iff_ne.mpr c132
             have c132b1 := bne_iff_ne.mpr c132
             exact absurd (H.trans (congrArg some HRT.out)) (by simp)
       ·replace c83 := Bool.eq_false_iff.mpr c83
        subst c83
        rw [if_neg (show ¬ (false = true) by decide)] at H
        exact absurd (H.trans (congrArg some HRT.out)) (by simp)
      ·replace c80 := Bool.eq_false_iff.mpr c80
       subst c80
       rw [if_neg (show ¬ (false = true) by decide)] at H
       exact absurd (H.trans (congrArg some HRT.out)) (by simp)

/-- The pure statement of laws_FnExactRunShop. -/
def laws_FnExactRunShop.Pure : Prop := ∀ (a0_0 : Int) (a0_1 : Int) (l0_2 : List (S143)) (a0_3 : Int) (l1 : List (S39)), ((Lit.int .i64 a0_0).wf = true) → ((Lit.int .i64 a0_1).wf = true) → (l0_2.length * 40 ≤ 140737488351232) → (∀ y0 ∈ l0_2, ((Lit.int .i64 y0.f0).wf = true) ∧ ((Lit.int .i64 y0.f1).wf = true) ∧ ((Lit.int .i64 y0.f2).wf = true) ∧ ((Lit.int .i64 y0.f3).wf = true) ∧ (Lit.int .i64 y0.f4).wf = true) → ((Lit.int .i64 a0_3).wf = true) → (l1.length * 24 ≤ 140737488351232) → (∀ y0 ∈ l1, ((Lit.int .i64 y0.f0).wf = true) ∧ ((Lit.int .i64 y0.f1).wf = true) ∧ (Lit.int .i64 y0.f2).wf = true) → ∃ k, laws_FnExactRunShop.f k a0_0 a0_1 l0_2 a0_3 l1 = some true

end Go.Proofs.Ytahglcpndiadnaa.PFnExactRunShop
