-- Printed by this session's own program (wip/tool/myprint.py, over the kit's print); Lean checks it.
import Derived.Test.YtebljeaeoedgjaaPFnExactNewWeavingx0
import Derived.Test.YtebljeaeoedgjaaPFnExactNewWeavingx1
import Derived.Test.YtebljeaeoedgjaaPFnExactNewWeavingx2
import Derived.Test.YtebljeaeoedgjaaPFnExactNewWeavingx3
namespace Go.Proofs.Ytebljeaeoedgjaa.PFnExactNewWeaving
open Go.RowKit Go.Proofs.YtebljeaeoedgjaaW.PrintWords Go.Proofs.YtebljeaeoedgjaaW.PrintLast Go.Proofs.YtebljeaeoedgjaaW.PrintMore
attribute [local go_sem] max2_int min2_int max_two min_two max_three min_three max_four min_four   -- for this text's walks alone
set_option linter.unusedVariables false
set_option linter.unusedSimpArgs false

/-! ### laws_FnExactNewWeaving: function 4 -/
mutual
def laws_FnExactNewWeaving.j0 : Nat → Bool → Bool → Bool → Int → Int → List Int → Int → Int → List Int → List Int → Int → List (S64) → Bool → Int → Int → List Int → Int → Int → List Int → List Int → Int → List (S64) → Bool → Option (Bool)
  | 0, _, _, _, _, _, _, _, _, _, _, _, _, _, _, _, _, _, _, _, _, _, _, _ => none
  | k + 1, x5, x8, x40, x219000, x219001, x219002, x240000, x240001, x240002, x240003, x240004, x240005, x240006, x246000, x246001, x246002, x261000, x261001, x261002, x261003, x261004, x261005, x261006 => if x40 = true then (some false) else ((laws_toChart.f k x219000 x219001 x219002).bind fun bt262 => ((laws_eqChart.f k x246000 x246001 x246002 bt262.1 bt262.2.1 bt262.2.2).bind fun t267 => (if t267 = true then ((laws_markChart.f k x246000 x246001 x246002 1).bind fun bt268 => (if bt268.1 < 0 then (laws_FnExactNewWeaving.j1 k x5 true x219000 x219001 x219002 x240000 x240001 x240002 x240003 x240004 x240005 x240006 x261000 x261001 x261002 x261003 x261004 x261005 x261006) else ((laws_eqWeaving.f k x261000 x261001 x261002 x261003 x261004 x261005 x261006 x240000 x240001 x240002 x240003 x240004 x240005 x240006).bind fun t270 => (if t270 = true then (laws_FnExactNewWeaving.j1 k x5 (x8 != x5) x219000 x219001 x219002 x240000 x240001 x240002 x240003 x240004 x240005 x240006 x261000 x261001 x261002 x261003 x261004 x261005 x261006) else (laws_FnExactNewWeaving.j1 k x5 true x219000 x219001 x219002 x240000 x240001 x240002 x240003 x240004 x240005 x240006 x261000 x261001 x261002 x261003 x261004 x261005 x261006))))) else (some false))))
def laws_FnExactNewWeaving.j1 : Nat → Bool → Bool → Int → Int → List Int → Int → Int → List Int → List Int → Int → List (S64) → Bool → Int → Int → List Int → List Int → Int → List (S64) → Bool → Option (Bool)
  | 0, _, _, _, _, _, _, _, _, _, _, _, _, _, _, _, _, _, _, _ => none
  | k + 1, x5, x61, x219000, x219001, x219002, x240000, x240001, x240002, x240003, x240004, x240005, x240006, x261000, x261001, x261002, x261003, x261004, x261005, x261006 => if x61 = true then (some false) else ((laws_markWeaving.f k x261000 x261001 x261002 x261003 x261004 x261005 x261006 1).bind fun bt271 => ((laws_heldWeaving.f k x261000 x261001 bt271.2.1 bt271.2.2.1 x261004 bt271.2.2.2 x261006 1).bind fun t275 => (if t275 < 0 then (some false) else (if t275 = bt271.1 then ((laws_toChart.f k x219000 x219001 x219002).bind fun bt276 => ((impl_NewWeaving.f k bt276.1 bt276.2.1 bt276.2.2).bind fun bt281 => ((laws_eqWeaving.f k bt281.1 bt281.2.1 bt281.2.2.1 bt281.2.2.2.1 bt281.2.2.2.2.1 bt281.2.2.2.2.2.1 bt281.2.2.2.2.2.2.1 x240000 x240001 x240002 x240003 x240004 x240005 x240006).bind fun t296 => (if t296 = true then (laws_FnExactNewWeaving.j2 k bt271.1 (bt281.2.2.2.2.2.2.2 != x5) x261000 x261001 bt271.2.1 bt271.2.2.1 x261004 bt271.2.2.2 x261006) else (laws_FnExactNewWeaving.j2 k bt271.1 true x261000 x261001 bt271.2.1 bt271.2.2.1 x261004 bt271.2.2.2 x261006))))) else (some false)))))
def laws_FnExactNewWeaving.j2 : Nat → Int → Bool → Int → Int → List Int → List Int → Int → List (S64) → Bool → Option (Bool)
  | 0, _, _, _, _, _, _, _, _, _ => none
  | k + 1, x10, x87, x261000, x261001, x261002, x261003, x261004, x261005, x261006 => if x87 = true then (some false) else ((laws_heldWeaving.f k x261000 x261001 x261002 x261003 x261004 x261005 x261006 1).bind fun t297 => (if t297 < 0 then (some false) else (if t297 = x10 then (some true) else (some false))))
end
def laws_FnExactNewWeaving.f (k : Nat) (a0_0 : Int) (a0_1 : Int) (l0_2 : List Int) : Option (Bool) := (laws_szChart.f a0_0 a0_1 l0_2 1048576).bind fun t219 => (if t219 < 0 then (some true) else ((laws_toChart.f k a0_0 a0_1 l0_2).bind fun bt220 => ((spec_NewWeaving.f k bt220.1 bt220.2.1 bt220.2.2).bind fun bt225 => ((laws_toChart.f k a0_0 a0_1 l0_2).bind fun bt240 => ((impl_NewWeaving.f k bt240.1 bt240.2.1 bt240.2.2).bind fun bt246 => ((laws_eqWeaving.f k bt246.1 bt246.2.1 bt246.2.2.1 bt246.2.2.2.1 bt246.2.2.2.2.1 bt246.2.2.2.2.2.1 bt246.2.2.2.2.2.2.1 bt225.1 bt225.2.1 bt225.2.2.1 bt225.2.2.2.1 bt225.2.2.2.2.1 bt225.2.2.2.2.2.1 bt225.2.2.2.2.2.2.1).bind fun t261 => (if t261 = true then (laws_FnExactNewWeaving.j0 k bt225.2.2.2.2.2.2.2 bt246.2.2.2.2.2.2.2 (bt246.2.2.2.2.2.2.2 != bt225.2.2.2.2.2.2.2) a0_0 a0_1 l0_2 bt225.1 bt225.2.1 bt225.2.2.1 bt225.2.2.2.1 bt225.2.2.2.2.1 bt225.2.2.2.2.2.1 bt225.2.2.2.2.2.2.1 bt240.1 bt240.2.1 bt240.2.2 bt246.1 bt246.2.1 bt246.2.2.1 bt246.2.2.2.1 bt246.2.2.2.2.1 bt246.2.2.2.2.2.1 bt246.2.2.2.2.2.2.1) else (laws_FnExactNewWeaving.j0 k bt225.2.2.2.2.2.2.2 bt246.2.2.2.2.2.2.2 true a0_0 a0_1 l0_2 bt225.1 bt225.2.1 bt225.2.2.1 bt225.2.2.2.1 bt225.2.2.2.2.1 bt225.2.2.2.2.2.1 bt225.2.2.2.2.2.2.1 bt240.1 bt240.2.1 bt240.2.2 bt246.1 bt246.2.1 bt246.2.2.1 bt246.2.2.2.1 bt246.2.2.2.2.1 bt246.2.2.2.2.2.1 bt246.2.2.2.2.2.2.1))))))))
theorem laws_FnExactNewWeaving.mono_l : ∀ k, (∀ y0 y1 y2 y3 y4 y5 y6 y7 y8 y9 y10 y11 y12 y13 y14 y15 y16 y17 y18 y19 y20 y21 y22, LeO (laws_FnExactNewWeaving.j0 k y0 y1 y2 y3 y4 y5 y6 y7 y8 y9 y10 y11 y12 y13 y14 y15 y16 y17 y18 y19 y20 y21 y22) (laws_FnExactNewWeaving.j0 (k + 1) y0 y1 y2 y3 y4 y5 y6 y7 y8 y9 y10 y11 y12 y13 y14 y15 y16 y17 y18 y19 y20 y21 y22)) ∧ (∀ y0 y1 y2 y3 y4 y5 y6 y7 y8 y9 y10 y11 y12 y13 y14 y15 y16 y17 y18, LeO (laws_FnExactNewWeaving.j1 k y0 y1 y2 y3 y4 y5 y6 y7 y8 y9 y10 y11 y12 y13 y14 y15 y16 y17 y18) (laws_FnExactNewWeaving.j1 (k + 1) y0 y1 y2 y3 y4 y5 y6 y7 y8 y9 y10 y11 y12 y13 y14 y15 y16 y17 y18)) ∧ (∀ y0 y1 y2 y3 y4 y5 y6 y7 y8, LeO (laws_FnExactNewWeaving.j2 k y0 y1 y2 y3 y4 y5 y6 y7 y8) (laws_FnExactNewWeaving.j2 (k + 1) y0 y1 y2 y3 y4 y5 y6 y7 y8))
  | 0 => ⟨fun _ _ _ _ _ _ _ _ _ _ _ _ _ _ _ _ _ _ _ _ _ _ _ r h => by simp [laws_FnExactNewWeaving.j0] at h, fun _ _ _ _ _ _ _ _ _ _ _ _ _ _ _ _ _ _ _ r h => by simp [laws_FnExactNewWeaving.j1] at h, fun _ _ _ _ _ _ _ _ _ r h => by simp [laws_FnExactNewWeaving.j2] at h⟩
  | k + 1 => by
    obtain ⟨ih0, ih1, ih2⟩ := laws_FnExactNewWeaving.mono_l k
    refine ⟨?_, ?_, ?_⟩
    · intro y0 y1 y2 y3 y4 y5 y6 y7 y8 y9 y10 y11 y12 y13 y14 y15 y16 y17 y18 y19 y20 y21 y22
      unfold laws_FnExactNewWeaving.j0
      repeat' first
      | (with_reducible exact ih0 _ _ _ _ _ _ _ _ _ _ _ _ _ _ _ _ _ _ _ _ _ _ _)
      | (with_reducible exact ih1 _ _ _ _ _ _ _ _ _ _ _ _ _ _ _ _ _ _ _)
      | (with_reducible exact ih2 _ _ _ _ _ _ _ _ _)
      | (with_reducible exact impl_NewWeaving.mono _ _ _ _)
      | (with_reducible exact laws_eqChart.mono _ _ _ _ _ _ _)
      | (with_reducible exact laws_eqWeaving.mono _ _ _ _ _ _ _ _ _ _ _ _ _ _ _)
      | (with_reducible exact laws_heldWeaving.mono _ _ _ _ _ _ _ _ _)
      | (with_reducible exact laws_markChart.mono _ _ _ _ _)
      | (with_reducible exact laws_markWeaving.mono _ _ _ _ _ _ _ _ _)
      | (with_reducible exact laws_toChart.mono _ _ _ _)
      | (with_reducible exact spec_NewWeaving.mono _ _ _ _)
      | (with_reducible exact LeO.refl _)
      | (with_reducible exact LeO.none _)
      | (with_reducible refine LeO.ite ?_ ?_)
      | (with_reducible refine LeO.bind ?_ (fun _ => ?_))
      | exact ih0 _ _ _ _ _ _ _ _ _ _ _ _ _ _ _ _ _ _ _ _ _ _ _
      | exact ih1 _ _ _ _ _ _ _ _ _ _ _ _ _ _ _ _ _ _ _
      | exact ih2 _ _ _ _ _ _ _ _ _
      | exact impl_NewWeaving.mono _ _ _ _
      | exact laws_eqChart.mono _ _ _ _ _ _ _
      | exact laws_eqWeaving.mono _ _ _ _ _ _ _ _ _ _ _ _ _ _ _
      | exact laws_heldWeaving.mono _ _ _ _ _ _ _ _ _
      | exact laws_markChart.mono _ _ _ _ _
      | exact laws_markWeaving.mono _ _ _ _ _ _ _ _ _
      | exact laws_toChart.mono _ _ _ _
      | exact spec_NewWeaving.mono _ _ _ _
      | exact LeO.none _
      | refine LeO.ite ?_ ?_
      | refine LeO.bind ?_ (fun _ => ?_)
    · intro y0 y1 y2 y3 y4 y5 y6 y7 y8 y9 y10 y11 y12 y13 y14 y15 y16 y17 y18
      unfold laws_FnExactNewWeaving.j1
      repeat' first
      | (with_reducible exact ih0 _ _ _ _ _ _ _ _ _ _ _ _ _ _ _ _ _ _ _ _ _ _ _)
      | (with_reducible exact ih1 _ _ _ _ _ _ _ _ _ _ _ _ _ _ _ _ _ _ _)
      | (with_reducible exact ih2 _ _ _ _ _ _ _ _ _)
      | (with_reducible exact impl_NewWeaving.mono _ _ _ _)
      | (with_reducible exact laws_eqChart.mono _ _ _ _ _ _ _)
      | (with_reducible exact laws_eqWeaving.mono _ _ _ _ _ _ _ _ _ _ _ _ _ _ _)
      | (with_reducible exact laws_heldWeaving.mono _ _ _ _ _ _ _ _ _)
      | (with_reducible exact laws_markChart.mono _ _ _ _ _)
      | (with_reducible exact laws_markWeaving.mono _ _ _ _ _ _ _ _ _)
      | (with_reducible exact laws_toChart.mono _ _ _ _)
      | (with_reducible exact spec_NewWeaving.mono _ _ _ _)
      | (with_reducible exact LeO.refl _)
      | (with_reducible exact LeO.none _)
      | (with_reducible refine LeO.ite ?_ ?_)
      | (with_reducible refine LeO.bind ?_ (fun _ => ?_))
      | exact ih0 _ _ _ _ _ _ _ _ _ _ _ _ _ _ _ _ _ _ _ _ _ _ _
      | exact ih1 _ _ _ _ _ _ _ _ _ _ _ _ _ _ _ _ _ _ _
      | exact ih2 _ _ _ _ _ _ _ _ _
      | exact impl_NewWeaving.mono _ _ _ _
      | exact laws_eqChart.mono _ _ _ _ _ _ _
      | exact laws_eqWeaving.mono _ _ _ _ _ _ _ _ _ _ _ _ _ _ _
      | exact laws_heldWeaving.mono _ _ _ _ _ _ _ _ _
      | exact laws_markChart.mono _ _ _ _ _
      | exact laws_markWeaving.mono _ _ _ _ _ _ _ _ _
      | exact laws_toChart.mono _ _ _ _
      | exact spec_NewWeaving.mono _ _ _ _
      | exact LeO.none _
      | refine LeO.ite ?_ ?_
      | refine LeO.bind ?_ (fun _ => ?_)
    · intro y0 y1 y2 y3 y4 y5 y6 y7 y8
      unfold laws_FnExactNewWeaving.j2
      repeat' first
      | (with_reducible exact ih0 _ _ _ _ _ _ _ _ _ _ _ _ _ _ _ _ _ _ _ _ _ _ _)
      | (with_reducible exact ih1 _ _ _ _ _ _ _ _ _ _ _ _ _ _ _ _ _ _ _)
      | (with_reducible exact ih2 _ _ _ _ _ _ _ _ _)
      | (with_reducible exact impl_NewWeaving.mono _ _ _ _)
      | (with_reducible exact laws_eqChart.mono _ _ _ _ _ _ _)
      | (with_reducible exact laws_eqWeaving.mono _ _ _ _ _ _ _ _ _ _ _ _ _ _ _)
      | (with_reducible exact laws_heldWeaving.mono _ _ _ _ _ _ _ _ _)
      | (with_reducible exact laws_markChart.mono _ _ _ _ _)
      | (with_reducible exact laws_markWeaving.mono _ _ _ _ _ _ _ _ _)
      | (with_reducible exact laws_toChart.mono _ _ _ _)
      | (with_reducible exact spec_NewWeaving.mono _ _ _ _)
      | (with_reducible exact LeO.refl _)
      | (with_reducible exact LeO.none _)
      | (with_reducible refine LeO.ite ?_ ?_)
      | (with_reducible refine LeO.bind ?_ (fun _ => ?_))
      | exact ih0 _ _ _ _ _ _ _ _ _ _ _ _ _ _ _ _ _ _ _ _ _ _ _
      | exact ih1 _ _ _ _ _ _ _ _ _ _ _ _ _ _ _ _ _ _ _
      | exact ih2 _ _ _ _ _ _ _ _ _
      | exact impl_NewWeaving.mono _ _ _ _
      | exact laws_eqChart.mono _ _ _ _ _ _ _
      | exact laws_eqWeaving.mono _ _ _ _ _ _ _ _ _ _ _ _ _ _ _
      | exact laws_heldWeaving.mono _ _ _ _ _ _ _ _ _
      | exact laws_markChart.mono _ _ _ _ _
      | exact laws_markWeaving.mono _ _ _ _ _ _ _ _ _
      | exact laws_toChart.mono _ _ _ _
      | exact spec_NewWeaving.mono _ _ _ _
      | exact LeO.none _
      | refine LeO.ite ?_ ?_
      | refine LeO.bind ?_ (fun _ => ?_)
theorem laws_FnExactNewWeaving.mono : ∀ a0 a1 a2 k, LeO (laws_FnExactNewWeaving.f k a0 a1 a2) (laws_FnExactNewWeaving.f (k + 1) a0 a1 a2) := by
  intro a0 a1 a2 k
  obtain ⟨ih0, ih1, ih2⟩ := laws_FnExactNewWeaving.mono_l k
  unfold laws_FnExactNewWeaving.f
  repeat' first
      | (with_reducible exact ih0 _ _ _ _ _ _ _ _ _ _ _ _ _ _ _ _ _ _ _ _ _ _ _)
      | (with_reducible exact ih1 _ _ _ _ _ _ _ _ _ _ _ _ _ _ _ _ _ _ _)
      | (with_reducible exact ih2 _ _ _ _ _ _ _ _ _)
      | (with_reducible exact impl_NewWeaving.mono _ _ _ _)
      | (with_reducible exact laws_eqChart.mono _ _ _ _ _ _ _)
      | (with_reducible exact laws_eqWeaving.mono _ _ _ _ _ _ _ _ _ _ _ _ _ _ _)
      | (with_reducible exact laws_heldWeaving.mono _ _ _ _ _ _ _ _ _)
      | (with_reducible exact laws_markChart.mono _ _ _ _ _)
      | (with_reducible exact laws_markWeaving.mono _ _ _ _ _ _ _ _ _)
      | (with_reducible exact laws_toChart.mono _ _ _ _)
      | (with_reducible exact spec_NewWeaving.mono _ _ _ _)
      | (with_reducible exact LeO.refl _)
      | (with_reducible exact LeO.none _)
      | (with_reducible refine LeO.ite ?_ ?_)
      | (with_reducible refine LeO.bind ?_ (fun _ => ?_))
      | exact ih0 _ _ _ _ _ _ _ _ _ _ _ _ _ _ _ _ _ _ _ _ _ _ _
      | exact ih1 _ _ _ _ _ _ _ _ _ _ _ _ _ _ _ _ _ _ _
      | exact ih2 _ _ _ _ _ _ _ _ _
      | exact impl_NewWeaving.mono _ _ _ _
      | exact laws_eqChart.mono _ _ _ _ _ _ _
      | exact laws_eqWeaving.mono _ _ _ _ _ _ _ _ _ _ _ _ _ _ _
      | exact laws_heldWeaving.mono _ _ _ _ _ _ _ _ _
      | exact laws_markChart.mono _ _ _ _ _
      | exact laws_markWeaving.mono _ _ _ _ _ _ _ _ _
      | exact laws_toChart.mono _ _ _ _
      | exact spec_NewWeaving.mono _ _ _ _
      | exact LeO.none _
      | refine LeO.ite ?_ ?_
      | refine LeO.bind ?_ (fun _ => ?_)
set_option maxHeartbeats 8000000 in
set_option maxRecDepth 100000 in
theorem laws_FnExactNewWeaving.calls (k : Nat) (a0_0 : Int) (a0_1 : Int) (A0_2 : Option Addr) (c0_2 : Nat) (l0_2 : List Int) (w : World) (hr0_2 : Kd.C (Kd.int .i64) w A0_2 l0_2.length l0_2) (hc0_2 : l0_2.length ≤ c0_2) (h : laws_FnExactNewWeaving.f k a0_0 a0_1 l0_2 = some true) :
  Calls Try.prog 4 #[.agg #[.int .i64 a0_0, .int .i64 a0_1, .slice A0_2 l0_2.length c0_2]] w fun e w' => e = .returned (.bool true) ∧ Below w.heap.size w w' := by
 obtain ⟨r, hrt_⟩ : ∃ r : Bool, true = r := ⟨true, rfl⟩
 rw [hrt_] at h ⊢
 have HRT := Aside0.mk hrt_.symm
 clear hrt_
 have hu42 := Try.underlying42
 have hu29 := Try.underlying29
 have hu26 := Try.underlying26
 have HR0_2 := Aside0.mk hr0_2
 have HC0_2 := Aside0.mk hc0_2
 clear hr0_2 hc0_2
 have HB := Aside0.mk (Below.refl w.heap.size w)
 have H : ((laws_szChart.f a0_0 a0_1 l0_2 1048576).bind fun t219 => (if t219 < 0 then (some true) else ((laws_toChart.f k a0_0 a0_1 l0_2).bind fun bt220 => ((spec_NewWeaving.f k bt220.1 bt220.2.1 bt220.2.2).bind fun bt225 => ((laws_toChart.f k a0_0 a0_1 l0_2).bind fun bt240 => ((impl_NewWeaving.f k bt240.1 bt240.2.1 bt240.2.2).bind fun bt246 => ((laws_eqWeaving.f k bt246.1 bt246.2.1 bt246.2.2.1 bt246.2.2.2.1 bt246.2.2.2.2.1 bt246.2.2.2.2.2.1 bt246.2.2.2.2.2.2.1 bt225.1 bt225.2.1 bt225.2.2.1 bt225.2.2.2.1 bt225.2.2.2.2.1 bt225.2.2.2.2.2.1 bt225.2.2.2.2.2.2.1).bind fun t261 => (if t261 = true then (laws_FnExactNewWeaving.j0 k bt225.2.2.2.2.2.2.2 bt246.2.2.2.2.2.2.2 (bt246.2.2.2.2.2.2.2 != bt225.2.2.2.2.2.2.2) a0_0 a0_1 l0_2 bt225.1 bt225.2.1 bt225.2.2.1 bt225.2.2.2.1 bt225.2.2.2.2.1 bt225.2.2.2.2.2.1 bt225.2.2.2.2.2.2.1 bt240.1 bt240.2.1 bt240.2.2 bt246.1 bt246.2.1 bt246.2.2.1 bt246.2.2.2.1 bt246.2.2.2.2.1 bt246.2.2.2.2.2.1 bt246.2.2.2.2.2.2.1) else (laws_FnExactNewWeaving.j0 k bt225.2.2.2.2.2.2.2 bt246.2.2.2.2.2.2.2 true a0_0 a0_1 l0_2 bt225.1 bt225.2.1 bt225.2.2.1 bt225.2.2.2.1 bt225.2.2.2.2.1 bt225.2.2.2.2.2.1 bt225.2.2.2.2.2.2.1 bt240.1 bt240.2.1 bt240.2.2 bt246.1 bt246.2.1 bt246.2.2.1 bt246.2.2.2.1 bt246.2.2.2.2.1 bt246.2.2.2.2.2.1 bt246.2.2.2.2.2.2.1))))))))) = some r := h
 clear h
 replace H := Option.bind_eq_some_iff.mp H
 obtain ⟨t219, A20, H⟩ := H
 replace H : (if t219 < 0 then (some true) else ((laws_toChart.f k a0_0 a0_1 l0_2).bind fun bt220 => ((spec_NewWeaving.f k bt220.1 bt220.2.1 bt220.2.2).bind fun bt225 => ((laws_toChart.f k a0_0 a0_1 l0_2).bind fun bt240 => ((impl_NewWeaving.f k bt240.1 bt240.2.1 bt240.2.2).bind fun bt246 => ((laws_eqWeaving.f k bt246.1 bt246.2.1 bt246.2.2.1 bt246.2.2.2.1 bt246.2.2.2.2.1 bt246.2.2.2.2.2.1 bt246.2.2.2.2.2.2.1 bt225.1 bt225.2.1 bt225.2.2.1 bt225.2.2.2.1 bt225.2.2.2.2.1 bt225.2.2.2.2.2.1 bt225.2.2.2.2.2.2.1).bind fun t261 => (if t261 = true then (laws_FnExactNewWeaving.j0 k bt225.2.2.2.2.2.2.2 bt246.2.2.2.2.2.2.2 (bt246.2.2.2.2.2.2.2 != bt225.2.2.2.2.2.2.2) a0_0 a0_1 l0_2 bt225.1 bt225.2.1 bt225.2.2.1 bt225.2.2.2.1 bt225.2.2.2.2.1 bt225.2.2.2.2.2.1 bt225.2.2.2.2.2.2.1 bt240.1 bt240.2.1 bt240.2.2 bt246.1 bt246.2.1 bt246.2.2.1 bt246.2.2.2.1 bt246.2.2.2.2.1 bt246.2.2.2.2.2.1 bt246.2.2.2.2.2.2.1) else (laws_FnExactNewWeaving.j0 k bt225.2.2.2.2.2.2.2 bt246.2.2.2.2.2.2.2 true a0_0 a0_1 l0_2 bt225.1 bt225.2.1 bt225.2.2.1 bt225.2.2.2.1 bt225.2.2.2.2.1 bt225.2.2.2.2.2.1 bt225.2.2.2.2.2.2.1 bt240.1 bt240.2.1 bt240.2.2 bt246.1 bt246.2.1 bt246.2.2.1 bt246.2.2.2.1 bt246.2.2.2.2.1 bt246.2.2.2.2.2.1 bt246.2.2.2.2.2.2.1)))))))) = some r := H
 have A2 := Aside0.mk A20
 clear A20
 by_cases c3 : t219 < 0
 ·rw [if_pos c3] at H
  have c3b0 : decide (t219 < 0) = true := decide_eq_true c3
  clear c3
  obtain rfl := Option.some.inj H
  go_enter Try.func4, Try.ntmps4
  go_wp2_with (first | ((with_reducible refine gate_dst (N := 1) rfl ?_); refine box_ (N := 1) (cs := #[.int .i64 a0_0, .int .i64 a0_1, .slice A0_2 l0_2.length c0_2]) (t := 42) ?_; intro gb218 hg w4 hbox hb; have BK218 := Aside0.mk (hbox); have GW218 := gz_ w hg; have GE218 := gz_ w hg; replace HB := Aside0.mk (below_step bw_ hb); clear hb hbox hg; obtain ⟨hcz5_0, hcz5_1, hcz5_2, hfz5_0, hfz5_1, hfz5_2⟩ := bc3_ BK218) | ((with_reducible refine gate_callee (f := 24) rfl ?_); refine goesB (some 16) Try.func24 #[.agg #[.int .i64 a0_0, .int .i64 a0_1, .slice A0_2 l0_2.length c0_2], .int .i64 1048576] ?_; (with_reducible refine (laws_szChart.calls a0_0 a0_1 _ _ l0_2 1048576 t219 _ ?side1 ?side2 A2.out).mono ?_); (case side1 => exact cb_ HR0_2 HB); (case side2 => exact HC0_2.out); rintro e w6 ⟨rfl, hb⟩; refine ⟨_, rfl, ?_⟩; replace BK218 := bb_ BK218 hb; replace HB := Aside0.mk (below_step bw_ hb); (try clear hb); (try clear hb2); (try clear hk); (try clear hi)))
  go_ret
  exact ⟨by first | rfl | (simp [errW_none, errW_some] <;> rfl) | (simp [*, errW_none, errW_some] <;> rfl), bw_⟩
 ·rw [if_neg c3] at H
  have c3b0 : decide (t219 < 0) = false := decide_eq_false c3
  clear c3
  replace H := Option.bind_eq_some_iff.mp H
  obtain ⟨⟨t220, t221, t222⟩, A70, H⟩ := H
  replace H : ((spec_NewWeaving.f k t220 t221 t222).bind fun bt225 => ((laws_toChart.f k a0_0 a0_1 l0_2).bind fun bt240 => ((impl_NewWeaving.f k bt240.1 bt240.2.1 bt240.2.2).bind fun bt246 => ((laws_eqWeaving.f k bt246.1 bt246.2.1 bt246.2.2.1 bt246.2.2.2.1 bt246.2.2.2.2.1 bt246.2.2.2.2.2.1 bt246.2.2.2.2.2.2.1 bt225.1 bt225.2.1 bt225.2.2.1 bt225.2.2.2.1 bt225.2.2.2.2.1 bt225.2.2.2.2.2.1 bt225.2.2.2.2.2.2.1).bind fun t261 => (if t261 = true then (laws_FnExactNewWeaving.j0 k bt225.2.2.2.2.2.2.2 bt246.2.2.2.2.2.2.2 (bt246.2.2.2.2.2.2.2 != bt225.2.2.2.2.2.2.2) a0_0 a0_1 l0_2 bt225.1 bt225.2.1 bt225.2.2.1 bt225.2.2.2.1 bt225.2.2.2.2.1 bt225.2.2.2.2.2.1 bt225.2.2.2.2.2.2.1 bt240.1 bt240.2.1 bt240.2.2 bt246.1 bt246.2.1 bt246.2.2.1 bt246.2.2.2.1 bt246.2.2.2.2.1 bt246.2.2.2.2.2.1 bt246.2.2.2.2.2.2.1) else (laws_FnExactNewWeaving.j0 k bt225.2.2.2.2.2.2.2 bt246.2.2.2.2.2.2.2 true a0_0 a0_1 l0_2 bt225.1 bt225.2.1 bt225.2.2.1 bt225.2.2.2.1 bt225.2.2.2.2.1 bt225.2.2.2.2.2.1 bt225.2.2.2.2.2.2.1 bt240.1 bt240.2.1 bt240.2.2 bt246.1 bt246.2.1 bt246.2.2.1 bt246.2.2.2.1 bt246.2.2.2.2.1 bt246.2.2.2.2.2.1 bt246.2.2.2.2.2.2.1)))))) = some r := H
  have A7 := Aside0.mk A70
  clear A70
  replace H := Option.bind_eq_some_iff.mp H
  obtain ⟨⟨t225, t226, t227, t230, t233, t234, t237, t238⟩, A80, H⟩ := H
  replace H : ((laws_toChart.f k a0_0 a0_1 l0_2).bind fun bt240 => ((impl_NewWeaving.f k bt240.1 bt240.2.1 bt240.2.2).bind fun bt246 => ((laws_eqWeaving.f k bt246.1 bt246.2.1 bt246.2.2.1 bt246.2.2.2.1 bt246.2.2.2.2.1 bt246.2.2.2.2.2.1 bt246.2.2.2.2.2.2.1 t225 t226 t227 t230 t233 t234 t237).bind fun t261 => (if t261 = true then (laws_FnExactNewWeaving.j0 k t238 bt246.2.2.2.2.2.2.2 (bt246.2.2.2.2.2.2.2 != t238) a0_0 a0_1 l0_2 t225 t226 t227 t230 t233 t234 t237 bt240.1 bt240.2.1 bt240.2.2 bt246.1 bt246.2.1 bt246.2.2.1 bt246.2.2.2.1 bt246.2.2.2.2.1 bt246.2.2.2.2.2.1 bt246.2.2.2.2.2.2.1) else (laws_FnExactNewWeaving.j0 k t238 bt246.2.2.2.2.2.2.2 true a0_0 a0_1 l0_2 t225 t226 t227 t230 t233 t234 t237 bt240.1 bt240.2.1 bt240.2.2 bt246.1 bt246.2.1 bt246.2.2.1 bt246.2.2.2.1 bt246.2.2.2.2.1 bt246.2.2.2.2.2.1 bt246.2.2.2.2.2.2.1))))) = some r := H
  have A8 := Aside0.mk A80
  clear A80
  replace H := Option.bind_eq_some_iff.mp H
  obtain ⟨⟨t240, t241, t242⟩, A90, H⟩ := H
  replace H : ((impl_NewWeaving.f k t240 t241 t242).bind fun bt246 => ((laws_eqWeaving.f k bt246.1 bt246.2.1 bt246.2.2.1 bt246.2.2.2.1 bt246.2.2.2.2.1 bt246.2.2.2.2.2.1 bt246.2.2.2.2.2.2.1 t225 t226 t227 t230 t233 t234 t237).bind fun t261 => (if t261 = true then (laws_FnExactNewWeaving.j0 k t238 bt246.2.2.2.2.2.2.2 (bt246.2.2.2.2.2.2.2 != t238) a0_0 a0_1 l0_2 t225 t226 t227 t230 t233 t234 t237 t240 t241 t242 bt246.1 bt246.2.1 bt246.2.2.1 bt246.2.2.2.1 bt246.2.2.2.2.1 bt246.2.2.2.2.2.1 bt246.2.2.2.2.2.2.1) else (laws_FnExactNewWeaving.j0 k t238 bt246.2.2.2.2.2.2.2 true a0_0 a0_1 l0_2 t225 t226 t227 t230 t233 t234 t237 t240 t241 t242 bt246.1 bt246.2.1 bt246.2.2.1 bt246.2.2.2.1 bt246.2.2.2.2.1 bt246.2.2.2.2.2.1 bt246.2.2.2.2.2.2.1)))) = some r := H
  have A9 := Aside0.mk A90
  clear A90
  replace H := Option.bind_eq_some_iff.mp H
  obtain ⟨⟨t246, t247, t248, t251, t254, t255, t258, t259⟩, A100, H⟩ := H
  replace H : ((laws_eqWeaving.f k t246 t247 t248 t251 t254 t255 t258 t225 t226 t227 t230 t233 t234 t237).bind fun t261 => (if t261 = true then (laws_FnExactNewWeaving.j0 k t238 t259 (t259 != t238) a0_0 a0_1 l0_2 t225 t226 t227 t230 t233 t234 t237 t240 t241 t242 t246 t247 t248 t251 t254 t255 t258) else (laws_FnExactNewWeaving.j0 k t238 t259 true a0_0 a0_1 l0_2 t225 t226 t227 t230 t233 t234 t237 t240 t241 t242 t246 t247 t248 t251 t254 t255 t258))) = some r := H
  have A10 := Aside0.mk A100
  clear A100
  have HC11 := Aside0.mk H
  clear H
  go_enter Try.func4, Try.ntmps4
  go_upto_region 8 with (first | ((with_reducible refine gate_dst (N := 1) rfl ?_); refine box_ (N := 1) (cs := #[.int .i64 a0_0, .int .i64 a0_1, .slice A0_2 l0_2.length c0_2]) (t := 42) ?_; intro gb218 hg w12 hbox hb; have BK218 := Aside0.mk (hbox); have GW218 := gz_ w hg; have GE218 := gz_ w hg; replace HB := Aside0.mk (below_step bw_ hb); clear hb hbox hg; obtain ⟨hcz13_0, hcz13_1, hcz13_2, hfz13_0, hfz13_1, hfz13_2⟩ := bc3_ BK218) | ((with_reducible refine gate_callee (f := 24) rfl ?_); refine goesB (some 16) Try.func24 #[.agg #[.int .i64 a0_0, .int .i64 a0_1, .slice A0_2 l0_2.length c0_2], .int .i64 1048576] ?_; (with_reducible refine (laws_szChart.calls a0_0 a0_1 _ _ l0_2 1048576 t219 _ ?side1 ?side2 A2.out).mono ?_); (case side1 => exact cb_ HR0_2 HB); (case side2 => exact HC0_2.out); rintro e w14 ⟨rfl, hb⟩; refine ⟨_, rfl, ?_⟩; replace BK218 := bb_ BK218 hb; replace HB := Aside0.mk (below_step bw_ hb); (try clear hb); (try clear hb2); (try clear hk); (try clear hi); obtain ⟨hcz15_0, hcz15_1, hcz15_2, hfz15_0, hfz15_1, hfz15_2⟩ := bc3_ BK218) | ((with_reducible refine gate_callee (f := 26) rfl ?_); refine goesB (some 21) Try.func26 #[.agg #[.int .i64 a0_0, .int .i64 a0_1, .slice A0_2 l0_2.length c0_2]] ?_; (with_reducible refine (laws_toChart.calls k a0_0 a0_1 _ _ l0_2 t220 t221 t222 _ ?side1 ?side2 A7.out).mono ?_); (case side1 => exact cb_ HR0_2 HB); (case side2 => exact HC0_2.out); rintro e w16 ⟨v223, rfl, ho0, hb⟩; refine ⟨_, rfl, ?_⟩; have HO224 := Aside0.mk (Kd.R_lower ho0 (below_size bw_)); replace BK218 := bb_ BK218 hb; replace HB := Aside0.mk (below_step bw_ hb); (try clear hb); (try clear hb2); (try clear hk); (try clear hi); (try clear ho0); obtain ⟨Ao17, co17, eo17⟩ := Kd.R_slice HO224.out; subst eo17) | ((with_reducible refine gate_callee (f := 25) rfl ?_); refine goesB (some 22) Try.func25 #[.agg #[.int .i64 t220, .int .i64 t221, .slice Ao17 t222.length co17]] ?_; (with_reducible refine (spec_NewWeaving.calls k t220 t221 _ _ t222 t225 t226 t227 t230 t233 t234 t237 t238 _ ?side1 ?side2 A8.out).mono ?_); (case side1 => repeat (first | exact (Kd.R_reads' HO224.out).2.2 | (with_reducible refine Kd.C_alloc ?_ _) | (with_reducible refine Kd.C_drewN ?_ _) | (with_reducible refine Kd.C_drew ?_))); (case side2 => exact (Kd.R_reads' HO224.out).2.1); rintro e w18 ⟨v228, v231, v235, rfl, ho0, ho1, ho2, hb⟩; refine ⟨_, rfl, ?_⟩; have n0_ := Aside0.mk (Kd.R_mono (Kd.R_told (Kd.R_told (Kd.R_old (by (with_reducible repeat (first | apply Kd.R_alloc | apply Kd.R_drewN | apply Kd.R_drew)); exact HO224.out) hb) (Kd.R_base ho0)) (Kd.R_base ho1)) (fun _ h_ => h_.1)); have n1_ := Aside0.mk (Kd.R_lower (Kd.R_new' ho0 (Kd.R_lt (by (with_reducible repeat (first | apply Kd.R_alloc | apply Kd.R_drewN | apply Kd.R_drew)); exact HO224.out))) (below_size bw_)); have n2_ := Aside0.mk (Kd.R_lower (Kd.R_new' ho1 (Kd.R_lt (by (with_reducible repeat (first | apply Kd.R_alloc | apply Kd.R_drewN | apply Kd.R_drew)); exact HO224.out))) (below_size bw_)); have n3_ := Aside0.mk (Kd.R_lower ho2 (below_size bw_)); have n4_ := bb_ BK218 hb; have n5_ := Aside0.mk (below_step bw_ hb); clear HO224; clear BK218; clear HB; have HO224 := n0_; have HO229 := n1_; have HO232 := n2_; have HO236 := n3_; have BK218 := n4_; have HB := n5_; clear n0_ n1_ n2_ n3_ n4_ n5_; (try clear hb); (try clear hb2); (try clear hk); (try clear hi); (try clear ho0); (try clear ho1); (try clear ho2)) | ((with_reducible refine gate_dst (N := 4) rfl ?_); refine box_ (N := 4) (cs := #[.int .i64 0, .int .i64 0, .slice none 0 0, .slice none 0 0, .int .i64 0, .slice none 0 0, .bool false]) (t := 29) ?_; intro gb239 hg w19 hbox hb; have n0_ := Aside0.mk (Kd.R_below (by (with_reducible repeat (first | apply Kd.R_alloc | apply Kd.R_drewN | apply Kd.R_drew)); exact HO224.out) hb); have n1_ := Aside0.mk (Kd.R_below (by (with_reducible repeat (first | apply Kd.R_alloc | apply Kd.R_drewN | apply Kd.R_drew)); exact HO229.out) hb); have n2_ := Aside0.mk (Kd.R_below (by (with_reducible repeat (first | apply Kd.R_alloc | apply Kd.R_drewN | apply Kd.R_drew)); exact HO232.out) hb); have n3_ := Aside0.mk (Kd.R_below (by (with_reducible repeat (first | apply Kd.R_alloc | apply Kd.R_drewN | apply Kd.R_drew)); exact HO236.out) hb); have n4_ := bb_ BK218 hb; have n5_ := Aside0.mk (below_step bw_ hb); have n6_ := Aside0.mk (hbox); have n7_ := gz_ w hg; have n8_ := gz_ w hg; have n9_ := ne_ hg BK218; have n10_ := en_ hg BK218; clear HO224; clear HO229; clear HO232; clear HO236; clear BK218; clear HB; have HO224 := n0_; have HO229 := n1_; have HO232 := n2_; have HO236 := n3_; have BK218 := n4_; have HB := n5_; have BK239 := n6_; have GW239 := n7_; have GE239 := n8_; have NB218_239 := n9_; have NB239_218 := n10_; clear n0_ n1_ n2_ n3_ n4_ n5_ n6_ n7_ n8_ n9_ n10_; clear hb hbox hg; have hnb20 := NB239_218.out; have hnc20 := NB218_239.out; obtain ⟨hcz21_0, hcz21_1, hcz21_2, hcz21_3, hcz21_4, hcz21_5, hcz21_6, hfz21_0, hfz21_1, hfz21_2, hfz21_3, hfz21_4, hfz21_5, hfz21_6⟩ := bc7_ BK239; obtain ⟨Ao22, co22, eo22⟩ := Kd.R_slice HO229.out; subst eo22; obtain ⟨Ao23, co23, eo23⟩ := Kd.R_slice HO232.out; subst eo23; obtain ⟨Ao24, co24, eo24⟩ := Kd.R_slice HO236.out; subst eo24; obtain ⟨hcz25_0, hcz25_1, hcz25_2, hfz25_0, hfz25_1, hfz25_2⟩ := bc3_ BK218) | ((with_reducible refine gate_callee (f := 26) rfl ?_); refine goesB (some 26) Try.func26 #[.agg #[.int .i64 a0_0, .int .i64 a0_1, .slice A0_2 l0_2.length c0_2]] ?_; (with_reducible refine (laws_toChart.calls k a0_0 a0_1 _ _ l0_2 t240 t241 t242 _ ?side1 ?side2 A9.out).mono ?_); (case side1 => exact Kd.C_below HR0_2.out bw_); (case side2 => exact HC0_2.out); rintro e w26 ⟨v243, rfl, ho0, hb⟩; refine ⟨_, rfl, ?_⟩; have n0_ := Aside0.mk (Kd.R_elder' (by exact rf_ (Kd.R_types HO224.out BK239.out (by decide)) (fun _ h_ => h_.1)) (Kd.R_base ho0) hb); have n1_ := Aside0.mk (Kd.R_elder' (by exact rf_ (Kd.R_types HO229.out BK239.out (by decide)) (fun _ h_ => h_.1)) (Kd.R_base ho0) hb); have n2_ := Aside0.mk (Kd.R_elder' (by exact rf_ (Kd.R_types HO232.out BK239.out (by decide)) (fun _ h_ => h_.1)) (Kd.R_base ho0) hb); have n3_ := Aside0.mk (Kd.R_below (by exact rf_ (Kd.R_types HO236.out BK239.out (by decide)) (fun _ h_ => h_.1)) hb); have n4_ := Aside0.mk (Kd.R_lower (Kd.R_new' (Kd.R_new' (Kd.R_new' ho0 (Kd.R_lt (by exact rf_ (Kd.R_types HO224.out BK239.out (by decide)) (fun _ h_ => h_.1)))) (Kd.R_lt (by exact rf_ (Kd.R_types HO229.out BK239.out (by decide)) (fun _ h_ => h_.1)))) (Kd.R_lt (by exact rf_ (Kd.R_types HO232.out BK239.out (by decide)) (fun _ h_ => h_.1)))) (below_size bw_)); have n5_ := bb_ BK218 hb; have n6_ := Aside0.mk (blk_below (g := gb239) (o := .cells #[.int .i64 t225, .int .i64 t226, .slice Ao22 t227.length co22, .slice Ao23 t230.length co23, .int .i64 t233, .slice Ao24 t234.length co24, .bool t237] 29 (0, 0)) (bq_ BK239) hb); have n7_ := Aside0.mk (below_step bw_ hb); clear HO224; clear HO229; clear HO232; clear HO236; clear BK218; clear BK239; clear HB; have HO224 := n0_; have HO229 := n1_; have HO232 := n2_; have HO236 := n3_; have HO244 := n4_; have BK218 := n5_; have BK239 := n6_; have HB := n7_; clear n0_ n1_ n2_ n3_ n4_ n5_ n6_ n7_; (try clear hb); (try clear hb2); (try clear hk); (try clear hi); (try clear ho0)) | ((with_reducible refine gate_dst (N := 6) rfl ?_); refine box_ (N := 6) (cs := #[.int .i64 0, .int .i64 0, .slice none 0 0]) (t := 26) ?_; intro gb245 hg w27 hbox hb; have n0_ := Aside0.mk (Kd.R_below (by (with_reducible repeat (first | apply Kd.R_alloc | apply Kd.R_drewN | apply Kd.R_drew)); exact HO224.out) hb); have n1_ := Aside0.mk (Kd.R_below (by (with_reducible repeat (first | apply Kd.R_alloc | apply Kd.R_drewN | apply Kd.R_drew)); exact HO229.out) hb); have n2_ := Aside0.mk (Kd.R_below (by (with_reducible repeat (first | apply Kd.R_alloc | apply Kd.R_drewN | apply Kd.R_drew)); exact HO232.out) hb); have n3_ := Aside0.mk (Kd.R_below (by (with_reducible repeat (first | apply Kd.R_alloc | apply Kd.R_drewN | apply Kd.R_drew)); exact HO236.out) hb); have n4_ := Aside0.mk (Kd.R_below (by (with_reducible repeat (first | apply Kd.R_alloc | apply Kd.R_drewN | apply Kd.R_drew)); exact HO244.out) hb); have n5_ := bb_ BK218 hb; have n6_ := bb_ BK239 hb; have n7_ := Aside0.mk (below_step bw_ hb); have n8_ := Aside0.mk (hbox); have n9_ := gz_ w hg; have n10_ := gz_ w hg; have n11_ := ne_ hg BK218; have n12_ := en_ hg BK218; have n13_ := ne_ hg BK239; have n14_ := en_ hg BK239; clear HO224; clear HO229; clear HO232; clear HO236; clear HO244; clear BK218; clear BK239; clear HB; have HO224 := n0_; have HO229 := n1_; have HO232 := n2_; have HO236 := n3_; have HO244 := n4_; have BK218 := n5_; have BK239 := n6_; have HB := n7_; have BK245 := n8_; have GW245 := n9_; have GE245 := n10_; have NB218_245 := n11_; have NB245_218 := n12_; have NB239_245 := n13_; have NB245_239 := n14_; clear n0_ n1_ n2_ n3_ n4_ n5_ n6_ n7_ n8_ n9_ n10_ n11_ n12_ n13_ n14_; clear hb hbox hg; have hnb28 := NB245_218.out; have hnc28 := NB218_245.out; have hnb29 := NB245_239.out; have hnc29 := NB239_245.out; obtain ⟨hcz30_0, hcz30_1, hcz30_2, hfz30_0, hfz30_1, hfz30_2⟩ := bc3_ BK245; obtain ⟨Ao31, co31, eo31⟩ := Kd.R_slice HO244.out; subst eo31) | ((with_reducible refine gate_callee (f := 27) rfl ?_); refine goesB (some 29) Try.func27 #[.agg #[.int .i64 t240, .int .i64 t241, .slice Ao31 t242.length co31]] ?_; (with_reducible refine (impl_NewWeaving.calls k t240 t241 _ _ t242 t246 t247 t248 t251 t254 t255 t258 t259 _ ?side1 ?side2 A10.out).mono ?_); (case side1 => refine (Kd.R_reads' (e := 3) (base := w.heap.size) (ok := fun k_ => (((True ∧ some k_ ≠ (.slice Ao17 t222.length co17 : Value).ownBlock) ∧ some k_ ≠ (.slice Ao22 t227.length co22 : Value).ownBlock) ∧ some k_ ≠ (.slice Ao23 t230.length co23 : Value).ownBlock)) (n := t242.length) (c := co31) ?_).2.2; exact (by exact rf_ (Kd.R_types HO244.out BK245.out (by decide)) (fun _ h_ => h_.1))); (case side2 => exact (Kd.R_reads' HO244.out).2.1); rintro e w32 ⟨v249, v252, v256, rfl, ho0, ho1, ho2, hb⟩; refine ⟨_, rfl, ?_⟩; have n0_ := Aside0.mk (Kd.R_mono (Kd.R_told (Kd.R_told (Kd.R_old (by exact rf_ (Kd.R_types HO224.out BK245.out (by decide)) (fun _ h_ => h_.1)) hb) (Kd.R_base ho0)) (Kd.R_base ho1)) (fun _ h_ => h_.1)); have n1_ := Aside0.mk (Kd.R_mono (Kd.R_told (Kd.R_told (Kd.R_old (by exact rf_ (Kd.R_types HO229.out BK245.out (by decide)) (fun _ h_ => h_.1)) hb) (Kd.R_base ho0)) (Kd.R_base ho1)) (fun _ h_ => h_.1)); have n2_ := Aside0.mk (Kd.R_mono (Kd.R_told (Kd.R_told (Kd.R_old (by exact rf_ (Kd.R_types HO232.out BK245.out (by decide)) (fun _ h_ => h_.1)) hb) (Kd.R_base ho0)) (Kd.R_base ho1)) (fun _ h_ => h_.1)); have n3_ := Aside0.mk (Kd.R_elder' (by exact rf_ (Kd.R_types HO236.out BK245.out (by decide)) (fun _ h_ => h_.1)) (Kd.R_base ho2) hb); have n4_ := Aside0.mk (Kd.R_mono (Kd.R_told (Kd.R_told (Kd.R_old (by exact rf_ (Kd.R_types HO244.out BK245.out (by decide)) (fun _ h_ => h_.1)) hb) (Kd.R_base ho0)) (Kd.R_base ho1)) (fun _ h_ => h_.1)); have n5_ := Aside0.mk (Kd.R_lower (Kd.R_new' (Kd.R_new' (Kd.R_new' (Kd.R_new' ho0 (Kd.R_lt (by exact rf_ (Kd.R_types HO224.out BK245.out (by decide)) (fun _ h_ => h_.1)))) (Kd.R_lt (by exact rf_ (Kd.R_types HO229.out BK245.out (by decide)) (fun _ h_ => h_.1)))) (Kd.R_lt (by exact rf_ (Kd.R_types HO232.out BK245.out (by decide)) (fun _ h_ => h_.1)))) (Kd.R_lt (by exact rf_ (Kd.R_types HO244.out BK245.out (by decide)) (fun _ h_ => h_.1)))) (below_size bw_)); have n6_ := Aside0.mk (Kd.R_lower (Kd.R_new' (Kd.R_new' (Kd.R_new' (Kd.R_new' ho1 (Kd.R_lt (by exact rf_ (Kd.R_types HO224.out BK245.out (by decide)) (fun _ h_ => h_.1)))) (Kd.R_lt (by exact rf_ (Kd.R_types HO229.out BK245.out (by decide)) (fun _ h_ => h_.1)))) (Kd.R_lt (by exact rf_ (Kd.R_types HO232.out BK245.out (by decide)) (fun _ h_ => h_.1)))) (Kd.R_lt (by exact rf_ (Kd.R_types HO244.out BK245.out (by decide)) (fun _ h_ => h_.1)))) (below_size bw_)); have n7_ := Aside0.mk (Kd.R_lower (Kd.R_new' ho2 (Kd.R_lt (by exact rf_ (Kd.R_types HO236.out BK245.out (by decide)) (fun _ h_ => h_.1)))) (below_size bw_)); have n8_ := bb_ BK218 hb; have n9_ := bb_ BK239 hb; have n10_ := Aside0.mk (blk_below (g := gb245) (o := .cells #[.int .i64 t240, .int .i64 t241, .slice Ao31 t242.length co31] 26 (0, 0)) (bq_ BK245) hb); have n11_ := Aside0.mk (below_step bw_ hb); clear HO224; clear HO229; clear HO232; clear HO236; clear HO244; clear BK218; clear BK239; clear BK245; clear HB; have HO224 := n0_; have HO229 := n1_; have HO232 := n2_; have HO236 := n3_; have HO244 := n4_; have HO250 := n5_; have HO253 := n6_; have HO257 := n7_; have BK218 := n8_; have BK239 := n9_; have BK245 := n10_; have HB := n11_; clear n0_ n1_ n2_ n3_ n4_ n5_ n6_ n7_ n8_ n9_ n10_ n11_; (try clear hb); (try clear hb2); (try clear hk); (try clear hi); (try clear ho0); (try clear ho1); (try clear ho2)) | ((with_reducible refine gate_dst (N := 7) rfl ?_); refine box_ (N := 7) (cs := #[.int .i64 0, .int .i64 0, .slice none 0 0, .slice none 0 0, .int .i64 0, .slice none 0 0, .bool false]) (t := 29) ?_; intro gb260 hg w33 hbox hb; have n0_ := Aside0.mk (Kd.R_below (by (with_reducible repeat (first | apply Kd.R_alloc | apply Kd.R_drewN | apply Kd.R_drew)); exact HO224.out) hb); have n1_ := Aside0.mk (Kd.R_below (by (with_reducible repeat (first | apply Kd.R_alloc | apply Kd.R_drewN | apply Kd.R_drew)); exact HO229.out) hb); have n2_ := Aside0.mk (Kd.R_below (by (with_reducible repeat (first | apply Kd.R_alloc | apply Kd.R_drewN | apply Kd.R_drew)); exact HO232.out) hb); have n3_ := Aside0.mk (Kd.R_below (by (with_reducible repeat (first | apply Kd.R_alloc | apply Kd.R_drewN | apply Kd.R_drew)); exact HO236.out) hb); have n4_ := Aside0.mk (Kd.R_below (by (with_reducible repeat (first | apply Kd.R_alloc | apply Kd.R_drewN | apply Kd.R_drew)); exact HO244.out) hb); have n5_ := Aside0.mk (Kd.R_below (by (with_reducible repeat (first | apply Kd.R_alloc | apply Kd.R_drewN | apply Kd.R_drew)); exact HO250.out) hb); have n6_ := Aside0.mk (Kd.R_below (by (with_reducible repeat (first | apply Kd.R_alloc | apply Kd.R_drewN | apply Kd.R_drew)); exact HO253.out) hb); have n7_ := Aside0.mk (Kd.R_below (by (with_reducible repeat (first | apply Kd.R_alloc | apply Kd.R_drewN | apply Kd.R_drew)); exact HO257.out) hb); have n8_ := bb_ BK218 hb; have n9_ := bb_ BK239 hb; have n10_ := bb_ BK245 hb; have n11_ := Aside0.mk (below_step bw_ hb); have n12_ := Aside0.mk (hbox); have n13_ := gz_ w hg; have n14_ := gz_ w hg; have n15_ := ne_ hg BK218; have n16_ := en_ hg BK218; have n17_ := ne_ hg BK239; have n18_ := en_ hg BK239; have n19_ := ne_ hg BK245; have n20_ := en_ hg BK245; clear HO224; clear HO229; clear HO232; clear HO236; clear HO244; clear HO250; clear HO253; clear HO257; clear BK218; clear BK239; clear BK245; clear HB; have HO224 := n0_; have HO229 := n1_; have HO232 := n2_; have HO236 := n3_; have HO244 := n4_; have HO250 := n5_; have HO253 := n6_; have HO257 := n7_; have BK218 := n8_; have BK239 := n9_; have BK245 := n10_; have HB := n11_; have BK260 := n12_; have GW260 := n13_; have GE260 := n14_; have NB218_260 := n15_; have NB260_218 := n16_; have NB239_260 := n17_; have NB260_239 := n18_; have NB245_260 := n19_; have NB260_245 := n20_; clear n0_ n1_ n2_ n3_ n4_ n5_ n6_ n7_ n8_ n9_ n10_ n11_ n12_ n13_ n14_ n15_ n16_ n17_ n18_ n19_ n20_; clear hb hbox hg; have hnb34 := NB260_218.out; have hnc34 := NB218_260.out; have hnb35 := NB260_239.out; have hnc35 := NB239_260.out; have hnb36 := NB260_245.out; have hnc36 := NB245_260.out; obtain ⟨hcz37_0, hcz37_1, hcz37_2, hcz37_3, hcz37_4, hcz37_5, hcz37_6, hfz37_0, hfz37_1, hfz37_2, hfz37_3, hfz37_4, hfz37_5, hfz37_6⟩ := bc7_ BK260; obtain ⟨Ao38, co38, eo38⟩ := Kd.R_slice HO250.out; subst eo38; obtain ⟨Ao39, co39, eo39⟩ := Kd.R_slice HO253.out; subst eo39; obtain ⟨Ao40, co40, eo40⟩ := Kd.R_slice HO257.out; subst eo40))
  (try simp only [Act.put, List.setIfInBounds_toArray, List.set_cons_zero, List.set_cons_succ])
  go_cut [40] (fun v40 wc => ∃ (kq : Nat) (x40_10 : Bool), v40 = .bool x40_10 ∧ Aside0 (laws_FnExactNewWeaving.j0 kq t238 t259 x40_10 a0_0 a0_1 l0_2 t225 t226 t227 t230 t233 t234 t237 t240 t241 t242 t246 t247 t248 t251 t254 t255 t258 = some r) ∧ Aside0 (kq ≤ k) ∧ Aside0 (Kd.R (Kd.int .i64) 3 wc w.heap.size (fun k_ => some k_ ≠ ((.slice Ao23 t230.length co23) : Value).ownBlock ∧ some k_ ≠ ((.slice Ao31 t242.length co31) : Value).ownBlock ∧ some k_ ≠ ((.slice Ao38 t248.length co38) : Value).ownBlock ∧ some k_ ≠ ((.slice Ao39 t251.length co39) : Value).ownBlock) (.slice Ao22 t227.length co22) t227) ∧ Aside0 (Kd.R (Kd.int .i64) 3 wc w.heap.size (fun k_ => some k_ ≠ ((.slice Ao22 t227.length co22) : Value).ownBlock ∧ some k_ ≠ ((.slice Ao31 t242.length co31) : Value).ownBlock ∧ some k_ ≠ ((.slice Ao38 t248.length co38) : Value).ownBlock ∧ some k_ ≠ ((.slice Ao39 t251.length co39) : Value).ownBlock) (.slice Ao23 t230.length co23) t230) ∧ Aside0 (Kd.R k64 64 wc w.heap.size (fun k_ => some k_ ≠ ((.slice Ao40 t255.length co40) : Value).ownBlock) (.slice Ao24 t234.length co24) t234) ∧ Aside0 (Kd.R (Kd.int .i64) 3 wc w.heap.size (fun k_ => some k_ ≠ ((.slice Ao22 t227.length co22) : Value).ownBlock ∧ some k_ ≠ ((.slice Ao23 t230.length co23) : Value).ownBlock ∧ some k_ ≠ ((.slice Ao38 t248.length co38) : Value).ownBlock ∧ some k_ ≠ ((.slice Ao39 t251.length co39) : Value).ownBlock) (.slice Ao31 t242.length co31) t242) ∧ Aside0 (Kd.R (Kd.int .i64) 3 wc w.heap.size (fun k_ => some k_ ≠ ((.slice Ao22 t227.length co22) : Value).ownBlock ∧ some k_ ≠ ((.slice Ao23 t230.length co23) : Value).ownBlock ∧ some k_ ≠ ((.slice Ao31 t242.length co31) : Value).ownBlock ∧ some k_ ≠ ((.slice Ao39 t251.length co39) : Value).ownBlock) (.slice Ao38 t248.length co38) t248) ∧ Aside0 (Kd.R (Kd.int .i64) 3 wc w.heap.size (fun k_ => some k_ ≠ ((.slice Ao22 t227.length co22) : Value).ownBlock ∧ some k_ ≠ ((.slice Ao23 t230.length co23) : Value).ownBlock ∧ some k_ ≠ ((.slice Ao31 t242.length co31) : Value).ownBlock ∧ some k_ ≠ ((.slice Ao38 t248.length co38) : Value).ownBlock) (.slice Ao39 t251.length co39) t251) ∧ Aside0 (Kd.R k64 64 wc w.heap.size (fun k_ => some k_ ≠ ((.slice Ao24 t234.length co24) : Value).ownBlock) (.slice Ao40 t255.length co40) t255) ∧ Aside0 (wc.heap[gb218]? = some (.cells #[.int .i64 a0_0, .int .i64 a0_1, (.slice A0_2 l0_2.length c0_2)] 42 (0, 0))) ∧ Aside0 (wc.heap[gb239]? = some (.cells #[.int .i64 t225, .int .i64 t226, (.slice Ao22 t227.length co22), (.slice Ao23 t230.length co23), .int .i64 t233, (.slice Ao24 t234.length co24), .bool t237] 29 (0, 0))) ∧ Aside0 (wc.heap[gb245]? = some (.cells #[.int .i64 t240, .int .i64 t241, (.slice Ao31 t242.length co31)] 26 (0, 0))) ∧ Aside0 (wc.heap[gb260]? = some (.cells #[.int .i64 t246, .int .i64 t247, (.slice Ao38 t248.length co38), (.slice Ao39 t251.length co39), .int .i64 t254, (.slice Ao40 t255.length co40), .bool t258] 29 (0, 0))) ∧ Aside0 (Below w.heap.size w wc))
  case first =>
   have H := HC11.out
   clear HC11
   replace H := Option.bind_eq_some_iff.mp H
   obtain ⟨t261, A410, H⟩ := H
   replace H : (if t261 = true then (laws_FnExactNewWeaving.j0 k t238 t259 (t259 != t238) a0_0 a0_1 l0_2 t225 t226 t227 t230 t233 t234 t237 t240 t241 t242 t246 t247 t248 t251 t254 t255 t258) else (laws_FnExactNewWeaving.j0 k t238 t259 true a0_0 a0_1 l0_2 t225 t226 t227 t230 t233 t234 t237 t240 t241 t242 t246 t247 t248 t251 t254 t255 t258)) = some r := H
   have A41 := Aside0.mk A410
   clear A410
   by_cases c42 : t261 = true
   ·subst c42
    have H1 : (laws_FnExactNewWeaving.j0 k t238 t259 (t259 != t238) a0_0 a0_1 l0_2 t225 t226 t227 t230 t233 t234 t237 t240 t241 t242 t246 t247 t248 t251 t254 t255 t258) = some r := by rw [if_pos rfl] at H; exact H
    clear H
    have H := H1
    clear H1
    have H' := Aside0.mk H
    clear H
    have hnb43 := NB260_218.out
    have hnc43 := NB218_260.out
    have hnb44 := NB260_239.out
    have hnc44 := NB239_260.out
    have hnb45 := NB260_245.out
    have hnc45 := NB245_260.out
    obtain ⟨hcz46_0, hcz46_1, hcz46_2, hcz46_3, hcz46_4, hcz46_5, hcz46_6, hfz46_0, hfz46_1, hfz46_2, hfz46_3, hfz46_4, hfz46_5, hfz46_6⟩ := bc7_ BK260
    have hnb47 := NB239_218.out
    have hnc47 := NB218_239.out
    have hnb48 := NB239_245.out
    have hnc48 := NB245_239.out
    obtain ⟨hcz49_0, hcz49_1, hcz49_2, hcz49_3, hcz49_4, hcz49_5, hcz49_6, hfz49_0, hfz49_1, hfz49_2, hfz49_3, hfz49_4, hfz49_5, hfz49_6⟩ := bc7_ BK239
    go_wp2_with (first | ((with_reducible refine gate_callee (f := 28) rfl ?_); refine goesB (some 34) Try.func28 #[.agg #[.int .i64 t246, .int .i64 t247, .slice Ao38 t248.length co38, .slice Ao39 t251.length co39, .int .i64 t254, .slice Ao40 t255.length co40, .bool t258], .agg #[.int .i64 t225, .int .i64 t226, .slice Ao22 t227.length co22, .slice Ao23 t230.length co23, .int .i64 t233, .slice Ao24 t234.length co24, .bool t237]] ?_; (with_reducible refine (laws_eqWeaving.calls k t246 t247 _ _ t248 _ _ t251 t254 _ _ t255 t258 t225 t226 _ _ t227 _ _ t230 t233 _ _ t234 t237 true _ ?side1 ?side2 ?side3 ?side4 ?side5 ?side6 ?side7 ?side8 ?side9 ?side10 ?side11 ?side12 A41.out).mono ?_); (case side1 => refine (Kd.R_reads' (e := 3) (base := w.heap.size) (ok := fun k_ => ((((some k_ ≠ (.slice Ao39 t251.length co39 : Value).ownBlock ∧ some k_ ≠ (.slice Ao17 t222.length co17 : Value).ownBlock) ∧ some k_ ≠ (.slice Ao22 t227.length co22 : Value).ownBlock) ∧ some k_ ≠ (.slice Ao23 t230.length co23 : Value).ownBlock) ∧ some k_ ≠ (.slice Ao31 t242.length co31 : Value).ownBlock)) (n := t248.length) (c := co38) ?_).2.2; exact (by exact rf_ (Kd.R_types HO250.out BK260.out (by decide)) (fun _ h_ => h_.1))); (case side2 => exact (Kd.R_reads' HO250.out).2.1); (case side3 => refine (Kd.R_reads' (e := 3) (base := w.heap.size) (ok := fun k_ => ((((some k_ ≠ (.slice Ao38 t248.length co38 : Value).ownBlock ∧ some k_ ≠ (.slice Ao17 t222.length co17 : Value).ownBlock) ∧ some k_ ≠ (.slice Ao22 t227.length co22 : Value).ownBlock) ∧ some k_ ≠ (.slice Ao23 t230.length co23 : Value).ownBlock) ∧ some k_ ≠ (.slice Ao31 t242.length co31 : Value).ownBlock)) (n := t251.length) (c := co39) ?_).2.2; exact (by exact rf_ (Kd.R_types HO253.out BK260.out (by decide)) (fun _ h_ => h_.1))); (case side4 => exact (Kd.R_reads' HO253.out).2.1); (case side5 => refine (Kd.R_reads' (e := 64) (base := w.heap.size) (ok := fun k_ => (True ∧ some k_ ≠ (.slice Ao24 t234.length co24 : Value).ownBlock)) (n := t255.length) (c := co40) ?_).2.2; exact (by exact rf_ (Kd.R_types HO257.out BK260.out (by decide)) (fun _ h_ => h_.1))); (case side6 => exact (Kd.R_reads' HO257.out).2.1); (case side7 => refine (Kd.R_reads' (e := 3) (base := w.heap.size) (ok := fun k_ => ((((some k_ ≠ (.slice Ao23 t230.length co23 : Value).ownBlock ∧ some k_ ≠ (.slice Ao17 t222.length co17 : Value).ownBlock) ∧ some k_ ≠ (.slice Ao31 t242.length co31 : Value).ownBlock) ∧ some k_ ≠ (.slice Ao38 t248.length co38 : Value).ownBlock) ∧ some k_ ≠ (.slice Ao39 t251.length co39 : Value).ownBlock)) (n := t227.length) (c := co22) ?_).2.2; exact (by exact rf_ (Kd.R_types HO229.out BK260.out (by decide)) (fun _ h_ => h_.1))); (case side8 => exact (Kd.R_reads' HO229.out).2.1); (case side9 => refine (Kd.R_reads' (e := 3) (base := w.heap.size) (ok := fun k_ => ((((some k_ ≠ (.slice Ao22 t227.length co22 : Value).ownBlock ∧ some k_ ≠ (.slice Ao17 t222.length co17 : Value).ownBlock) ∧ some k_ ≠ (.slice Ao31 t242.length co31 : Value).ownBlock) ∧ some k_ ≠ (.slice Ao38 t248.length co38 : Value).ownBlock) ∧ some k_ ≠ (.slice Ao39 t251.length co39 : Value).ownBlock)) (n := t230.length) (c := co23) ?_).2.2; exact (by exact rf_ (Kd.R_types HO232.out BK260.out (by decide)) (fun _ h_ => h_.1))); (case side10 => exact (Kd.R_reads' HO232.out).2.1); (case side11 => refine (Kd.R_reads' (e := 64) (base := w.heap.size) (ok := fun k_ => (True ∧ some k_ ≠ (.slice Ao40 t255.length co40 : Value).ownBlock)) (n := t234.length) (c := co24) ?_).2.2; exact (by exact rf_ (Kd.R_types HO236.out BK260.out (by decide)) (fun _ h_ => h_.1))); (case side12 => exact (Kd.R_reads' HO236.out).2.1); rintro e w50 ⟨rfl, hb⟩; refine ⟨_, rfl, ?_⟩; replace HO224 := Aside0.mk (Kd.R_below (by exact rf_ (Kd.R_types HO224.out BK260.out (by decide)) (fun _ h_ => h_.1)) hb); replace HO229 := Aside0.mk (Kd.R_below (by exact rf_ (Kd.R_types HO229.out BK260.out (by decide)) (fun _ h_ => h_.1)) hb); replace HO232 := Aside0.mk (Kd.R_below (by exact rf_ (Kd.R_types HO232.out BK260.out (by decide)) (fun _ h_ => h_.1)) hb); replace HO236 := Aside0.mk (Kd.R_below (by exact rf_ (Kd.R_types HO236.out BK260.out (by decide)) (fun _ h_ => h_.1)) hb); replace HO244 := Aside0.mk (Kd.R_below (by exact rf_ (Kd.R_types HO244.out BK260.out (by decide)) (fun _ h_ => h_.1)) hb); replace HO250 := Aside0.mk (Kd.R_below (by exact rf_ (Kd.R_types HO250.out BK260.out (by decide)) (fun _ h_ => h_.1)) hb); replace HO253 := Aside0.mk (Kd.R_below (by exact rf_ (Kd.R_types HO253.out BK260.out (by decide)) (fun _ h_ => h_.1)) hb); replace HO257 := Aside0.mk (Kd.R_below (by exact rf_ (Kd.R_types HO257.out BK260.out (by decide)) (fun _ h_ => h_.1)) hb); replace BK218 := bb_ BK218 hb; replace BK239 := bb_ BK239 hb; replace BK245 := bb_ BK245 hb; replace BK260 := Aside0.mk (blk_below (g := gb260) (o := .cells #[.int .i64 t246, .int .i64 t247, .slice Ao38 t248.length co38, .slice Ao39 t251.length co39, .int .i64 t254, .slice Ao40 t255.length co40, .bool t258] 29 (0, 0)) (bq_ BK260) hb); replace HB := Aside0.mk (below_step bw_ hb); (try clear hb); (try clear hb2); (try clear hk); (try clear hi)))
    go_meet
    case rel => exact ⟨_, ((t259 != t238)), (by first | rfl | (simp; done) | (simp [*]; done)), H', ⟨by first | omega | exact Nat.le_refl _⟩, ⟨by (with_reducible repeat (first | apply Kd.R_alloc | apply Kd.R_drewN | apply Kd.R_drew)); exact Kd.R_mono HO229.out (fun _ hk => ⟨hk.1.1.1.1, ⟨hk.1.1.2, ⟨hk.1.2, hk.2⟩⟩⟩)⟩, ⟨by (with_reducible repeat (first | apply Kd.R_alloc | apply Kd.R_drewN | apply Kd.R_drew)); exact Kd.R_mono HO232.out (fun _ hk => ⟨hk.1.1.1.1, ⟨hk.1.1.2, ⟨hk.1.2, hk.2⟩⟩⟩)⟩, ⟨by (with_reducible repeat (first | apply Kd.R_alloc | apply Kd.R_drewN | apply Kd.R_drew)); exact Kd.R_mono HO236.out (fun _ hk => hk.2)⟩, ⟨by (with_reducible repeat (first | apply Kd.R_alloc | apply Kd.R_drewN | apply Kd.R_drew)); exact Kd.R_mono HO244.out (fun _ hk => ⟨hk.1.1.1.2, ⟨hk.1.1.2, ⟨hk.1.2, hk.2⟩⟩⟩)⟩, ⟨by (with_reducible repeat (first | apply Kd.R_alloc | apply Kd.R_drewN | apply Kd.R_drew)); exact Kd.R_mono HO250.out (fun _ hk => ⟨hk.1.1.2, ⟨hk.1.2, ⟨hk.2, hk.1.1.1.1⟩⟩⟩)⟩, ⟨by (with_reducible repeat (first | apply Kd.R_alloc | apply Kd.R_drewN | apply Kd.R_drew)); exact Kd.R_mono HO253.out (fun _ hk => ⟨hk.1.1.2, ⟨hk.1.2, ⟨hk.2, hk.1.1.1.1⟩⟩⟩)⟩, ⟨by (with_reducible repeat (first | apply Kd.R_alloc | apply Kd.R_drewN | apply Kd.R_drew)); exact Kd.R_mono HO257.out (fun _ hk => hk.2)⟩, ⟨bk_ BK218⟩, ⟨bk_ BK239⟩, ⟨bk_ BK245⟩, ⟨bk_ BK260⟩, ⟨bw_⟩⟩
   ·replace c42 := Bool.eq_false_iff.mpr c42
    subst c42
    have H1 : (laws_FnExactNewWeaving.j0 k t238 t259 true a0_0 a0_1 l0_2 t225 t226 t227 t230 t233 t234 t237 t240 t241 t242 t246 t247 t248 t251 t254 t255 t258) = some r := by rw [if_neg (show ¬ (false = true) by decide)] at H; exact H
    clear H
    have H := H1
    clear H1
    have H' := Aside0.mk H
    clear H
    have hnb51 := NB260_218.out
    have hnc51 := NB218_260.out
    have hnb52 := NB260_239.out
    have hnc52 := NB239_260.out
    have hnb53 := NB260_245.out
    have hnc53 := NB245_260.out
    obtain ⟨hcz54_0, hcz54_1, hcz54_2, hcz54_3, hcz54_4, hcz54_5, hcz54_6, hfz54_0, hfz54_1, hfz54_2, hfz54_3, hfz54_4, hfz54_5, hfz54_6⟩ := bc7_ BK260
    have hnb55 := NB239_218.out
    have hnc55 := NB218_239.out
    have hnb56 := NB239_245.out
    have hnc56 := NB245_239.out
    obtain ⟨hcz57_0, hcz57_1, hcz57_2, hcz57_3, hcz57_4, hcz57_5, hcz57_6, hfz57_0, hfz57_1, hfz57_2, hfz57_3, hfz57_4, hfz57_5, hfz57_6⟩ := bc7_ BK239
    go_wp2_with (first | ((with_reducible refine gate_callee (f := 28) rfl ?_); refine goesB (some 34) Try.func28 #[.agg #[.int .i64 t246, .int .i64 t247, .slice Ao38 t248.length co38, .slice Ao39 t251.length co39, .int .i64 t254, .slice Ao40 t255.length co40, .bool t258], .agg #[.int .i64 t225, .int .i64 t226, .slice Ao22 t227.length co22, .slice Ao23 t230.length co23, .int .i64 t233, .slice Ao24 t234.length co24, .bool t237]] ?_; (with_reducible refine (laws_eqWeaving.calls k t246 t247 _ _ t248 _ _ t251 t254 _ _ t255 t258 t225 t226 _ _ t227 _ _ t230 t233 _ _ t234 t237 false _ ?side1 ?side2 ?side3 ?side4 ?side5 ?side6 ?side7 ?side8 ?side9 ?side10 ?side11 ?side12 A41.out).mono ?_); (case side1 => refine (Kd.R_reads' (e := 3) (base := w.heap.size) (ok := fun k_ => ((((some k_ ≠ (.slice Ao39 t251.length co39 : Value).ownBlock ∧ some k_ ≠ (.slice Ao17 t222.length co17 : Value).ownBlock) ∧ some k_ ≠ (.slice Ao22 t227.length co22 : Value).ownBlock) ∧ some k_ ≠ (.slice Ao23 t230.length co23 : Value).ownBlock) ∧ some k_ ≠ (.slice Ao31 t242.length co31 : Value).ownBlock)) (n := t248.length) (c := co38) ?_).2.2; exact (by exact rf_ (Kd.R_types HO250.out BK260.out (by decide)) (fun _ h_ => h_.1))); (case side2 => exact (Kd.R_reads' HO250.out).2.1); (case side3 => refine (Kd.R_reads' (e := 3) (base := w.heap.size) (ok := fun k_ => ((((some k_ ≠ (.slice Ao38 t248.length co38 : Value).ownBlock ∧ some k_ ≠ (.slice Ao17 t222.length co17 : Value).ownBlock) ∧ some k_ ≠ (.slice Ao22 t227.length co22 : Value).ownBlock) ∧ some k_ ≠ (.slice Ao23 t230.length co23 : Value).ownBlock) ∧ some k_ ≠ (.slice Ao31 t242.length co31 : Value).ownBlock)) (n := t251.length) (c := co39) ?_).2.2; exact (by exact rf_ (Kd.R_types HO253.out BK260.out (by decide)) (fun _ h_ => h_.1))); (case side4 => exact (Kd.R_reads' HO253.out).2.1); (case side5 => refine (Kd.R_reads' (e := 64) (base := w.heap.size) (ok := fun k_ => (True ∧ some k_ ≠ (.slice Ao24 t234.length co24 : Value).ownBlock)) (n := t255.length) (c := co40) ?_).2.2; exact (by exact rf_ (Kd.R_types HO257.out BK260.out (by decide)) (fun _ h_ => h_.1))); (case side6 => exact (Kd.R_reads' HO257.out).2.1); (case side7 => refine (Kd.R_reads' (e := 3) (base := w.heap.size) (ok := fun k_ => ((((some k_ ≠ (.slice Ao23 t230.length co23 : Value).ownBlock ∧ some k_ ≠ (.slice Ao17 t222.length co17 : Value).ownBlock) ∧ some k_ ≠ (.slice Ao31 t242.length co31 : Value).ownBlock) ∧ some k_ ≠ (.slice Ao38 t248.length co38 : Value).ownBlock) ∧ some k_ ≠ (.slice Ao39 t251.length co39 : Value).ownBlock)) (n := t227.length) (c := co22) ?_).2.2; exact (by exact rf_ (Kd.R_types HO229.out BK260.out (by decide)) (fun _ h_ => h_.1))); (case side8 => exact (Kd.R_reads' HO229.out).2.1); (case side9 => refine (Kd.R_reads' (e := 3) (base := w.heap.size) (ok := fun k_ => ((((some k_ ≠ (.slice Ao22 t227.length co22 : Value).ownBlock ∧ some k_ ≠ (.slice Ao17 t222.length co17 : Value).ownBlock) ∧ some k_ ≠ (.slice Ao31 t242.length co31 : Value).ownBlock) ∧ some k_ ≠ (.slice Ao38 t248.length co38 : Value).ownBlock) ∧ some k_ ≠ (.slice Ao39 t251.length co39 : Value).ownBlock)) (n := t230.length) (c := co23) ?_).2.2; exact (by exact rf_ (Kd.R_types HO232.out BK260.out (by decide)) (fun _ h_ => h_.1))); (case side10 => exact (Kd.R_reads' HO232.out).2.1); (case side11 => refine (Kd.R_reads' (e := 64) (base := w.heap.size) (ok := fun k_ => (True ∧ some k_ ≠ (.slice Ao40 t255.length co40 : Value).ownBlock)) (n := t234.length) (c := co24) ?_).2.2; exact (by exact rf_ (Kd.R_types HO236.out BK260.out (by decide)) (fun _ h_ => h_.1))); (case side12 => exact (Kd.R_reads' HO236.out).2.1); rintro e w58 ⟨rfl, hb⟩; refine ⟨_, rfl, ?_⟩; replace HO224 := Aside0.mk (Kd.R_below (by exact rf_ (Kd.R_types HO224.out BK260.out (by decide)) (fun _ h_ => h_.1)) hb); replace HO229 := Aside0.mk (Kd.R_below (by exact rf_ (Kd.R_types HO229.out BK260.out (by decide)) (fun _ h_ => h_.1)) hb); replace HO232 := Aside0.mk (Kd.R_below (by exact rf_ (Kd.R_types HO232.out BK260.out (by decide)) (fun _ h_ => h_.1)) hb); replace HO236 := Aside0.mk (Kd.R_below (by exact rf_ (Kd.R_types HO236.out BK260.out (by decide)) (fun _ h_ => h_.1)) hb); replace HO244 := Aside0.mk (Kd.R_below (by exact rf_ (Kd.R_types HO244.out BK260.out (by decide)) (fun _ h_ => h_.1)) hb); replace HO250 := Aside0.mk (Kd.R_below (by exact rf_ (Kd.R_types HO250.out BK260.out (by decide)) (fun _ h_ => h_.1)) hb); replace HO253 := Aside0.mk (Kd.R_below (by exact rf_ (Kd.R_types HO253.out BK260.out (by decide)) (fun _ h_ => h_.1)) hb); replace HO257 := Aside0.mk (Kd.R_below (by exact rf_ (Kd.R_types HO257.out BK260.out (by decide)) (fun _ h_ => h_.1)) hb); replace BK218 := bb_ BK218 hb; replace BK239 := bb_ BK239 hb; replace BK245 := bb_ BK245 hb; replace BK260 := Aside0.mk (blk_below (g := gb260) (o := .cells #[.int .i64 t246, .int .i64 t247, .slice Ao38 t248.length co38, .slice Ao39 t251.length co39, .int .i64 t254, .slice Ao40 t255.length co40, .bool t258] 29 (0, 0)) (bq_ BK260) hb); replace HB := Aside0.mk (below_step bw_ hb); (try clear hb); (try clear hb2); (try clear hk); (try clear hi)))
    go_meet
    case rel => exact ⟨_, (true), (by first | rfl | (simp; done) | (simp [*]; done)), H', ⟨by first | omega | exact Nat.le_refl _⟩, ⟨by (with_reducible repeat (first | apply Kd.R_alloc | apply Kd.R_drewN | apply Kd.R_drew)); exact Kd.R_mono HO229.out (fun _ hk => ⟨hk.1.1.1.1, ⟨hk.1.1.2, ⟨hk.1.2, hk.2⟩⟩⟩)⟩, ⟨by (with_reducible repeat (first | apply Kd.R_alloc | apply Kd.R_drewN | apply Kd.R_drew)); exact Kd.R_mono HO232.out (fun _ hk => ⟨hk.1.1.1.1, ⟨hk.1.1.2, ⟨hk.1.2, hk.2⟩⟩⟩)⟩, ⟨by (with_reducible repeat (first | apply Kd.R_alloc | apply Kd.R_drewN | apply Kd.R_drew)); exact Kd.R_mono HO236.out (fun _ hk => hk.2)⟩, ⟨by (with_reducible repeat (first | apply Kd.R_alloc | apply Kd.R_drewN | apply Kd.R_drew)); exact Kd.R_mono HO244.out (fun _ hk => ⟨hk.1.1.1.2, ⟨hk.1.1.2, ⟨hk.1.2, hk.2⟩⟩⟩)⟩, ⟨by (with_reducible repeat (first | apply Kd.R_alloc | apply Kd.R_drewN | apply Kd.R_drew)); exact Kd.R_mono HO250.out (fun _ hk => ⟨hk.1.1.2, ⟨hk.1.2, ⟨hk.2, hk.1.1.1.1⟩⟩⟩)⟩, ⟨by (with_reducible repeat (first | apply Kd.R_alloc | apply Kd.R_drewN | apply Kd.R_drew)); exact Kd.R_mono HO253.out (fun _ hk => ⟨hk.1.1.2, ⟨hk.1.2, ⟨hk.2, hk.1.1.1.1⟩⟩⟩)⟩, ⟨by (with_reducible repeat (first | apply Kd.R_alloc | apply Kd.R_drewN | apply Kd.R_drew)); exact Kd.R_mono HO257.out (fun _ hk => hk.2)⟩, ⟨bk_ BK218⟩, ⟨bk_ BK239⟩, ⟨bk_ BK245⟩, ⟨bk_ BK260⟩, ⟨bw_⟩⟩
  case rest =>
   clear HC11
   try clear c2
   try clear p2
   try clear c3
   try clear c3b0
   try clear c4
   try clear c5
   try clear c20
   try clear c24
   try clear c25
   try clear c26
   try clear c27
   try clear c28
   try clear c29
   try clear c34
   try clear c35
   try clear c36
   try clear c42
   try clear c43
   try clear c44
   try clear c45
   try clear c47
   try clear c48
   try clear c51
   try clear c52
   try clear c53
   try clear c55
   try clear c56
   try clear hcz13_0
   try clear hcz13_1
   try clear hcz13_2
   try clear hcz15_0
   try clear hcz15_1
   try clear hcz15_2
   try clear hcz21_0
   try clear hcz21_1
   try clear hcz21_2
   try clear hcz21_3
   try clear hcz21_4
   try clear hcz21_5
   try clear hcz21_6
   try clear hcz25_0
   try clear hcz25_1
   try clear hcz25_2
   try clear hcz30_0
   try clear hcz30_1
   try clear hcz30_2
   try clear hcz37_0
   try clear hcz37_1
   try clear hcz37_2
   try clear hcz37_3
   try clear hcz37_4
   try clear hcz37_5
   try clear hcz37_6
   try clear hcz46_0
   try clear hcz46_1
   try clear hcz46_2
   try clear hcz46_3
   try clear hcz46_4
   try clear hcz46_5
   try clear hcz46_6
   try clear hcz49_0
   try clear hcz49_1
   try clear hcz49_2
   try clear hcz49_3
   try clear hcz49_4
   try clear hcz49_5
   try clear hcz49_6
   try clear hcz54_0
   try clear hcz54_1
   try clear hcz54_2
   try clear hcz54_3
   try clear hcz54_4
   try clear hcz54_5
   try clear hcz54_6
   try clear hcz57_0
   try clear hcz57_1
   try clear hcz57_2
   try clear hcz57_3
   try clear hcz57_4
   try clear hcz57_5
   try clear hcz57_6
   try clear hcz5_0
   try clear hcz5_1
   try clear hcz5_2
   try clear hfz13_0
   try clear hfz13_1
   try clear hfz13_2
   try clear hfz15_0
   try clear hfz15_1
   try clear hfz15_2
   try clear hfz21_0
   try clear hfz21_1
   try clear hfz21_2
   try clear hfz21_3
   try clear hfz21_4
   try clear hfz21_5
   try clear hfz21_6
   try clear hfz25_0
   try clear hfz25_1
   try clear hfz25_2
   try clear hfz30_0
   try clear hfz30_1
   try clear hfz30_2
   try clear hfz37_0
   try clear hfz37_1
   try clear hfz37_2
   try clear hfz37_3
   try clear hfz37_4
   try clear hfz37_5
   try clear hfz37_6
   try clear hfz46_0
   try clear hfz46_1
   try clear hfz46_2
   try clear hfz46_3
   try clear hfz46_4
   try clear hfz46_5
   try clear hfz46_6
   try clear hfz49_0
   try clear hfz49_1
   try clear hfz49_2
   try clear hfz49_3
   try clear hfz49_4
   try clear hfz49_5
   try clear hfz49_6
   try clear hfz54_0
   try clear hfz54_1
   try clear hfz54_2
   try clear hfz54_3
   try clear hfz54_4
   try clear hfz54_5
   try clear hfz54_6
   try clear hfz57_0
   try clear hfz57_1
   try clear hfz57_2
   try clear hfz57_3
   try clear hfz57_4
   try clear hfz57_5
   try clear hfz57_6
   try clear hfz5_0
   try clear hfz5_1
   try clear hfz5_2
   obtain ⟨kq, x40_10, rfl, HA, HJ10, HO_240002, HO_240003, HO_240005, HO_246002, HO_261002, HO_261003, HO_261005, BK218, BK239, BK245, BK260, HB⟩ := hcut
   cases kq with
   | zero => exact absurd HA.out (by simp [laws_FnExactNewWeaving.j0])
   | succ kj10 =>
    have H := HA.out
    clear HA
    simp only [laws_FnExactNewWeaving.j0] at H
    by_cases c59 : x40_10 = true
    ·subst c59
     have H1 : (some false) = some r := by rw [if_pos rfl] at H; exact H
     clear H
     have H := H1
     clear H1
     exact absurd (H.trans (congrArg some HRT.out)) (by simp)
    ·replace c59 := Bool.eq_false_iff.mpr c59
     subst c59
     have H1 : ((laws_toChart.f kj10 a0_0 a0_1 l0_2).bind fun bt262 => ((laws_eqChart.f kj10 t240 t241 t242 bt262.1 bt262.2.1 bt262.2.2).bind fun t267 => (if t267 = true then ((laws_markChart.f kj10 t240 t241 t242 1).bind fun bt268 => (if bt268.1 < 0 then (laws_FnExactNewWeaving.j1 kj10 t238 true a0_0 a0_1 l0_2 t225 t226 t227 t230 t233 t234 t237 t246 t247 t248 t251 t254 t255 t258) else ((laws_eqWeaving.f kj10 t246 t247 t248 t251 t254 t255 t258 t225 t226 t227 t230 t233 t234 t237).bind fun t270 => (if t270 = true then (laws_FnExactNewWeaving.j1 kj10 t238 (t259 != t238) a0_0 a0_1 l0_2 t225 t226 t227 t230 t233 t234 t237 t246 t247 t248 t251 t254 t255 t258) else (laws_FnExactNewWeaving.j1 kj10 t238 true a0_0 a0_1 l0_2 t225 t226 t227 t230 t233 t234 t237 t246 t247 t248 t251 t254 t255 t258))))) else (some false)))) = some r := by rw [if_neg (show ¬ (false = true) by decide)] at H; exact H
     clear H
     have H := H1
     clear H1
     replace H := Option.bind_eq_some_iff.mp H
     obtain ⟨⟨t262, t263, t264⟩, A600, H⟩ := H
     replace H : ((laws_eqChart.f kj10 t240 t241 t242 t262 t263 t264).bind fun t267 => (if t267 = true then ((laws_markChart.f kj10 t240 t241 t242 1).bind fun bt268 => (if bt268.1 < 0 then (laws_FnExactNewWeaving.j1 kj10 t238 true a0_0 a0_1 l0_2 t225 t226 t227 t230 t233 t234 t237 t246 t247 t248 t251 t254 t255 t258) else ((laws_eqWeaving.f kj10 t246 t247 t248 t251 t254 t255 t258 t225 t226 t227 t230 t233 t234 t237).bind fun t270 => (if t270 = true then (laws_FnExactNewWeaving.j1 kj10 t238 (t259 != t238) a0_0 a0_1 l0_2 t225 t226 t227 t230 t233 t234 t237 t246 t247 t248 t251 t254 t255 t258) else (laws_FnExactNewWeaving.j1 kj10 t238 true a0_0 a0_1 l0_2 t225 t226 t227 t230 t233 t234 t237 t246 t247 t248 t251 t254 t255 t258))))) else (some false))) = some r := H
     have A60 := Aside0.mk A600
     clear A600
     replace H := Option.bind_eq_some_iff.mp H
     obtain ⟨t267, A610, H⟩ := H
     replace H : (if t267 = true then ((laws_markChart.f kj10 t240 t241 t242 1).bind fun bt268 => (if bt268.1 < 0 then (laws_FnExactNewWeaving.j1 kj10 t238 true a0_0 a0_1 l0_2 t225 t226 t227 t230 t233 t234 t237 t246 t247 t248 t251 t254 t255 t258) else ((laws_eqWeaving.f kj10 t246 t247 t248 t251 t254 t255 t258 t225 t226 t227 t230 t233 t234 t237).bind fun t270 => (if t270 = true then (laws_FnExactNewWeaving.j1 kj10 t238 (t259 != t238) a0_0 a0_1 l0_2 t225 t226 t227 t230 t233 t234 t237 t246 t247 t248 t251 t254 t255 t258) else (laws_FnExactNewWeaving.j1 kj10 t238 true a0_0 a0_1 l0_2 t225 t226 t227 t230 t233 t234 t237 t246 t247 t248 t251 t254 t255 t258))))) else (some false)) = some r := H
     have A61 := Aside0.mk A610
     clear A610
     by_cases c62 : t267 = true
     ·subst c62
      have H1 : ((laws_markChart.f kj10 t240 t241 t242 1).bind fun bt268 => (if bt268.1 < 0 then (laws_FnExactNewWeaving.j1 kj10 t238 true a0_0 a0_1 l0_2 t225 t226 t227 t230 t233 t234 t237 t246 t247 t248 t251 t254 t255 t258) else ((laws_eqWeaving.f kj10 t246 t247 t248 t251 t254 t255 t258 t225 t226 t227 t230 t233 t234 t237).bind fun t270 => (if t270 = true then (laws_FnExactNewWeaving.j1 kj10 t238 (t259 != t238) a0_0 a0_1 l0_2 t225 t226 t227 t230 t233 t234 t237 t246 t247 t248 t251 t254 t255 t258) else (laws_FnExactNewWeaving.j1 kj10 t238 true a0_0 a0_1 l0_2 t225 t226 t227 t230 t233 t234 t237 t246 t247 t248 t251 t254 t255 t258))))) = some r := by rw [if_pos rfl] at H; exact H
      clear H
      have H := H1
      clear H1
      replace H := Option.bind_eq_some_iff.mp H
      obtain ⟨⟨t268, t269⟩, A630, H⟩ := H
      replace H : (if t268 < 0 then (laws_FnExactNewWeaving.j1 kj10 t238 true a0_0 a0_1 l0_2 t225 t226 t227 t230 t233 t234 t237 t246 t247 t248 t251 t254 t255 t258) else ((laws_eqWeaving.f kj10 t246 t247 t248 t251 t254 t255 t258 t225 t226 t227 t230 t233 t234 t237).bind fun t270 => (if t270 = true then (laws_FnExactNewWeaving.j1 kj10 t238 (t259 != t238) a0_0 a0_1 l0_2 t225 t226 t227 t230 t233 t234 t237 t246 t247 t248 t251 t254 t255 t258) else (laws_FnExactNewWeaving.j1 kj10 t238 true a0_0 a0_1 l0_2 t225 t226 t227 t230 t233 t234 t237 t246 t247 t248 t251 t254 t255 t258)))) = some r := H
      have A63 := Aside0.mk A630
      clear A630
      have HC64 := Aside0.mk H
      clear H
      try go_wp2
      replace HO_240002 := Aside0.mk (Kd.R_drew HO_240002.out)
      replace HO_240003 := Aside0.mk (Kd.R_drew HO_240003.out)
      replace HO_240005 := Aside0.mk (Kd.R_drew HO_240005.out)
      replace HO_246002 := Aside0.mk (Kd.R_drew HO_246002.out)
      replace HO_261002 := Aside0.mk (Kd.R_drew HO_261002.out)
      replace HO_261003 := Aside0.mk (Kd.R_drew HO_261003.out)
      replace HO_261005 := Aside0.mk (Kd.R_drew HO_261005.out)
      replace BK218 := Aside0.mk (blk_drew BK218.out)
      replace BK239 := Aside0.mk (blk_drew BK239.out)
      replace BK245 := Aside0.mk (blk_drew BK245.out)
      replace BK260 := Aside0.mk (blk_drew BK260.out)
      replace HB := Aside0.mk (below_drew1 HB.out)
      refine start_ (n := 5) (S := fun w' => w'.cell? ⟨gb245, 0, none⟩ = some (.int .i64 t240) ∧ w'.cell? ⟨gb245, 1, none⟩ = some (.int .i64 t241) ∧ w'.cell? ⟨gb245, 2, none⟩ = some (.slice Ao31 t242.length co31) ∧ w'.cell? ⟨gb218, 0, none⟩ = some (.int .i64 a0_0) ∧ w'.cell? ⟨gb218, 1, none⟩ = some (.int .i64 a0_1) ∧ w'.cell? ⟨gb218, 2, none⟩ = some (.slice A0_2 l0_2.length c0_2)) (ds := []) #[false, false, false, false, false] (by kernel_rfl) rfl rfl ⟨bc_ BK245 0, bc_ BK245 1, bc_ BK245 2, bc_ BK218 0, bc_ BK218 1, bc_ BK218 2⟩ (fun hHeld => ?_)
      generalize wc.drew = w65 at HO_240002 HO_240003 HO_240005 HO_246002 HO_261002 HO_261003 HO_261005 BK218 BK239 BK245 BK260 HB hHeld ⊢
      refine take_ (i := 0) (N := some 41) (v := ?_) (a' := ?_) #[true, false, false, false, false] rfl rfl (by kernel_rfl) (fun _ _ _ h => h) (Or.inl ⟨by rfl, ?_⟩) hHeld ?_ ?_
      rotate_left
      ·rintro w' ⟨s0, s1, s2, s3, s4, s5⟩
       go_simp
       with_reducible rfl
      rotate_left
      ·simp only [Act.put, List.setIfInBounds_toArray, List.set_cons_zero, List.set_cons_succ, i64_w, i32_w]
       rfl
      refine take_ (i := 1) (N := some 42) (v := ?_) (a' := ?_) #[true, true, false, false, false] rfl rfl (by kernel_rfl) (fun _ _ _ h => h) (Or.inl ⟨by rfl, ?_⟩) hHeld ?_ ?_
      rotate_left
      ·rintro w' ⟨s0, s1, s2, s3, s4, s5⟩
       go_simp
       with_reducible rfl
      rotate_left
      ·simp only [Act.put, List.setIfInBounds_toArray, List.set_cons_zero, List.set_cons_succ, i64_w, i32_w]
       rfl
      refine one_ (i := 2) (N := some 43) #[true, true, true, false, false] rfl rfl (by kernel_rfl) (by decide) (fun K hK => ?_)
      refine goesA Try.func26 #[.agg #[.int .i64 a0_0, .int .i64 a0_1, .slice A0_2 l0_2.length c0_2]] ?_
      with_reducible refine (laws_toChart.calls kj10 a0_0 a0_1 _ _ l0_2 t262 t263 t264 _ ?side1 ?side2 A60.out).mono ?_
      (case side1 => exact cb_ HR0_2 HB)
      (case side2 => exact HC0_2.out)
      rintro e w66 ⟨v265, rfl, ho0, hb⟩
      refine ⟨_, rfl, ?_⟩
      have n0_ := Aside0.mk (Kd.R_elder' (by (with_reducible repeat (first | apply Kd.R_alloc | apply Kd.R_drewN | apply Kd.R_drew)); exact HO_240002.out) (Kd.R_base ho0) hb)
      have n1_ := Aside0.mk (Kd.R_elder' (by (with_reducible repeat (first | apply Kd.R_alloc | apply Kd.R_drewN | apply Kd.R_drew)); exact HO_240003.out) (Kd.R_base ho0) hb)
      have n2_ := Aside0.mk (Kd.R_below (by (with_reducible repeat (first | apply Kd.R_alloc | apply Kd.R_drewN | apply Kd.R_drew)); exact HO_240005.out) hb)
      have n3_ := Aside0.mk (Kd.R_elder' (by (with_reducible repeat (first | apply Kd.R_alloc | apply Kd.R_drewN | apply Kd.R_drew)); exact HO_246002.out) (Kd.R_base ho0) hb)
      have n4_ := Aside0.mk (Kd.R_elder' (by (with_reducible repeat (first | apply Kd.R_alloc | apply Kd.R_drewN | apply Kd.R_drew)); exact HO_261002.out) (Kd.R_base ho0) hb)
      have n5_ := Aside0.mk (Kd.R_elder' (by (with_reducible repeat (first | apply Kd.R_alloc | apply Kd.R_drewN | apply Kd.R_drew)); exact HO_261003.out) (Kd.R_base ho0) hb)
      have n6_ := Aside0.mk (Kd.R_below (by (with_reducible repeat (first | apply Kd.R_alloc | apply Kd.R_drewN | apply Kd.R_drew)); exact HO_261005.out) hb)
      have n7_ := Aside0.mk (Kd.R_lower (Kd.R_new' (Kd.R_new' (Kd.R_new' (Kd.R_new' (Kd.R_new' ho0 (Kd.R_lt (by (with_reducible repeat (first | apply Kd.R_alloc | apply Kd.R_drewN | apply Kd.R_drew)); exact HO_240002.out))) (Kd.R_lt (by (with_reducible repeat (first | apply Kd.R_alloc | apply Kd.R_drewN | apply Kd.R_drew)); exact HO_240003.out))) (Kd.R_lt (by (with_reducible repeat (first | apply Kd.R_alloc | apply Kd.R_drewN | apply Kd.R_drew)); exact HO_246002.out))) (Kd.R_lt (by (with_reducible repeat (first | apply Kd.R_alloc | apply Kd.R_drewN | apply Kd.R_drew)); exact HO_261002.out))) (Kd.R_lt (by (with_reducible repeat (first | apply Kd.R_alloc | apply Kd.R_drewN | apply Kd.R_drew)); exact HO_261003.out))) (below_size bw_))
      have n8_ := bb_ BK218 hb
      have n9_ := bb_ BK239 hb
      have n10_ := bb_ BK245 hb
      have n11_ := bb_ BK260 hb
      have n12_ := Aside0.mk (below_step bw_ hb)
      clear HO_240002
      clear HO_240003
      clear HO_240005
      clear HO_246002
      clear HO_261002
      clear HO_261003
      clear HO_261005
      clear BK218
      clear BK239
      clear BK245
      clear BK260
      clear HB
      have HO_240002 := n0_
      have HO_240003 := n1_
      have HO_240005 := n2_
      have HO_246002 := n3_
      have HO_261002 := n4_
      have HO_261003 := n5_
      have HO_261005 := n6_
      have HO266 := n7_
      have BK218 := n8_
      have BK239 := n9_
      have BK245 := n10_
      have BK260 := n11_
      have HB := n12_
      clear n0_ n1_ n2_ n3_ n4_ n5_ n6_ n7_ n8_ n9_ n10_ n11_ n12_
      (try clear hb)
      (try clear hb2)
      (try clear hk)
      (try clear hi)
      (try clear ho0)
      obtain ⟨Ao67, co67, eo67⟩ := Kd.R_slice HO266.out
      (first | subst eo67 | (injection eo67 with f1_ f2_ f3_; have f4_ := f1_.symm; have f5_ := f3_.symm; clear f1_ f2_ f3_; subst f4_; subst f5_))
      refine hK.out _ _ ⟨bc_ BK245 0, bc_ BK245 1, bc_ BK245 2, bc_ BK218 0, bc_ BK218 1, bc_ BK218 2⟩ (fun hHeld => ?_)
      clear hK K
      refine normA (N := some 43) ?_
      refine one_ (i := 3) (N := some 44) #[true, true, true, true, false] rfl rfl (by kernel_rfl) (by decide) (fun K hK => ?_)
      refine goesA Try.func29 #[.agg #[.int .i64 t240, .int .i64 t241, .slice Ao31 t242.length co31], .agg #[.int .i64 t262, .int .i64 t263, .slice Ao67 t264.length co67]] ?_
      with_reducible refine (laws_eqChart.calls kj10 t240 t241 _ _ t242 t262 t263 _ _ t264 true _ ?side1 ?side2 ?side3 ?side4 A61.out).mono ?_
      (case side1 => repeat (first | exact (Kd.R_reads' HO_246002.out).2.2 | (with_reducible refine Kd.C_alloc ?_ _) | (with_reducible refine Kd.C_drewN ?_ _) | (with_reducible refine Kd.C_drew ?_)))
      (case side2 => exact (Kd.R_reads' HO_246002.out).2.1)
      (case side3 => repeat (first | exact (Kd.R_reads' HO266.out).2.2 | (with_reducible refine Kd.C_alloc ?_ _) | (with_reducible refine Kd.C_drewN ?_ _) | (with_reducible refine Kd.C_drew ?_)))
      (case side4 => exact (Kd.R_reads' HO266.out).2.1)
      rintro e w68 ⟨rfl, hb⟩
      refine ⟨_, rfl, ?_⟩
      have n0_ := Aside0.mk (Kd.R_below (by (with_reducible repeat (first | apply Kd.R_alloc | apply Kd.R_drewN | apply Kd.R_drew)); exact HO_240002.out) hb)
      have n1_ := Aside0.mk (Kd.R_below (by (with_reducible repeat (first | apply Kd.R_alloc | apply Kd.R_drewN | apply Kd.R_drew)); exact HO_240003.out) hb)
      have n2_ := Aside0.mk (Kd.R_below (by (with_reducible repeat (first | apply Kd.R_alloc | apply Kd.R_drewN | apply Kd.R_drew)); exact HO_240005.out) hb)
      have n3_ := Aside0.mk (Kd.R_below (by (with_reducible repeat (first | apply Kd.R_alloc | apply Kd.R_drewN | apply Kd.R_drew)); exact HO_246002.out) hb)
      have n4_ := Aside0.mk (Kd.R_below (by (with_reducible repeat (first | apply Kd.R_alloc | apply Kd.R_drewN | apply Kd.R_drew)); exact HO_261002.out) hb)
      have n5_ := Aside0.mk (Kd.R_below (by (with_reducible repeat (first | apply Kd.R_alloc | apply Kd.R_drewN | apply Kd.R_drew)); exact HO_261003.out) hb)
      have n6_ := Aside0.mk (Kd.R_below (by (with_reducible repeat (first | apply Kd.R_alloc | apply Kd.R_drewN | apply Kd.R_drew)); exact HO_261005.out) hb)
      have n7_ := Aside0.mk (Kd.R_below (by (with_reducible repeat (first | apply Kd.R_alloc | apply Kd.R_drewN | apply Kd.R_drew)); exact HO266.out) hb)
      have n8_ := bb_ BK218 hb
      have n9_ := bb_ BK239 hb
      have n10_ := bb_ BK245 hb
      have n11_ := bb_ BK260 hb
      have n12_ := Aside0.mk (below_step bw_ hb)
      clear HO_240002
      clear HO_240003
      clear HO_240005
      clear HO_246002
      clear HO_261002
      clear HO_261003
      clear HO_261005
      clear HO266
      clear BK218
      clear BK239
      clear BK245
      clear BK260
      clear HB
      have HO_240002 := n0_
      have HO_240003 := n1_
      have HO_240005 := n2_
      have HO_246002 := n3_
      have HO_261002 := n4_
      have HO_261003 := n5_
      have HO_261005 := n6_
      have HO266 := n7_
      have BK218 := n8_
      have BK239 := n9_
      have BK245 := n10_
      have BK260 := n11_
      have HB := n12_
      clear n0_ n1_ n2_ n3_ n4_ n5_ n6_ n7_ n8_ n9_ n10_ n11_ n12_
      (try clear hb)
      (try clear hb2)
      (try clear hk)
      (try clear hi)
      refine hK.out _ _ ⟨bc_ BK245 0, bc_ BK245 1, bc_ BK245 2, bc_ BK218 0, bc_ BK218 1, bc_ BK218 2⟩ (fun hHeld => ?_)
      clear hK K
      refine normA (N := some 44) ?_
      refine pureK (N := some 45) 4 ?_
      refine done_ (by kernel_rfl) ?_
      have hnb69 := NB245_218.out
      have hnc69 := NB218_245.out
      have hnb70 := NB245_239.out
      have hnc70 := NB239_245.out
      have hnb71 := NB245_260.out
      have hnc71 := NB260_245.out
      obtain ⟨hcz72_0, hcz72_1, hcz72_2, hfz72_0, hfz72_1, hfz72_2⟩ := bc3_ BK245
      go_upto_region 14 with (first | ((with_reducible refine gate_callee (f := 30) rfl ?_); refine goesB (some 48) Try.func30 #[.agg #[.int .i64 t240, .int .i64 t241, .slice Ao31 t242.length co31], .int .i64 1] ?_; (with_reducible refine (laws_markChart.calls kj10 t240 t241 (fun k_ => some k_ = (.slice Ao31 t242.length co31 : Value).ownBlock) (.slice Ao31 t242.length co31) t242 1 t268 t269 w _ ?side1 ?side2 A63.out).mono ?_); (case side1 => repeat (first | (with_reducible first | exact HB.out | apply below_alloc | apply pw_below_drewN | apply below_drew1 | refine below_set ?_ GE218.out | refine below_set ?_ GE239.out | refine below_set ?_ GE245.out | refine below_set ?_ GE260.out) | exact HB.out)); (case side2 => exact Kd.R_tight rfl HO_246002.out); rintro e w73 ⟨rfl, hy0, hb, hkp⟩; refine ⟨_, rfl, ?_⟩; have n0_ := Aside0.mk (Kd.R_mono (ok' := fun k_ => some k_ ≠ (.slice Ao23 t230.length co23 : Value).ownBlock ∧ some k_ ≠ (.slice Ao31 t242.length co31 : Value).ownBlock ∧ some k_ ≠ (.slice Ao38 t248.length co38 : Value).ownBlock ∧ some k_ ≠ (.slice Ao39 t251.length co39 : Value).ownBlock ∧ some k_ ≠ (.slice Ao67 t264.length co67 : Value).ownBlock) (Kd.R_keptB (HO_240002.out) hkp (fun k_ hk_ hs_ => (hk_.1.2.1) hs_)) (fun k_ hk_ => ⟨hk_.1.1.1, hk_.1.1.2.1, hk_.1.1.2.2.1, hk_.1.1.2.2.2, hk_.1.2⟩)); have n1_ := Aside0.mk (Kd.R_mono (ok' := fun k_ => some k_ ≠ (.slice Ao22 t227.length co22 : Value).ownBlock ∧ some k_ ≠ (.slice Ao31 t242.length co31 : Value).ownBlock ∧ some k_ ≠ (.slice Ao38 t248.length co38 : Value).ownBlock ∧ some k_ ≠ (.slice Ao39 t251.length co39 : Value).ownBlock ∧ some k_ ≠ (.slice Ao67 t264.length co67 : Value).ownBlock) (Kd.R_keptB (HO_240003.out) hkp (fun k_ hk_ hs_ => (hk_.1.2.1) hs_)) (fun k_ hk_ => ⟨hk_.1.1.1, hk_.1.1.2.1, hk_.1.1.2.2.1, hk_.1.1.2.2.2, hk_.1.2⟩)); have n2_ := Aside0.mk (Kd.R_mono (ok' := fun k_ => some k_ ≠ (.slice Ao40 t255.length co40 : Value).ownBlock) (Kd.R_keptB ((Kd.R_apart' HO_240005.out (Kd.R_typed HO_246002.out) (by decide))) hkp (fun k_ hk_ hs_ => (hk_.2) hs_)) (fun k_ hk_ => hk_.1.1)); have n3_ := Aside0.mk (Kd.R_reok rfl hy0 (fun k_ e_ => HO_246002.out.1 k_ e_)); have n4_ := Aside0.mk (Kd.R_mono (ok' := fun k_ => some k_ ≠ (.slice Ao22 t227.length co22 : Value).ownBlock ∧ some k_ ≠ (.slice Ao23 t230.length co23 : Value).ownBlock ∧ some k_ ≠ (.slice Ao31 t242.length co31 : Value).ownBlock ∧ some k_ ≠ (.slice Ao39 t251.length co39 : Value).ownBlock ∧ some k_ ≠ (.slice Ao67 t264.length co67 : Value).ownBlock) (Kd.R_keptB (HO_261002.out) hkp (fun k_ hk_ hs_ => (hk_.1.2.2.1) hs_)) (fun k_ hk_ => ⟨hk_.1.1.1, hk_.1.1.2.1, hk_.1.1.2.2.1, hk_.1.1.2.2.2, hk_.1.2⟩)); have n5_ := Aside0.mk (Kd.R_mono (ok' := fun k_ => some k_ ≠ (.slice Ao22 t227.length co22 : Value).ownBlock ∧ some k_ ≠ (.slice Ao23 t230.length co23 : Value).ownBlock ∧ some k_ ≠ (.slice Ao31 t242.length co31 : Value).ownBlock ∧ some k_ ≠ (.slice Ao38 t248.length co38 : Value).ownBlock ∧ some k_ ≠ (.slice Ao67 t264.length co67 : Value).ownBlock) (Kd.R_keptB (HO_261003.out) hkp (fun k_ hk_ hs_ => (hk_.1.2.2.1) hs_)) (fun k_ hk_ => ⟨hk_.1.1.1, hk_.1.1.2.1, hk_.1.1.2.2.1, hk_.1.1.2.2.2, hk_.1.2⟩)); have n6_ := Aside0.mk (Kd.R_mono (ok' := fun k_ => some k_ ≠ (.slice Ao24 t234.length co24 : Value).ownBlock) (Kd.R_keptB ((Kd.R_apart' HO_261005.out (Kd.R_typed HO_246002.out) (by decide))) hkp (fun k_ hk_ hs_ => (hk_.2) hs_)) (fun k_ hk_ => hk_.1.1)); have n7_ := Aside0.mk (blk_kept (bk_ BK218) hkp (fun hs_ => (fun e_ => (Kd.R_ne HO_246002.out BK218.out (by decide)) e_) hs_)); have n8_ := Aside0.mk (blk_kept (bk_ BK239) hkp (fun hs_ => (fun e_ => (Kd.R_ne HO_246002.out BK239.out (by decide)) e_) hs_)); have n9_ := Aside0.mk (blk_kept (bk_ BK245) hkp (fun hs_ => (fun e_ => (Kd.R_ne HO_246002.out BK245.out (by decide)) e_) hs_)); have n10_ := Aside0.mk (blk_kept (bk_ BK260) hkp (fun hs_ => (fun e_ => (Kd.R_ne HO_246002.out BK260.out (by decide)) e_) hs_)); have n11_ := Aside0.mk (Kd.R_mono (ok' := fun k_ => some k_ ≠ (.slice Ao22 t227.length co22 : Value).ownBlock ∧ some k_ ≠ (.slice Ao23 t230.length co23 : Value).ownBlock ∧ some k_ ≠ (.slice Ao31 t242.length co31 : Value).ownBlock ∧ some k_ ≠ (.slice Ao38 t248.length co38 : Value).ownBlock ∧ some k_ ≠ (.slice Ao39 t251.length co39 : Value).ownBlock) (Kd.R_keptB (HO266.out) hkp (fun k_ hk_ hs_ => (hk_.1.1.2) hs_)) (fun k_ hk_ => ⟨hk_.1.1.1.1.1.2, hk_.1.1.1.1.2, hk_.1.1.1.2, hk_.1.1.2, hk_.1.2⟩)); have n12_ := Aside0.mk (hb); clear HO_240002; clear HO_240003; clear HO_240005; clear HO_246002; clear HO_261002; clear HO_261003; clear HO_261005; clear BK218; clear BK239; clear BK245; clear BK260; clear HO266; clear HB; have HO_240002 := n0_; have HO_240003 := n1_; have HO_240005 := n2_; have HO_246002 := n3_; have HO_261002 := n4_; have HO_261003 := n5_; have HO_261005 := n6_; have BK218 := n7_; have BK239 := n8_; have BK245 := n9_; have BK260 := n10_; have HO266 := n11_; have HB := n12_; clear n0_ n1_ n2_ n3_ n4_ n5_ n6_ n7_ n8_ n9_ n10_ n11_ n12_; (try clear hb); (try clear hkp); (try clear hy0)))
      (try simp only [Act.put, List.setIfInBounds_toArray, List.set_cons_zero, List.set_cons_succ])
      go_cut [61] (fun v61 wc => ∃ (kq : Nat) (x61_63 : Bool), v61 = .bool x61_63 ∧ Aside0 (laws_FnExactNewWeaving.j1 kq t238 x61_63 a0_0 a0_1 l0_2 t225 t226 t227 t230 t233 t234 t237 t246 t247 t248 t251 t254 t255 t258 = some r) ∧ Aside0 (kq ≤ kj10) ∧ Aside0 (Kd.R (Kd.int .i64) 3 wc w.heap.size (fun k_ => some k_ ≠ ((.slice Ao23 t230.length co23) : Value).ownBlock ∧ some k_ ≠ ((.slice Ao31 t242.length co31) : Value).ownBlock ∧ some k_ ≠ ((.slice Ao38 t248.length co38) : Value).ownBlock ∧ some k_ ≠ ((.slice Ao39 t251.length co39) : Value).ownBlock) (.slice Ao22 t227.length co22) t227) ∧ Aside0 (Kd.R (Kd.int .i64) 3 wc w.heap.size (fun k_ => some k_ ≠ ((.slice Ao22 t227.length co22) : Value).ownBlock ∧ some k_ ≠ ((.slice Ao31 t242.length co31) : Value).ownBlock ∧ some k_ ≠ ((.slice Ao38 t248.length co38) : Value).ownBlock ∧ some k_ ≠ ((.slice Ao39 t251.length co39) : Value).ownBlock) (.slice Ao23 t230.length co23) t230) ∧ Aside0 (Kd.R k64 64 wc w.heap.size (fun k_ => some k_ ≠ ((.slice Ao40 t255.length co40) : Value).ownBlock) (.slice Ao24 t234.length co24) t234) ∧ Aside0 (Kd.R (Kd.int .i64) 3 wc w.heap.size (fun k_ => some k_ ≠ ((.slice Ao22 t227.length co22) : Value).ownBlock ∧ some k_ ≠ ((.slice Ao23 t230.length co23) : Value).ownBlock ∧ some k_ ≠ ((.slice Ao38 t248.length co38) : Value).ownBlock ∧ some k_ ≠ ((.slice Ao39 t251.length co39) : Value).ownBlock) (.slice Ao31 t242.length co31) t269) ∧ Aside0 (Kd.R (Kd.int .i64) 3 wc w.heap.size (fun k_ => some k_ ≠ ((.slice Ao22 t227.length co22) : Value).ownBlock ∧ some k_ ≠ ((.slice Ao23 t230.length co23) : Value).ownBlock ∧ some k_ ≠ ((.slice Ao31 t242.length co31) : Value).ownBlock ∧ some k_ ≠ ((.slice Ao39 t251.length co39) : Value).ownBlock) (.slice Ao38 t248.length co38) t248) ∧ Aside0 (Kd.R (Kd.int .i64) 3 wc w.heap.size (fun k_ => some k_ ≠ ((.slice Ao22 t227.length co22) : Value).ownBlock ∧ some k_ ≠ ((.slice Ao23 t230.length co23) : Value).ownBlock ∧ some k_ ≠ ((.slice Ao31 t242.length co31) : Value).ownBlock ∧ some k_ ≠ ((.slice Ao38 t248.length co38) : Value).ownBlock) (.slice Ao39 t251.length co39) t251) ∧ Aside0 (Kd.R k64 64 wc w.heap.size (fun k_ => some k_ ≠ ((.slice Ao24 t234.length co24) : Value).ownBlock) (.slice Ao40 t255.length co40) t255) ∧ Aside0 (wc.heap[gb218]? = some (.cells #[.int .i64 a0_0, .int .i64 a0_1, (.slice A0_2 l0_2.length c0_2)] 42 (0, 0))) ∧ Aside0 (wc.heap[gb239]? = some (.cells #[.int .i64 t225, .int .i64 t226, (.slice Ao22 t227.length co22), (.slice Ao23 t230.length co23), .int .i64 t233, (.slice Ao24 t234.length co24), .bool t237] 29 (0, 0))) ∧ Aside0 (wc.heap[gb245]? = some (.cells #[.int .i64 t240, .int .i64 t241, (.slice Ao31 t242.length co31)] 26 (0, 0))) ∧ Aside0 (wc.heap[gb260]? = some (.cells #[.int .i64 t246, .int .i64 t247, (.slice Ao38 t248.length co38), (.slice Ao39 t251.length co39), .int .i64 t254, (.slice Ao40 t255.length co40), .bool t258] 29 (0, 0))) ∧ Aside0 (Below w.heap.size w wc))
      case first =>
       have H := HC64.out
       clear HC64
       by_cases c74 : t268 < 0
       ·rw [if_pos c74] at H
        have c74b0 : decide (t268 < 0) = true := decide_eq_true c74
        clear c74
        (first | rw [c74b0] | (simp only [i64_w, i32_w]; rw [c74b0]) | skip)
        have H' := Aside0.mk H
        clear H
        go_wp2
        go_meet
        case rel => exact ⟨_, (true), (by first | rfl | (simp; done) | (simp [*]; done)), H', ⟨by have := HJ10.out; first | omega | exact Nat.le_refl _⟩, ⟨by (with_reducible repeat (first | apply Kd.R_alloc | apply Kd.R_drewN | apply Kd.R_drew)); exact Kd.R_mono HO_240002.out (fun _ hk => ⟨hk.1, ⟨hk.2.1, ⟨hk.2.2.1, hk.2.2.2.1⟩⟩⟩)⟩, ⟨by (with_reducible repeat (first | apply Kd.R_alloc | apply Kd.R_drewN | apply Kd.R_drew)); exact Kd.R_mono HO_240003.out (fun _ hk => ⟨hk.1, ⟨hk.2.1, ⟨hk.2.2.1, hk.2.2.2.1⟩⟩⟩)⟩, ⟨by (with_reducible repeat (first | apply Kd.R_alloc | apply Kd.R_drewN | apply Kd.R_drew)); exact HO_240005.out⟩, ⟨by (with_reducible repeat (first | apply Kd.R_alloc | apply Kd.R_drewN | apply Kd.R_drew)); exact Kd.R_mono HO_246002.out (fun _ hk => ⟨hk.1.1, ⟨hk.1.2.1, ⟨hk.1.2.2.1, hk.1.2.2.2⟩⟩⟩)⟩, ⟨by (with_reducible repeat (first | apply Kd.R_alloc | apply Kd.R_drewN | apply Kd.R_drew)); exact Kd.R_mono HO_261002.out (fun _ hk => ⟨hk.1, ⟨hk.2.1, ⟨hk.2.2.1, hk.2.2.2.1⟩⟩⟩)⟩, ⟨by (with_reducible repeat (first | apply Kd.R_alloc | apply Kd.R_drewN | apply Kd.R_drew)); exact Kd.R_mono HO_261003.out (fun _ hk => ⟨hk.1, ⟨hk.2.1, ⟨hk.2.2.1, hk.2.2.2.1⟩⟩⟩)⟩, ⟨by (with_reducible repeat (first | apply Kd.R_alloc | apply Kd.R_drewN | apply Kd.R_drew)); exact HO_261005.out⟩, ⟨bk_ BK218⟩, ⟨bk_ BK239⟩, ⟨bk_ BK245⟩, ⟨bk_ BK260⟩, ⟨bw_⟩⟩
       ·rw [if_neg c74] at H
        have c74b0 : decide (t268 < 0) = false := decide_eq_false c74
        clear c74
        (first | rw [c74b0] | (simp only [i64_w, i32_w]; rw [c74b0]) | skip)
        replace H := Option.bind_eq_some_iff.mp H
        obtain ⟨t270, A750, H⟩ := H
        replace H : (if t270 = true then (laws_FnExactNewWeaving.j1 kj10 t238 (t259 != t238) a0_0 a0_1 l0_2 t225 t226 t227 t230 t233 t234 t237 t246 t247 t248 t251 t254 t255 t258) else (laws_FnExactNewWeaving.j1 kj10 t238 true a0_0 a0_1 l0_2 t225 t226 t227 t230 t233 t234 t237 t246 t247 t248 t251 t254 t255 t258)) = some r := H
        have A75 := Aside0.mk A750
        clear A750
        by_cases c76 : t270 = true
        ·subst c76
         have H1 : (laws_FnExactNewWeaving.j1 kj10 t238 (t259 != t238) a0_0 a0_1 l0_2 t225 t226 t227 t230 t233 t234 t237 t246 t247 t248 t251 t254 t255 t258) = some r := by rw [if_pos rfl] at H; exact H
         clear H
         have H := H1
         clear H1
         have H' := Aside0.mk H
         clear H
         have hnb77 := NB260_218.out
         have hnc77 := NB218_260.out
         have hnb78 := NB260_239.out
         have hnc78 := NB239_260.out
         have hnb79 := NB260_245.out
         have hnc79 := NB245_260.out
         obtain ⟨hcz80_0, hcz80_1, hcz80_2, hcz80_3, hcz80_4, hcz80_5, hcz80_6, hfz80_0, hfz80_1, hfz80_2, hfz80_3, hfz80_4, hfz80_5, hfz80_6⟩ := bc7_ BK260
         have hnb81 := NB239_218.out
         have hnc81 := NB218_239.out
         have hnb82 := NB239_245.out
         have hnc82 := NB245_239.out
         obtain ⟨hcz83_0, hcz83_1, hcz83_2, hcz83_3, hcz83_4, hcz83_5, hcz83_6, hfz83_0, hfz83_1, hfz83_2, hfz83_3, hfz83_4, hfz83_5, hfz83_6⟩ := bc7_ BK239
         go_wp2_with (first | (go_at_call 28; (with_reducible refine (laws_eqWeaving.calls kj10 t246 t247 _ _ t248 _ _ t251 t254 _ _ t255 t258 t225 t226 _ _ t227 _ _ t230 t233 _ _ t234 t237 true _ ?side1 ?side2 ?side3 ?side4 ?side5 ?side6 ?side7 ?side8 ?side9 ?side10 ?side11 ?side12 A75.out).mono ?_); (case side1 => repeat (first | exact (Kd.R_reads' HO_261002.out).2.2 | (with_reducible refine Kd.C_alloc ?_ _) | (with_reducible refine Kd.C_drewN ?_ _) | (with_reducible refine Kd.C_drew ?_))); (case side2 => exact (Kd.R_reads' HO_261002.out).2.1); (case side3 => repeat (first | exact (Kd.R_reads' HO_261003.out).2.2 | (with_reducible refine Kd.C_alloc ?_ _) | (with_reducible refine Kd.C_drewN ?_ _) | (with_reducible refine Kd.C_drew ?_))); (case side4 => exact (Kd.R_reads' HO_261003.out).2.1); (case side5 => repeat (first | exact (Kd.R_reads' HO_261005.out).2.2 | (with_reducible refine Kd.C_alloc ?_ _) | (with_reducible refine Kd.C_drewN ?_ _) | (with_reducible refine Kd.C_drew ?_))); (case side6 => exact (Kd.R_reads' HO_261005.out).2.1); (case side7 => repeat (first | exact (Kd.R_reads' HO_240002.out).2.2 | (with_reducible refine Kd.C_alloc ?_ _) | (with_reducible refine Kd.C_drewN ?_ _) | (with_reducible refine Kd.C_drew ?_))); (case side8 => exact (Kd.R_reads' HO_240002.out).2.1); (case side9 => repeat (first | exact (Kd.R_reads' HO_240003.out).2.2 | (with_reducible refine Kd.C_alloc ?_ _) | (with_reducible refine Kd.C_drewN ?_ _) | (with_reducible refine Kd.C_drew ?_))); (case side10 => exact (Kd.R_reads' HO_240003.out).2.1); (case side11 => repeat (first | exact (Kd.R_reads' HO_240005.out).2.2 | (with_reducible refine Kd.C_alloc ?_ _) | (with_reducible refine Kd.C_drewN ?_ _) | (with_reducible refine Kd.C_drew ?_))); (case side12 => exact (Kd.R_reads' HO_240005.out).2.1); rintro e w84 ⟨rfl, hb⟩; have n0_ := Aside0.mk (Kd.R_below (by (with_reducible repeat (first | apply Kd.R_alloc | apply Kd.R_drewN | apply Kd.R_drew)); exact HO_240002.out) hb); have n1_ := Aside0.mk (Kd.R_below (by (with_reducible repeat (first | apply Kd.R_alloc | apply Kd.R_drewN | apply Kd.R_drew)); exact HO_240003.out) hb); have n2_ := Aside0.mk (Kd.R_below (by (with_reducible repeat (first | apply Kd.R_alloc | apply Kd.R_drewN | apply Kd.R_drew)); exact HO_240005.out) hb); have n3_ := Aside0.mk (Kd.R_below (by (with_reducible repeat (first | apply Kd.R_alloc | apply Kd.R_drewN | apply Kd.R_drew)); exact HO_246002.out) hb); have n4_ := Aside0.mk (Kd.R_below (by (with_reducible repeat (first | apply Kd.R_alloc | apply Kd.R_drewN | apply Kd.R_drew)); exact HO_261002.out) hb); have n5_ := Aside0.mk (Kd.R_below (by (with_reducible repeat (first | apply Kd.R_alloc | apply Kd.R_drewN | apply Kd.R_drew)); exact HO_261003.out) hb); have n6_ := Aside0.mk (Kd.R_below (by (with_reducible repeat (first | apply Kd.R_alloc | apply Kd.R_drewN | apply Kd.R_drew)); exact HO_261005.out) hb); have n7_ := Aside0.mk (Kd.R_below (by (with_reducible repeat (first | apply Kd.R_alloc | apply Kd.R_drewN | apply Kd.R_drew)); exact HO266.out) hb); have n8_ := bb_ BK218 hb; have n9_ := bb_ BK239 hb; have n10_ := bb_ BK245 hb; have n11_ := bb_ BK260 hb; have n12_ := Aside0.mk (below_step bw_ hb); clear HO_240002; clear HO_240003; clear HO_240005; clear HO_246002; clear HO_261002; clear HO_261003; clear HO_261005; clear HO266; clear BK218; clear BK239; clear BK245; clear BK260; clear HB; have HO_240002 := n0_; have HO_240003 := n1_; have HO_240005 := n2_; have HO_246002 := n3_; have HO_261002 := n4_; have HO_261003 := n5_; have HO_261005 := n6_; have HO266 := n7_; have BK218 := n8_; have BK239 := n9_; have BK245 := n10_; have BK260 := n11_; have HB := n12_; clear n0_ n1_ n2_ n3_ n4_ n5_ n6_ n7_ n8_ n9_ n10_ n11_ n12_; (try clear hb); (try clear hb2); (try clear hk); (try clear hi)))
         go_meet
         case rel => exact ⟨_, ((t259 != t238)), (by first | rfl | (simp; done) | (simp [*]; done)), H', ⟨by have := HJ10.out; first | omega | exact Nat.le_refl _⟩, ⟨by (with_reducible repeat (first | apply Kd.R_alloc | apply Kd.R_drewN | apply Kd.R_drew)); exact Kd.R_mono HO_240002.out (fun _ hk => ⟨hk.1, ⟨hk.2.1, ⟨hk.2.2.1, hk.2.2.2.1⟩⟩⟩)⟩, ⟨by (with_reducible repeat (first | apply Kd.R_alloc | apply Kd.R_drewN | apply Kd.R_drew)); exact Kd.R_mono HO_240003.out (fun _ hk => ⟨hk.1, ⟨hk.2.1, ⟨hk.2.2.1, hk.2.2.2.1⟩⟩⟩)⟩, ⟨by (with_reducible repeat (first | apply Kd.R_alloc | apply Kd.R_drewN | apply Kd.R_drew)); exact HO_240005.out⟩, ⟨by (with_reducible repeat (first | apply Kd.R_alloc | apply Kd.R_drewN | apply Kd.R_drew)); exact Kd.R_mono HO_246002.out (fun _ hk => ⟨hk.1.1, ⟨hk.1.2.1, ⟨hk.1.2.2.1, hk.1.2.2.2⟩⟩⟩)⟩, ⟨by (with_reducible repeat (first | apply Kd.R_alloc | apply Kd.R_drewN | apply Kd.R_drew)); exact Kd.R_mono HO_261002.out (fun _ hk => ⟨hk.1, ⟨hk.2.1, ⟨hk.2.2.1, hk.2.2.2.1⟩⟩⟩)⟩, ⟨by (with_reducible repeat (first | apply Kd.R_alloc | apply Kd.R_drewN | apply Kd.R_drew)); exact Kd.R_mono HO_261003.out (fun _ hk => ⟨hk.1, ⟨hk.2.1, ⟨hk.2.2.1, hk.2.2.2.1⟩⟩⟩)⟩, ⟨by (with_reducible repeat (first | apply Kd.R_alloc | apply Kd.R_drewN | apply Kd.R_drew)); exact HO_261005.out⟩, ⟨bk_ BK218⟩, ⟨bk_ BK239⟩, ⟨bk_ BK245⟩, ⟨bk_ BK260⟩, ⟨bw_⟩⟩
        ·replace c76 := Bool.eq_false_iff.mpr c76
         subst c76
         have H1 : (laws_FnExactNewWeaving.j1 kj10 t238 true a0_0 a0_1 l0_2 t225 t226 t227 t230 t233 t234 t237 t246 t247 t248 t251 t254 t255 t258) = some r := by rw [if_neg (show ¬ (false = true) by decide)] at H; exact H
         clear H
         have H := H1
         clear H1
         have H' := Aside0.mk H
         clear H
         have hnb85 := NB260_218.out
         have hnc85 := NB218_260.out
         have hnb86 := NB260_239.out
         have hnc86 := NB239_260.out
         have hnb87 := NB260_245.out
         have hnc87 := NB245_260.out
         obtain ⟨hcz88_0, hcz88_1, hcz88_2, hcz88_3, hcz88_4, hcz88_5, hcz88_6, hfz88_0, hfz88_1, hfz88_2, hfz88_3, hfz88_4, hfz88_5, hfz88_6⟩ := bc7_ BK260
         have hnb89 := NB239_218.out
         have hnc89 := NB218_239.out
         have hnb90 := NB239_245.out
         have hnc90 := NB245_239.out
         obtain ⟨hcz91_0, hcz91_1, hcz91_2, hcz91_3, hcz91_4, hcz91_5, hcz91_6, hfz91_0, hfz91_1, hfz91_2, hfz91_3, hfz91_4, hfz91_5, hfz91_6⟩ := bc7_ BK239
         go_wp2_with (first | (go_at_call 28; (with_reducible refine (laws_eqWeaving.calls kj10 t246 t247 _ _ t248 _ _ t251 t254 _ _ t255 t258 t225 t226 _ _ t227 _ _ t230 t233 _ _ t234 t237 false _ ?side1 ?side2 ?side3 ?side4 ?side5 ?side6 ?side7 ?side8 ?side9 ?side10 ?side11 ?side12 A75.out).mono ?_); (case side1 => repeat (first | exact (Kd.R_reads' HO_261002.out).2.2 | (with_reducible refine Kd.C_alloc ?_ _) | (with_reducible refine Kd.C_drewN ?_ _) | (with_reducible refine Kd.C_drew ?_))); (case side2 => exact (Kd.R_reads' HO_261002.out).2.1); (case side3 => repeat (first | exact (Kd.R_reads' HO_261003.out).2.2 | (with_reducible refine Kd.C_alloc ?_ _) | (with_reducible refine Kd.C_drewN ?_ _) | (with_reducible refine Kd.C_drew ?_))); (case side4 => exact (Kd.R_reads' HO_261003.out).2.1); (case side5 => repeat (first | exact (Kd.R_reads' HO_261005.out).2.2 | (with_reducible refine Kd.C_alloc ?_ _) | (with_reducible refine Kd.C_drewN ?_ _) | (with_reducible refine Kd.C_drew ?_))); (case side6 => exact (Kd.R_reads' HO_261005.out).2.1); (case side7 => repeat (first | exact (Kd.R_reads' HO_240002.out).2.2 | (with_reducible refine Kd.C_alloc ?_ _) | (with_reducible refine Kd.C_drewN ?_ _) | (with_reducible refine Kd.C_drew ?_))); (case side8 => exact (Kd.R_reads' HO_240002.out).2.1); (case side9 => repeat (first | exact (Kd.R_reads' HO_240003.out).2.2 | (with_reducible refine Kd.C_alloc ?_ _) | (with_reducible refine Kd.C_drewN ?_ _) | (with_reducible refine Kd.C_drew ?_))); (case side10 => exact (Kd.R_reads' HO_240003.out).2.1); (case side11 => repeat (first | exact (Kd.R_reads' HO_240005.out).2.2 | (with_reducible refine Kd.C_alloc ?_ _) | (with_reducible refine Kd.C_drewN ?_ _) | (with_reducible refine Kd.C_drew ?_))); (case side12 => exact (Kd.R_reads' HO_240005.out).2.1); rintro e w92 ⟨rfl, hb⟩; have n0_ := Aside0.mk (Kd.R_below (by (with_reducible repeat (first | apply Kd.R_alloc | apply Kd.R_drewN | apply Kd.R_drew)); exact HO_240002.out) hb); have n1_ := Aside0.mk (Kd.R_below (by (with_reducible repeat (first | apply Kd.R_alloc | apply Kd.R_drewN | apply Kd.R_drew)); exact HO_240003.out) hb); have n2_ := Aside0.mk (Kd.R_below (by (with_reducible repeat (first | apply Kd.R_alloc | apply Kd.R_drewN | apply Kd.R_drew)); exact HO_240005.out) hb); have n3_ := Aside0.mk (Kd.R_below (by (with_reducible repeat (first | apply Kd.R_alloc | apply Kd.R_drewN | apply Kd.R_drew)); exact HO_246002.out) hb); have n4_ := Aside0.mk (Kd.R_below (by (with_reducible repeat (first | apply Kd.R_alloc | apply Kd.R_drewN | apply Kd.R_drew)); exact HO_261002.out) hb); have n5_ := Aside0.mk (Kd.R_below (by (with_reducible repeat (first | apply Kd.R_alloc | apply Kd.R_drewN | apply Kd.R_drew)); exact HO_261003.out) hb); have n6_ := Aside0.mk (Kd.R_below (by (with_reducible repeat (first | apply Kd.R_alloc | apply Kd.R_drewN | apply Kd.R_drew)); exact HO_261005.out) hb); have n7_ := Aside0.mk (Kd.R_below (by (with_reducible repeat (first | apply Kd.R_alloc | apply Kd.R_drewN | apply Kd.R_drew)); exact HO266.out) hb); have n8_ := bb_ BK218 hb; have n9_ := bb_ BK239 hb; have n10_ := bb_ BK245 hb; have n11_ := bb_ BK260 hb; have n12_ := Aside0.mk (below_step bw_ hb); clear HO_240002; clear HO_240003; clear HO_240005; clear HO_246002; clear HO_261002; clear HO_261003; clear HO_261005; clear HO266; clear BK218; clear BK239; clear BK245; clear BK260; clear HB; have HO_240002 := n0_; have HO_240003 := n1_; have HO_240005 := n2_; have HO_246002 := n3_; have HO_261002 := n4_; have HO_261003 := n5_; have HO_261005 := n6_; have HO266 := n7_; have BK218 := n8_; have BK239 := n9_; have BK245 := n10_; have BK260 := n11_; have HB := n12_; clear n0_ n1_ n2_ n3_ n4_ n5_ n6_ n7_ n8_ n9_ n10_ n11_ n12_; (try clear hb); (try clear hb2); (try clear hk); (try clear hi)))
         go_meet
         case rel => exact ⟨_, (true), (by first | rfl | (simp; done) | (simp [*]; done)), H', ⟨by have := HJ10.out; first | omega | exact Nat.le_refl _⟩, ⟨by (with_reducible repeat (first | apply Kd.R_alloc | apply Kd.R_drewN | apply Kd.R_drew)); exact Kd.R_mono HO_240002.out (fun _ hk => ⟨hk.1, ⟨hk.2.1, ⟨hk.2.2.1, hk.2.2.2.1⟩⟩⟩)⟩, ⟨by (with_reducible repeat (first | apply Kd.R_alloc | apply Kd.R_drewN | apply Kd.R_drew)); exact Kd.R_mono HO_240003.out (fun _ hk => ⟨hk.1, ⟨hk.2.1, ⟨hk.2.2.1, hk.2.2.2.1⟩⟩⟩)⟩, ⟨by (with_reducible repeat (first | apply Kd.R_alloc | apply Kd.R_drewN | apply Kd.R_drew)); exact HO_240005.out⟩, ⟨by (with_reducible repeat (first | apply Kd.R_alloc | apply Kd.R_drewN | apply Kd.R_drew)); exact Kd.R_mono HO_246002.out (fun _ hk => ⟨hk.1.1, ⟨hk.1.2.1, ⟨hk.1.2.2.1, hk.1.2.2.2⟩⟩⟩)⟩, ⟨by (with_reducible repeat (first | apply Kd.R_alloc | apply Kd.R_drewN | apply Kd.R_drew)); exact Kd.R_mono HO_261002.out (fun _ hk => ⟨hk.1, ⟨hk.2.1, ⟨hk.2.2.1, hk.2.2.2.1⟩⟩⟩)⟩, ⟨by (with_reducible repeat (first | apply Kd.R_alloc | apply Kd.R_drewN | apply Kd.R_drew)); exact Kd.R_mono HO_261003.out (fun _ hk => ⟨hk.1, ⟨hk.2.1, ⟨hk.2.2.1, hk.2.2.2.1⟩⟩⟩)⟩, ⟨by (with_reducible repeat (first | apply Kd.R_alloc | apply Kd.R_drewN | apply Kd.R_drew)); exact HO_261005.out⟩, ⟨bk_ BK218⟩, ⟨bk_ BK239⟩, ⟨bk_ BK245⟩, ⟨bk_ BK260⟩, ⟨bw_⟩⟩
      case rest =>
       clear HC64
       try clear c2
       try clear p2
       try clear c3
       try clear c3b0
       try clear c4
       try clear c5
       try clear c6
       try clear c7
       try clear c8
       try clear c9
       try clear c20
       try clear c24
       try clear c25
       try clear c26
       try clear c27
       try clear c28
       try clear c29
       try clear c30
       try clear c34
       try clear c35
       try clear c36
       try clear c42
       try clear c43
       try clear c44
       try clear c45
       try clear c47
       try clear c48
       try clear c51
       try clear c52
       try clear c53
       try clear c55
       try clear c56
       try clear c59
       try clear c62
       try clear c69
       try clear c70
       try clear c71
       try clear c74
       try clear c74b0
       try clear c76
       try clear c77
       try clear c78
       try clear c79
       try clear c81
       try clear c82
       try clear c85
       try clear c86
       try clear c87
       try clear c89
       try clear c90
       try clear hcz13_0
       try clear hcz13_1
       try clear hcz13_2
       try clear hcz15_0
       try clear hcz15_1
       try clear hcz15_2
       try clear hcz21_0
       try clear hcz21_1
       try clear hcz21_2
       try clear hcz21_3
       try clear hcz21_4
       try clear hcz21_5
       try clear hcz21_6
       try clear hcz25_0
       try clear hcz25_1
       try clear hcz25_2
       try clear hcz30_0
       try clear hcz30_1
       try clear hcz30_2
       try clear hcz37_0
       try clear hcz37_1
       try clear hcz37_2
       try clear hcz37_3
       try clear hcz37_4
       try clear hcz37_5
       try clear hcz37_6
       try clear hcz46_0
       try clear hcz46_1
       try clear hcz46_2
       try clear hcz46_3
       try clear hcz46_4
       try clear hcz46_5
       try clear hcz46_6
       try clear hcz49_0
       try clear hcz49_1
       try clear hcz49_2
       try clear hcz49_3
       try clear hcz49_4
       try clear hcz49_5
       try clear hcz49_6
       try clear hcz54_0
       try clear hcz54_1
       try clear hcz54_2
       try clear hcz54_3
       try clear hcz54_4
       try clear hcz54_5
       try clear hcz54_6
       try clear hcz57_0
       try clear hcz57_1
       try clear hcz57_2
       try clear hcz57_3
       try clear hcz57_4
       try clear hcz57_5
       try clear hcz57_6
       try clear hcz5_0
       try clear hcz5_1
       try clear hcz5_2
       try clear hcz72_0
       try clear hcz72_1
       try clear hcz72_2
       try clear hcz80_0
       try clear hcz80_1
       try clear hcz80_2
       try clear hcz80_3
       try clear hcz80_4
       try clear hcz80_5
       try clear hcz80_6
       try clear hcz83_0
       try clear hcz83_1
       try clear hcz83_2
       try clear hcz83_3
       try clear hcz83_4
       try clear hcz83_5
       try clear hcz83_6
       try clear hcz88_0
       try clear hcz88_1
       try clear hcz88_2
       try clear hcz88_3
       try clear hcz88_4
       try clear hcz88_5
       try clear hcz88_6
       try clear hcz91_0
       try clear hcz91_1
       try clear hcz91_2
       try clear hcz91_3
       try clear hcz91_4
       try clear hcz91_5
       try clear hcz91_6
       try clear hfz13_0
       try clear hfz13_1
       try clear hfz13_2
       try clear hfz15_0
       try clear hfz15_1
       try clear hfz15_2
       try clear hfz21_0
       try clear hfz21_1
       try clear hfz21_2
       try clear hfz21_3
       try clear hfz21_4
       try clear hfz21_5
       try clear hfz21_6
       try clear hfz25_0
       try clear hfz25_1
       try clear hfz25_2
       try clear hfz30_0
       try clear hfz30_1
       try clear hfz30_2
       try clear hfz37_0
       try clear hfz37_1
       try clear hfz37_2
       try clear hfz37_3
       try clear hfz37_4
       try clear hfz37_5
       try clear hfz37_6
       try clear hfz46_0
       try clear hfz46_1
       try clear hfz46_2
       try clear hfz46_3
       try clear hfz46_4
       try clear hfz46_5
       try clear hfz46_6
       try clear hfz49_0
       try clear hfz49_1
       try clear hfz49_2
       try clear hfz49_3
       try clear hfz49_4
       try clear hfz49_5
       try clear hfz49_6
       try clear hfz54_0
       try clear hfz54_1
       try clear hfz54_2
       try clear hfz54_3
       try clear hfz54_4
       try clear hfz54_5
       try clear hfz54_6
       try clear hfz57_0
       try clear hfz57_1
       try clear hfz57_2
       try clear hfz57_3
       try clear hfz57_4
       try clear hfz57_5
       try clear hfz57_6
       try clear hfz5_0
       try clear hfz5_1
       try clear hfz5_2
       try clear hfz72_0
       try clear hfz72_1
       try clear hfz72_2
       try clear hfz80_0
       try clear hfz80_1
       try clear hfz80_2
       try clear hfz80_3
       try clear hfz80_4
       try clear hfz80_5
       try clear hfz80_6
       try clear hfz83_0
       try clear hfz83_1
       try clear hfz83_2
       try clear hfz83_3
       try clear hfz83_4
       try clear hfz83_5
       try clear hfz83_6
       try clear hfz88_0
       try clear hfz88_1
       try clear hfz88_2
       try clear hfz88_3
       try clear hfz88_4
       try clear hfz88_5
       try clear hfz88_6
       try clear hfz91_0
       try clear hfz91_1
       try clear hfz91_2
       try clear hfz91_3
       try clear hfz91_4
       try clear hfz91_5
       try clear hfz91_6
       try clear p2
       obtain ⟨kq, x61_63, rfl, HA, HJ63, HO_240002, HO_240003, HO_240005, HO_246002, HO_261002, HO_261003, HO_261005, BK218, BK239, BK245, BK260, HB⟩ := hcut
       have hl246002_63 := (Kd.R_reads' HO_246002.out).1
       rw [hl246002_63] at HO_246002
       (try simp only [hl246002_63])
       (try simp only [hl246002_63] at BK218)
       (try simp only [hl246002_63] at BK239)
       (try simp only [hl246002_63] at BK245)
       (try simp only [hl246002_63] at BK260)
       (try simp only [hl246002_63] at HO_240002)
       (try simp only [hl246002_63] at HO_240003)
       (try simp only [hl246002_63] at HO_240005)
       (try simp only [hl246002_63] at HO_261002)
       (try simp only [hl246002_63] at HO_261003)
       (try simp only [hl246002_63] at HO_261005)
       cases kq with
       | zero => exact absurd HA.out (by simp [laws_FnExactNewWeaving.j1])
       | succ kj63 =>
        have H := HA.out
        clear HA
        simp only [laws_FnExactNewWeaving.j1] at H
        by_cases c93 : x61_63 = true
        ·subst c93
         have H1 : (some false) = some r := by rw [if_pos rfl] at H; exact H
         clear H
         have H := H1
         clear H1
         exact absurd (H.trans (congrArg some HRT.out)) (by simp)
        ·replace c93 := Bool.eq_false_iff.mpr c93
         subst c93
         have H1 : ((laws_markWeaving.f kj63 t246 t247 t248 t251 t254 t255 t258 1).bind fun bt271 => ((laws_heldWeaving.f kj63 t246 t247 bt271.2.1 bt271.2.2.1 t254 bt271.2.2.2 t258 1).bind fun t275 => (if t275 < 0 then (some false) else (if t275 = bt271.1 then ((laws_toChart.f kj63 a0_0 a0_1 l0_2).bind fun bt276 => ((impl_NewWeaving.f kj63 bt276.1 bt276.2.1 bt276.2.2).bind fun bt281 => ((laws_eqWeaving.f kj63 bt281.1 bt281.2.1 bt281.2.2.1 bt281.2.2.2.1 bt281.2.2.2.2.1 bt281.2.2.2.2.2.1 bt281.2.2.2.2.2.2.1 t225 t226 t227 t230 t233 t234 t237).bind fun t296 => (if t296 = true then (laws_FnExactNewWeaving.j2 kj63 bt271.1 (bt281.2.2.2.2.2.2.2 != t238) t246 t247 bt271.2.1 bt271.2.2.1 t254 bt271.2.2.2 t258) else (laws_FnExactNewWeaving.j2 kj63 bt271.1 true t246 t247 bt271.2.1 bt271.2.2.1 t254 bt271.2.2.2 t258))))) else (some false))))) = some r := by rw [if_neg (show ¬ (false = true) by decide)] at H; exact H
         clear H
         have H := H1
         clear H1
         replace H := Option.bind_eq_some_iff.mp H
         obtain ⟨⟨t271, t272, t273, t274⟩, A940, H⟩ := H
         replace H : ((laws_heldWeaving.f kj63 t246 t247 t272 t273 t254 t274 t258 1).bind fun t275 => (if t275 < 0 then (some false) else (if t275 = t271 then ((laws_toChart.f kj63 a0_0 a0_1 l0_2).bind fun bt276 => ((impl_NewWeaving.f kj63 bt276.1 bt276.2.1 bt276.2.2).bind fun bt281 => ((laws_eqWeaving.f kj63 bt281.1 bt281.2.1 bt281.2.2.1 bt281.2.2.2.1 bt281.2.2.2.2.1 bt281.2.2.2.2.2.1 bt281.2.2.2.2.2.2.1 t225 t226 t227 t230 t233 t234 t237).bind fun t296 => (if t296 = true then (laws_FnExactNewWeaving.j2 kj63 t271 (bt281.2.2.2.2.2.2.2 != t238) t246 t247 t272 t273 t254 t274 t258) else (laws_FnExactNewWeaving.j2 kj63 t271 true t246 t247 t272 t273 t254 t274 t258))))) else (some false)))) = some r := H
         have A94 := Aside0.mk A940
         clear A940
         replace H := Option.bind_eq_some_iff.mp H
         obtain ⟨t275, A950, H⟩ := H
         replace H : (if t275 < 0 then (some false) else (if t275 = t271 then ((laws_toChart.f kj63 a0_0 a0_1 l0_2).bind fun bt276 => ((impl_NewWeaving.f kj63 bt276.1 bt276.2.1 bt276.2.2).bind fun bt281 => ((laws_eqWeaving.f kj63 bt281.1 bt281.2.1 bt281.2.2.1 bt281.2.2.2.1 bt281.2.2.2.2.1 bt281.2.2.2.2.2.1 bt281.2.2.2.2.2.2.1 t225 t226 t227 t230 t233 t234 t237).bind fun t296 => (if t296 = true then (laws_FnExactNewWeaving.j2 kj63 t271 (bt281.2.2.2.2.2.2.2 != t238) t246 t247 t272 t273 t254 t274 t258) else (laws_FnExactNewWeaving.j2 kj63 t271 true t246 t247 t272 t273 t254 t274 t258))))) else (some false))) = some r := H
         have A95 := Aside0.mk A950
         clear A950
         by_cases c96 : t275 < 0
         ·rw [if_pos c96] at H
          have c96b0 : decide (t275 < 0) = true := decide_eq_true c96
          clear c96
          exact absurd (H.trans (congrArg some HRT.out)) (by simp)
         ·rw [if_neg c96] at H
          have c96b0 : decide (t275 < 0) = false := decide_eq_false c96
          clear c96
          by_cases c97 : t275 = t271
          ·rw [if_pos c97] at H
           have c97b0 : (t275 == t271) = true := beq_iff_eq.mpr c97
           have c97b1 : (t275 != t271) = false := bne_eq_false_iff_eq.mpr c97
           clear c97
           replace H := Option.bind_eq_some_iff.mp H
           obtain ⟨⟨t276, t277, t278⟩, A980, H⟩ := H
           replace H : ((impl_NewWeaving.f kj63 t276 t277 t278).bind fun bt281 => ((laws_eqWeaving.f kj63 bt281.1 bt281.2.1 bt281.2.2.1 bt281.2.2.2.1 bt281.2.2.2.2.1 bt281.2.2.2.2.2.1 bt281.2.2.2.2.2.2.1 t225 t226 t227 t230 t233 t234 t237).bind fun t296 => (if t296 = true then (laws_FnExactNewWeaving.j2 kj63 t271 (bt281.2.2.2.2.2.2.2 != t238) t246 t247 t272 t273 t254 t274 t258) else (laws_FnExactNewWeaving.j2 kj63 t271 true t246 t247 t272 t273 t254 t274 t258)))) = some r := H
           have A98 := Aside0.mk A980
           clear A980
           replace H := Option.bind_eq_some_iff.mp H
           obtain ⟨⟨t281, t282, t283, t286, t289, t290, t293, t294⟩, A990, H⟩ := H
           replace H : ((laws_eqWeaving.f kj63 t281 t282 t283 t286 t289 t290 t293 t225 t226 t227 t230 t233 t234 t237).bind fun t296 => (if t296 = true then (laws_FnExactNewWeaving.j2 kj63 t271 (t294 != t238) t246 t247 t272 t273 t254 t274 t258) else (laws_FnExactNewWeaving.j2 kj63 t271 true t246 t247 t272 t273 t254 t274 t258))) = some r := H
           have A99 := Aside0.mk A990
           clear A990
           have HC100 := Aside0.mk H
           clear H
           have hnb101 := NB260_218.out
           have hnc101 := NB218_260.out
           have hnb102 := NB260_239.out
           have hnc102 := NB239_260.out
           have hnb103 := NB260_245.out
           have hnc103 := NB245_260.out
           obtain ⟨hcz104_0, hcz104_1, hcz104_2, hcz104_3, hcz104_4, hcz104_5, hcz104_6, hfz104_0, hfz104_1, hfz104_2, hfz104_3, hfz104_4, hfz104_5, hfz104_6⟩ := bc7_ BK260
           go_upto_region 25 with (first | ((with_reducible refine gate_callee (f := 31) rfl ?_); refine goesB (some 64) Try.func31 #[.agg #[.int .i64 t246, .int .i64 t247, .slice Ao38 t248.length co38, .slice Ao39 t251.length co39, .int .i64 t254, .slice Ao40 t255.length co40, .bool t258], .int .i64 1] ?_; (with_reducible refine (laws_markWeaving.calls kj63 t246 t247 (fun k_ => some k_ = (.slice Ao38 t248.length co38 : Value).ownBlock) (.slice Ao38 t248.length co38) t248 (fun k_ => some k_ = (.slice Ao39 t251.length co39 : Value).ownBlock) (.slice Ao39 t251.length co39) t251 t254 (fun k_ => some k_ = (.slice Ao40 t255.length co40 : Value).ownBlock) (.slice Ao40 t255.length co40) t255 t258 1 t271 t272 t273 t274 w _ ?side1 ?side2 ?side3 ?side4 ?side5 ?side6 A94.out).mono ?_); (case side1 => repeat (first | (with_reducible first | exact HB.out | apply below_alloc | apply pw_below_drewN | apply below_drew1 | refine below_set ?_ GE218.out | refine below_set ?_ GE239.out | refine below_set ?_ GE245.out | refine below_set ?_ GE260.out) | exact HB.out)); (case side2 => exact Kd.R_tight rfl HO_261002.out); (case side3 => exact fun k_ e_ => (HO_261002.out.1 k_ e_.symm).2.2.2); (case side4 => exact Kd.R_tight rfl HO_261003.out); (case side5 => exact fun k_ e_ => (HO_261003.out.1 k_ e_.symm).2.2.2); (case side6 => exact Kd.R_tight rfl HO_261005.out); rintro e w105 ⟨rfl, hy0, hy1, hy2, hb, hkp⟩; refine ⟨_, rfl, ?_⟩; have n0_ := Aside0.mk (Kd.R_mono (ok' := fun k_ => some k_ ≠ (.slice Ao23 t230.length co23 : Value).ownBlock ∧ some k_ ≠ (.slice Ao31 t269.length co31 : Value).ownBlock ∧ some k_ ≠ (.slice Ao38 t248.length co38 : Value).ownBlock ∧ some k_ ≠ (.slice Ao39 t251.length co39 : Value).ownBlock) (Kd.R_keptB ((Kd.R_apart' HO_240002.out (Kd.R_typed HO_261005.out) (by decide))) hkp (fun k_ hk_ hs_ => Or.elim hs_ (fun e_ => (hk_.1.2.2.1) e_) (fun e_ => Or.elim e_ (fun e_ => (hk_.1.2.2.2) e_) (fun e_ => (hk_.2) e_)))) (fun k_ hk_ => ⟨hk_.1.1.1, hk_.1.1.2.1, hk_.1.1.2.2.1, hk_.1.1.2.2.2⟩)); have n1_ := Aside0.mk (Kd.R_mono (ok' := fun k_ => some k_ ≠ (.slice Ao22 t227.length co22 : Value).ownBlock ∧ some k_ ≠ (.slice Ao31 t269.length co31 : Value).ownBlock ∧ some k_ ≠ (.slice Ao38 t248.length co38 : Value).ownBlock ∧ some k_ ≠ (.slice Ao39 t251.length co39 : Value).ownBlock) (Kd.R_keptB ((Kd.R_apart' HO_240003.out (Kd.R_typed HO_261005.out) (by decide))) hkp (fun k_ hk_ hs_ => Or.elim hs_ (fun e_ => (hk_.1.2.2.1) e_) (fun e_ => Or.elim e_ (fun e_ => (hk_.1.2.2.2) e_) (fun e_ => (hk_.2) e_)))) (fun k_ hk_ => ⟨hk_.1.1.1, hk_.1.1.2.1, hk_.1.1.2.2.1, hk_.1.1.2.2.2⟩)); have n2_ := Aside0.mk (Kd.R_mono (ok' := fun k_ => some k_ ≠ (.slice Ao40 t255.length co40 : Value).ownBlock) (Kd.R_keptB ((Kd.R_apart' (Kd.R_apart' HO_240005.out (Kd.R_typed HO_261002.out) (by decide)) (Kd.R_typed HO_261003.out) (by decide))) hkp (fun k_ hk_ hs_ => Or.elim hs_ (fun e_ => (hk_.1.2) e_) (fun e_ => Or.elim e_ (fun e_ => (hk_.2) e_) (fun e_ => (hk_.1.1) e_)))) (fun k_ hk_ => hk_.1.1.1)); have n3_ := Aside0.mk (Kd.R_mono (ok' := fun k_ => some k_ ≠ (.slice Ao22 t227.length co22 : Value).ownBlock ∧ some k_ ≠ (.slice Ao23 t230.length co23 : Value).ownBlock ∧ some k_ ≠ (.slice Ao38 t248.length co38 : Value).ownBlock ∧ some k_ ≠ (.slice Ao39 t251.length co39 : Value).ownBlock) (Kd.R_keptB ((Kd.R_apart' HO_246002.out (Kd.R_typed HO_261005.out) (by decide))) hkp (fun k_ hk_ hs_ => Or.elim hs_ (fun e_ => (hk_.1.2.2.1) e_) (fun e_ => Or.elim e_ (fun e_ => (hk_.1.2.2.2) e_) (fun e_ => (hk_.2) e_)))) (fun k_ hk_ => ⟨hk_.1.1.1, hk_.1.1.2.1, hk_.1.1.2.2.1, hk_.1.1.2.2.2⟩)); have n4_ := Aside0.mk (Kd.R_reok rfl hy0 (fun k_ e_ => HO_261002.out.1 k_ e_)); have n5_ := Aside0.mk (Kd.R_reok rfl hy1 (fun k_ e_ => HO_261003.out.1 k_ e_)); have n6_ := Aside0.mk (Kd.R_reok rfl hy2 (fun k_ e_ => HO_261005.out.1 k_ e_)); have n7_ := Aside0.mk (blk_kept (bk_ BK218) hkp (fun hs_ => Or.elim hs_ (fun e_ => (fun e_ => (Kd.R_ne HO_261002.out BK218.out (by decide)) e_) e_) (fun e_ => Or.elim e_ (fun e_ => (fun e_ => (Kd.R_ne HO_261003.out BK218.out (by decide)) e_) e_) (fun e_ => (fun e_ => (Kd.R_ne HO_261005.out BK218.out (by decide)) e_) e_)))); have n8_ := Aside0.mk (blk_kept (bk_ BK239) hkp (fun hs_ => Or.elim hs_ (fun e_ => (fun e_ => (Kd.R_ne HO_261002.out BK239.out (by decide)) e_) e_) (fun e_ => Or.elim e_ (fun e_ => (fun e_ => (Kd.R_ne HO_261003.out BK239.out (by decide)) e_) e_) (fun e_ => (fun e_ => (Kd.R_ne HO_261005.out BK239.out (by decide)) e_) e_)))); have n9_ := Aside0.mk (blk_kept (bk_ BK245) hkp (fun hs_ => Or.elim hs_ (fun e_ => (fun e_ => (Kd.R_ne HO_261002.out BK245.out (by decide)) e_) e_) (fun e_ => Or.elim e_ (fun e_ => (fun e_ => (Kd.R_ne HO_261003.out BK245.out (by decide)) e_) e_) (fun e_ => (fun e_ => (Kd.R_ne HO_261005.out BK245.out (by decide)) e_) e_)))); have n10_ := Aside0.mk (blk_kept (bk_ BK260) hkp (fun hs_ => Or.elim hs_ (fun e_ => (fun e_ => (Kd.R_ne HO_261002.out BK260.out (by decide)) e_) e_) (fun e_ => Or.elim e_ (fun e_ => (fun e_ => (Kd.R_ne HO_261003.out BK260.out (by decide)) e_) e_) (fun e_ => (fun e_ => (Kd.R_ne HO_261005.out BK260.out (by decide)) e_) e_)))); have n11_ := Aside0.mk (hb); clear HO_240002; clear HO_240003; clear HO_240005; clear HO_246002; clear HO_261002; clear HO_261003; clear HO_261005; clear BK218; clear BK239; clear BK245; clear BK260; clear HB; have HO_240002 := n0_; have HO_240003 := n1_; have HO_240005 := n2_; have HO_246002 := n3_; have HO_261002 := n4_; have HO_261003 := n5_; have HO_261005 := n6_; have BK218 := n7_; have BK239 := n8_; have BK245 := n9_; have BK260 := n10_; have HB := n11_; clear n0_ n1_ n2_ n3_ n4_ n5_ n6_ n7_ n8_ n9_ n10_ n11_; (try clear hb); (try clear hkp); (try clear hy0); (try clear hy1); (try clear hy2); obtain ⟨hcz106_0, hcz106_1, hcz106_2, hcz106_3, hcz106_4, hcz106_5, hcz106_6, hfz106_0, hfz106_1, hfz106_2, hfz106_3, hfz106_4, hfz106_5, hfz106_6⟩ := bc7_ BK260) | ((with_reducible refine gate_callee (f := 32) rfl ?_); refine goesL_ (some 67) rfl rfl Try.func32 (by kernel_rfl) rfl #[.agg #[.int .i64 t246, .int .i64 t247, .slice Ao38 t272.length co38, .slice Ao39 t273.length co39, .int .i64 t254, .slice Ao40 t274.length co40, .bool t258], .int .i64 1] rfl (by (try simp only [List.map_toArray, List.map_cons, List.map_nil]); first | done | (rw [show t272.length = t248.length from (Kd.R_reads' HO_261002.out).1.symm, show t273.length = t251.length from (Kd.R_reads' HO_261003.out).1.symm, show t274.length = t255.length from (Kd.R_reads' HO_261005.out).1.symm] <;> rfl) | rfl | (simp only [List.length_drop, List.length_take]; rfl)) ?_; (with_reducible refine (laws_heldWeaving.calls kj63 t246 t247 _ _ t272 _ _ t273 t254 _ _ t274 t258 1 t275 _ ?side1 ?side2 ?side3 ?side4 ?side5 ?side6 A95.out).mono ?_); (case side1 => repeat (first | exact (Kd.R_reads' HO_261002.out).2.2 | (with_reducible refine Kd.C_alloc ?_ _) | (with_reducible refine Kd.C_drewN ?_ _) | (with_reducible refine Kd.C_drew ?_))); (case side2 => rw [show t272.length = t248.length from (Kd.R_reads' HO_261002.out).1.symm]; exact (Kd.R_reads' HO_261002.out).2.1); (case side3 => repeat (first | exact (Kd.R_reads' HO_261003.out).2.2 | (with_reducible refine Kd.C_alloc ?_ _) | (with_reducible refine Kd.C_drewN ?_ _) | (with_reducible refine Kd.C_drew ?_))); (case side4 => rw [show t273.length = t251.length from (Kd.R_reads' HO_261003.out).1.symm]; exact (Kd.R_reads' HO_261003.out).2.1); (case side5 => repeat (first | exact (Kd.R_reads' HO_261005.out).2.2 | (with_reducible refine Kd.C_alloc ?_ _) | (with_reducible refine Kd.C_drewN ?_ _) | (with_reducible refine Kd.C_drew ?_))); (case side6 => rw [show t274.length = t255.length from (Kd.R_reads' HO_261005.out).1.symm]; exact (Kd.R_reads' HO_261005.out).2.1); rintro e w107 ⟨rfl, hb⟩; refine ⟨_, rfl, ?_⟩; have n0_ := Aside0.mk (Kd.R_below (by (with_reducible repeat (first | apply Kd.R_alloc | apply Kd.R_drewN | apply Kd.R_drew)); exact HO_240002.out) hb); have n1_ := Aside0.mk (Kd.R_below (by (with_reducible repeat (first | apply Kd.R_alloc | apply Kd.R_drewN | apply Kd.R_drew)); exact HO_240003.out) hb); have n2_ := Aside0.mk (Kd.R_below (by (with_reducible repeat (first | apply Kd.R_alloc | apply Kd.R_drewN | apply Kd.R_drew)); exact HO_240005.out) hb); have n3_ := Aside0.mk (Kd.R_below (by (with_reducible repeat (first | apply Kd.R_alloc | apply Kd.R_drewN | apply Kd.R_drew)); exact HO_246002.out) hb); have n4_ := Aside0.mk (Kd.R_below (by (with_reducible repeat (first | apply Kd.R_alloc | apply Kd.R_drewN | apply Kd.R_drew)); exact HO_261002.out) hb); have n5_ := Aside0.mk (Kd.R_below (by (with_reducible repeat (first | apply Kd.R_alloc | apply Kd.R_drewN | apply Kd.R_drew)); exact HO_261003.out) hb); have n6_ := Aside0.mk (Kd.R_below (by (with_reducible repeat (first | apply Kd.R_alloc | apply Kd.R_drewN | apply Kd.R_drew)); exact HO_261005.out) hb); have n7_ := bb_ BK218 hb; have n8_ := bb_ BK239 hb; have n9_ := bb_ BK245 hb; have n10_ := bb_ BK260 hb; have n11_ := Aside0.mk (below_step bw_ hb); clear HO_240002; clear HO_240003; clear HO_240005; clear HO_246002; clear HO_261002; clear HO_261003; clear HO_261005; clear BK218; clear BK239; clear BK245; clear BK260; clear HB; have HO_240002 := n0_; have HO_240003 := n1_; have HO_240005 := n2_; have HO_246002 := n3_; have HO_261002 := n4_; have HO_261003 := n5_; have HO_261005 := n6_; have BK218 := n7_; have BK239 := n8_; have BK245 := n9_; have BK260 := n10_; have HB := n11_; clear n0_ n1_ n2_ n3_ n4_ n5_ n6_ n7_ n8_ n9_ n10_ n11_; (try clear hb); (try clear hb2); (try clear hk); (try clear hi); have hnb108 := NB218_239.out; have hnc108 := NB239_218.out; have hnb109 := NB218_245.out; have hnc109 := NB245_218.out; obtain ⟨hcz110_0, hcz110_1, hcz110_2, hfz110_0, hfz110_1, hfz110_2⟩ := bc3_ BK218) | ((with_reducible refine gate_callee (f := 26) rfl ?_); refine goesB (some 75) Try.func26 #[.agg #[.int .i64 a0_0, .int .i64 a0_1, .slice A0_2 l0_2.length c0_2]] ?_; (with_reducible refine (laws_toChart.calls kj63 a0_0 a0_1 _ _ l0_2 t276 t277 t278 _ ?side1 ?side2 A98.out).mono ?_); (case side1 => exact cb_ HR0_2 HB); (case side2 => exact HC0_2.out); rintro e w111 ⟨v279, rfl, ho0, hb⟩; refine ⟨_, rfl, ?_⟩; have n0_ := Aside0.mk (Kd.R_elder' (by (with_reducible repeat (first | apply Kd.R_alloc | apply Kd.R_drewN | apply Kd.R_drew)); exact HO_240002.out) (Kd.R_base ho0) hb); have n1_ := Aside0.mk (Kd.R_elder' (by (with_reducible repeat (first | apply Kd.R_alloc | apply Kd.R_drewN | apply Kd.R_drew)); exact HO_240003.out) (Kd.R_base ho0) hb); have n2_ := Aside0.mk (Kd.R_below (by (with_reducible repeat (first | apply Kd.R_alloc | apply Kd.R_drewN | apply Kd.R_drew)); exact HO_240005.out) hb); have n3_ := Aside0.mk (Kd.R_elder' (by (with_reducible repeat (first | apply Kd.R_alloc | apply Kd.R_drewN | apply Kd.R_drew)); exact HO_246002.out) (Kd.R_base ho0) hb); have n4_ := Aside0.mk (Kd.R_elder' (by (with_reducible repeat (first | apply Kd.R_alloc | apply Kd.R_drewN | apply Kd.R_drew)); exact HO_261002.out) (Kd.R_base ho0) hb); have n5_ := Aside0.mk (Kd.R_elder' (by (with_reducible repeat (first | apply Kd.R_alloc | apply Kd.R_drewN | apply Kd.R_drew)); exact HO_261003.out) (Kd.R_base ho0) hb); have n6_ := Aside0.mk (Kd.R_below (by (with_reducible repeat (first | apply Kd.R_alloc | apply Kd.R_drewN | apply Kd.R_drew)); exact HO_261005.out) hb); have n7_ := Aside0.mk (Kd.R_lower (Kd.R_new' (Kd.R_new' (Kd.R_new' (Kd.R_new' (Kd.R_new' ho0 (Kd.R_lt (by (with_reducible repeat (first | apply Kd.R_alloc | apply Kd.R_drewN | apply Kd.R_drew)); exact HO_240002.out))) (Kd.R_lt (by (with_reducible repeat (first | apply Kd.R_alloc | apply Kd.R_drewN | apply Kd.R_drew)); exact HO_240003.out))) (Kd.R_lt (by (with_reducible repeat (first | apply Kd.R_alloc | apply Kd.R_drewN | apply Kd.R_drew)); exact HO_246002.out))) (Kd.R_lt (by (with_reducible repeat (first | apply Kd.R_alloc | apply Kd.R_drewN | apply Kd.R_drew)); exact HO_261002.out))) (Kd.R_lt (by (with_reducible repeat (first | apply Kd.R_alloc | apply Kd.R_drewN | apply Kd.R_drew)); exact HO_261003.out))) (below_size bw_)); have n8_ := bb_ BK218 hb; have n9_ := bb_ BK239 hb; have n10_ := bb_ BK245 hb; have n11_ := bb_ BK260 hb; have n12_ := Aside0.mk (below_step bw_ hb); clear HO_240002; clear HO_240003; clear HO_240005; clear HO_246002; clear HO_261002; clear HO_261003; clear HO_261005; clear BK218; clear BK239; clear BK245; clear BK260; clear HB; have HO_240002 := n0_; have HO_240003 := n1_; have HO_240005 := n2_; have HO_246002 := n3_; have HO_261002 := n4_; have HO_261003 := n5_; have HO_261005 := n6_; have HO280 := n7_; have BK218 := n8_; have BK239 := n9_; have BK245 := n10_; have BK260 := n11_; have HB := n12_; clear n0_ n1_ n2_ n3_ n4_ n5_ n6_ n7_ n8_ n9_ n10_ n11_ n12_; (try clear hb); (try clear hb2); (try clear hk); (try clear hi); (try clear ho0); obtain ⟨Ao112, co112, eo112⟩ := Kd.R_slice HO280.out; subst eo112) | ((with_reducible refine gate_callee (f := 27) rfl ?_); refine goesB (some 76) Try.func27 #[.agg #[.int .i64 t276, .int .i64 t277, .slice Ao112 t278.length co112]] ?_; (with_reducible refine (impl_NewWeaving.calls kj63 t276 t277 _ _ t278 t281 t282 t283 t286 t289 t290 t293 t294 _ ?side1 ?side2 A99.out).mono ?_); (case side1 => repeat (first | exact (Kd.R_reads' HO280.out).2.2 | (with_reducible refine Kd.C_alloc ?_ _) | (with_reducible refine Kd.C_drewN ?_ _) | (with_reducible refine Kd.C_drew ?_))); (case side2 => exact (Kd.R_reads' HO280.out).2.1); rintro e w113 ⟨v284, v287, v291, rfl, ho0, ho1, ho2, hb⟩; refine ⟨_, rfl, ?_⟩; have n0_ := Aside0.mk (Kd.R_mono (Kd.R_told (Kd.R_told (Kd.R_old (by (with_reducible repeat (first | apply Kd.R_alloc | apply Kd.R_drewN | apply Kd.R_drew)); exact HO_240002.out) hb) (Kd.R_base ho0)) (Kd.R_base ho1)) (fun _ h_ => h_.1)); have n1_ := Aside0.mk (Kd.R_mono (Kd.R_told (Kd.R_told (Kd.R_old (by (with_reducible repeat (first | apply Kd.R_alloc | apply Kd.R_drewN | apply Kd.R_drew)); exact HO_240003.out) hb) (Kd.R_base ho0)) (Kd.R_base ho1)) (fun _ h_ => h_.1)); have n2_ := Aside0.mk (Kd.R_elder' (by (with_reducible repeat (first | apply Kd.R_alloc | apply Kd.R_drewN | apply Kd.R_drew)); exact HO_240005.out) (Kd.R_base ho2) hb); have n3_ := Aside0.mk (Kd.R_mono (Kd.R_told (Kd.R_told (Kd.R_old (by (with_reducible repeat (first | apply Kd.R_alloc | apply Kd.R_drewN | apply Kd.R_drew)); exact HO_246002.out) hb) (Kd.R_base ho0)) (Kd.R_base ho1)) (fun _ h_ => h_.1)); have n4_ := Aside0.mk (Kd.R_mono (Kd.R_told (Kd.R_told (Kd.R_old (by (with_reducible repeat (first | apply Kd.R_alloc | apply Kd.R_drewN | apply Kd.R_drew)); exact HO_261002.out) hb) (Kd.R_base ho0)) (Kd.R_base ho1)) (fun _ h_ => h_.1)); have n5_ := Aside0.mk (Kd.R_mono (Kd.R_told (Kd.R_told (Kd.R_old (by (with_reducible repeat (first | apply Kd.R_alloc | apply Kd.R_drewN | apply Kd.R_drew)); exact HO_261003.out) hb) (Kd.R_base ho0)) (Kd.R_base ho1)) (fun _ h_ => h_.1)); have n6_ := Aside0.mk (Kd.R_elder' (by (with_reducible repeat (first | apply Kd.R_alloc | apply Kd.R_drewN | apply Kd.R_drew)); exact HO_261005.out) (Kd.R_base ho2) hb); have n7_ := Aside0.mk (Kd.R_mono (Kd.R_told (Kd.R_told (Kd.R_old (by (with_reducible repeat (first | apply Kd.R_alloc | apply Kd.R_drewN | apply Kd.R_drew)); exact HO280.out) hb) (Kd.R_base ho0)) (Kd.R_base ho1)) (fun _ h_ => h_.1)); have n8_ := Aside0.mk (Kd.R_lower (Kd.R_new' (Kd.R_new' (Kd.R_new' (Kd.R_new' (Kd.R_new' (Kd.R_new' ho0 (Kd.R_lt (by (with_reducible repeat (first | apply Kd.R_alloc | apply Kd.R_drewN | apply Kd.R_drew)); exact HO_240002.out))) (Kd.R_lt (by (with_reducible repeat (first | apply Kd.R_alloc | apply Kd.R_drewN | apply Kd.R_drew)); exact HO_240003.out))) (Kd.R_lt (by (with_reducible repeat (first | apply Kd.R_alloc | apply Kd.R_drewN | apply Kd.R_drew)); exact HO_246002.out))) (Kd.R_lt (by (with_reducible repeat (first | apply Kd.R_alloc | apply Kd.R_drewN | apply Kd.R_drew)); exact HO_261002.out))) (Kd.R_lt (by (with_reducible repeat (first | apply Kd.R_alloc | apply Kd.R_drewN | apply Kd.R_drew)); exact HO_261003.out))) (Kd.R_lt (by (with_reducible repeat (first | apply Kd.R_alloc | apply Kd.R_drewN | apply Kd.R_drew)); exact HO280.out))) (below_size bw_)); have n9_ := Aside0.mk (Kd.R_lower (Kd.R_new' (Kd.R_new' (Kd.R_new' (Kd.R_new' (Kd.R_new' (Kd.R_new' ho1 (Kd.R_lt (by (with_reducible repeat (first | apply Kd.R_alloc | apply Kd.R_drewN | apply Kd.R_drew)); exact HO_240002.out))) (Kd.R_lt (by (with_reducible repeat (first | apply Kd.R_alloc | apply Kd.R_drewN | apply Kd.R_drew)); exact HO_240003.out))) (Kd.R_lt (by (with_reducible repeat (first | apply Kd.R_alloc | apply Kd.R_drewN | apply Kd.R_drew)); exact HO_246002.out))) (Kd.R_lt (by (with_reducible repeat (first | apply Kd.R_alloc | apply Kd.R_drewN | apply Kd.R_drew)); exact HO_261002.out))) (Kd.R_lt (by (with_reducible repeat (first | apply Kd.R_alloc | apply Kd.R_drewN | apply Kd.R_drew)); exact HO_261003.out))) (Kd.R_lt (by (with_reducible repeat (first | apply Kd.R_alloc | apply Kd.R_drewN | apply Kd.R_drew)); exact HO280.out))) (below_size bw_)); have n10_ := Aside0.mk (Kd.R_lower (Kd.R_new' (Kd.R_new' ho2 (Kd.R_lt (by (with_reducible repeat (first | apply Kd.R_alloc | apply Kd.R_drewN | apply Kd.R_drew)); exact HO_240005.out))) (Kd.R_lt (by (with_reducible repeat (first | apply Kd.R_alloc | apply Kd.R_drewN | apply Kd.R_drew)); exact HO_261005.out))) (below_size bw_)); have n11_ := bb_ BK218 hb; have n12_ := bb_ BK239 hb; have n13_ := bb_ BK245 hb; have n14_ := bb_ BK260 hb; have n15_ := Aside0.mk (below_step bw_ hb); clear HO_240002; clear HO_240003; clear HO_240005; clear HO_246002; clear HO_261002; clear HO_261003; clear HO_261005; clear HO280; clear BK218; clear BK239; clear BK245; clear BK260; clear HB; have HO_240002 := n0_; have HO_240003 := n1_; have HO_240005 := n2_; have HO_246002 := n3_; have HO_261002 := n4_; have HO_261003 := n5_; have HO_261005 := n6_; have HO280 := n7_; have HO285 := n8_; have HO288 := n9_; have HO292 := n10_; have BK218 := n11_; have BK239 := n12_; have BK245 := n13_; have BK260 := n14_; have HB := n15_; clear n0_ n1_ n2_ n3_ n4_ n5_ n6_ n7_ n8_ n9_ n10_ n11_ n12_ n13_ n14_ n15_; (try clear hb); (try clear hb2); (try clear hk); (try clear hi); (try clear ho0); (try clear ho1); (try clear ho2)) | ((with_reducible refine gate_dst (N := 12) rfl ?_); refine box_ (N := 12) (cs := #[.int .i64 0, .int .i64 0, .slice none 0 0, .slice none 0 0, .int .i64 0, .slice none 0 0, .bool false]) (t := 29) ?_; intro gb295 hg w114 hbox hb; have n0_ := Aside0.mk (Kd.R_below (by (with_reducible repeat (first | apply Kd.R_alloc | apply Kd.R_drewN | apply Kd.R_drew)); exact HO_240002.out) hb); have n1_ := Aside0.mk (Kd.R_below (by (with_reducible repeat (first | apply Kd.R_alloc | apply Kd.R_drewN | apply Kd.R_drew)); exact HO_240003.out) hb); have n2_ := Aside0.mk (Kd.R_below (by (with_reducible repeat (first | apply Kd.R_alloc | apply Kd.R_drewN | apply Kd.R_drew)); exact HO_240005.out) hb); have n3_ := Aside0.mk (Kd.R_below (by (with_reducible repeat (first | apply Kd.R_alloc | apply Kd.R_drewN | apply Kd.R_drew)); exact HO_246002.out) hb); have n4_ := Aside0.mk (Kd.R_below (by (with_reducible repeat (first | apply Kd.R_alloc | apply Kd.R_drewN | apply Kd.R_drew)); exact HO_261002.out) hb); have n5_ := Aside0.mk (Kd.R_below (by (with_reducible repeat (first | apply Kd.R_alloc | apply Kd.R_drewN | apply Kd.R_drew)); exact HO_261003.out) hb); have n6_ := Aside0.mk (Kd.R_below (by (with_reducible repeat (first | apply Kd.R_alloc | apply Kd.R_drewN | apply Kd.R_drew)); exact HO_261005.out) hb); have n7_ := Aside0.mk (Kd.R_below (by (with_reducible repeat (first | apply Kd.R_alloc | apply Kd.R_drewN | apply Kd.R_drew)); exact HO280.out) hb); have n8_ := Aside0.mk (Kd.R_below (by (with_reducible repeat (first | apply Kd.R_alloc | apply Kd.R_drewN | apply Kd.R_drew)); exact HO285.out) hb); have n9_ := Aside0.mk (Kd.R_below (by (with_reducible repeat (first | apply Kd.R_alloc | apply Kd.R_drewN | apply Kd.R_drew)); exact HO288.out) hb); have n10_ := Aside0.mk (Kd.R_below (by (with_reducible repeat (first | apply Kd.R_alloc | apply Kd.R_drewN | apply Kd.R_drew)); exact HO292.out) hb); have n11_ := bb_ BK218 hb; have n12_ := bb_ BK239 hb; have n13_ := bb_ BK245 hb; have n14_ := bb_ BK260 hb; have n15_ := Aside0.mk (below_step bw_ hb); have n16_ := Aside0.mk (hbox); have n17_ := gz_ w hg; have n18_ := gz_ w hg; have n19_ := ne_ hg BK218; have n20_ := en_ hg BK218; have n21_ := ne_ hg BK239; have n22_ := en_ hg BK239; have n23_ := ne_ hg BK245; have n24_ := en_ hg BK245; have n25_ := ne_ hg BK260; have n26_ := en_ hg BK260; clear HO_240002; clear HO_240003; clear HO_240005; clear HO_246002; clear HO_261002; clear HO_261003; clear HO_261005; clear HO280; clear HO285; clear HO288; clear HO292; clear BK218; clear BK239; clear BK245; clear BK260; clear HB; have HO_240002 := n0_; have HO_240003 := n1_; have HO_240005 := n2_; have HO_246002 := n3_; have HO_261002 := n4_; have HO_261003 := n5_; have HO_261005 := n6_; have HO280 := n7_; have HO285 := n8_; have HO288 := n9_; have HO292 := n10_; have BK218 := n11_; have BK239 := n12_; have BK245 := n13_; have BK260 := n14_; have HB := n15_; have BK295 := n16_; have GW295 := n17_; have GE295 := n18_; have NB218_295 := n19_; have NB295_218 := n20_; have NB239_295 := n21_; have NB295_239 := n22_; have NB245_295 := n23_; have NB295_245 := n24_; have NB260_295 := n25_; have NB295_260 := n26_; clear n0_ n1_ n2_ n3_ n4_ n5_ n6_ n7_ n8_ n9_ n10_ n11_ n12_ n13_ n14_ n15_ n16_ n17_ n18_ n19_ n20_ n21_ n22_ n23_ n24_ n25_ n26_; clear hb hbox hg; have hnb115 := NB295_218.out; have hnc115 := NB218_295.out; have hnb116 := NB295_239.out; have hnc116 := NB239_295.out; have hnb117 := NB295_245.out; have hnc117 := NB245_295.out; have hnb118 := NB295_260.out; have hnc118 := NB260_295.out; obtain ⟨hcz119_0, hcz119_1, hcz119_2, hcz119_3, hcz119_4, hcz119_5, hcz119_6, hfz119_0, hfz119_1, hfz119_2, hfz119_3, hfz119_4, hfz119_5, hfz119_6⟩ := bc7_ BK295; obtain ⟨Ao120, co120, eo120⟩ := Kd.R_slice HO285.out; subst eo120; obtain ⟨Ao121, co121, eo121⟩ := Kd.R_slice HO288.out; subst eo121; obtain ⟨Ao122, co122, eo122⟩ := Kd.R_slice HO292.out; subst eo122))
           (try simp only [Act.put, List.setIfInBounds_toArray, List.set_cons_zero, List.set_cons_succ])
           go_cut [87] (fun v87 wc => ∃ (kq : Nat) (x87_99 : Bool), v87 = .bool x87_99 ∧ Aside0 (laws_FnExactNewWeaving.j2 kq t271 x87_99 t246 t247 t272 t273 t254 t274 t258 = some r) ∧ Aside0 (kq ≤ kj63) ∧ Aside0 (Kd.R (Kd.int .i64) 3 wc w.heap.size (fun k_ => some k_ ≠ ((.slice Ao23 t230.length co23) : Value).ownBlock ∧ some k_ ≠ ((.slice Ao31 t269.length co31) : Value).ownBlock ∧ some k_ ≠ ((.slice Ao38 t248.length co38) : Value).ownBlock ∧ some k_ ≠ ((.slice Ao39 t251.length co39) : Value).ownBlock ∧ some k_ ≠ ((.slice Ao120 t283.length co120) : Value).ownBlock ∧ some k_ ≠ ((.slice Ao121 t286.length co121) : Value).ownBlock) (.slice Ao22 t227.length co22) t227) ∧ Aside0 (Kd.R (Kd.int .i64) 3 wc w.heap.size (fun k_ => some k_ ≠ ((.slice Ao22 t227.length co22) : Value).ownBlock ∧ some k_ ≠ ((.slice Ao31 t269.length co31) : Value).ownBlock ∧ some k_ ≠ ((.slice Ao38 t248.length co38) : Value).ownBlock ∧ some k_ ≠ ((.slice Ao39 t251.length co39) : Value).ownBlock ∧ some k_ ≠ ((.slice Ao120 t283.length co120) : Value).ownBlock ∧ some k_ ≠ ((.slice Ao121 t286.length co121) : Value).ownBlock) (.slice Ao23 t230.length co23) t230) ∧ Aside0 (Kd.R k64 64 wc w.heap.size (fun k_ => some k_ ≠ ((.slice Ao40 t255.length co40) : Value).ownBlock ∧ some k_ ≠ ((.slice Ao122 t290.length co122) : Value).ownBlock) (.slice Ao24 t234.length co24) t234) ∧ Aside0 (Kd.R (Kd.int .i64) 3 wc w.heap.size (fun k_ => some k_ ≠ ((.slice Ao22 t227.length co22) : Value).ownBlock ∧ some k_ ≠ ((.slice Ao23 t230.length co23) : Value).ownBlock ∧ some k_ ≠ ((.slice Ao38 t248.length co38) : Value).ownBlock ∧ some k_ ≠ ((.slice Ao39 t251.length co39) : Value).ownBlock ∧ some k_ ≠ ((.slice Ao120 t283.length co120) : Value).ownBlock ∧ some k_ ≠ ((.slice Ao121 t286.length co121) : Value).ownBlock) (.slice Ao31 t269.length co31) t269) ∧ Aside0 (Kd.R (Kd.int .i64) 3 wc w.heap.size (fun k_ => some k_ ≠ ((.slice Ao22 t227.length co22) : Value).ownBlock ∧ some k_ ≠ ((.slice Ao23 t230.length co23) : Value).ownBlock ∧ some k_ ≠ ((.slice Ao31 t269.length co31) : Value).ownBlock ∧ some k_ ≠ ((.slice Ao39 t251.length co39) : Value).ownBlock ∧ some k_ ≠ ((.slice Ao120 t283.length co120) : Value).ownBlock ∧ some k_ ≠ ((.slice Ao121 t286.length co121) : Value).ownBlock) (.slice Ao38 t248.length co38) t272) ∧ Aside0 (Kd.R (Kd.int .i64) 3 wc w.heap.size (fun k_ => some k_ ≠ ((.slice Ao22 t227.length co22) : Value).ownBlock ∧ some k_ ≠ ((.slice Ao23 t230.length co23) : Value).ownBlock ∧ some k_ ≠ ((.slice Ao31 t269.length co31) : Value).ownBlock ∧ some k_ ≠ ((.slice Ao38 t248.length co38) : Value).ownBlock ∧ some k_ ≠ ((.slice Ao120 t283.length co120) : Value).ownBlock ∧ some k_ ≠ ((.slice Ao121 t286.length co121) : Value).ownBlock) (.slice Ao39 t251.length co39) t273) ∧ Aside0 (Kd.R k64 64 wc w.heap.size (fun k_ => some k_ ≠ ((.slice Ao24 t234.length co24) : Value).ownBlock ∧ some k_ ≠ ((.slice Ao122 t290.length co122) : Value).ownBlock) (.slice Ao40 t255.length co40) t274) ∧ Aside0 (Kd.R (Kd.int .i64) 3 wc w.heap.size (fun k_ => some k_ ≠ ((.slice Ao22 t227.length co22) : Value).ownBlock ∧ some k_ ≠ ((.slice Ao23 t230.length co23) : Value).ownBlock ∧ some k_ ≠ ((.slice Ao31 t269.length co31) : Value).ownBlock ∧ some k_ ≠ ((.slice Ao38 t248.length co38) : Value).ownBlock ∧ some k_ ≠ ((.slice Ao39 t251.length co39) : Value).ownBlock ∧ some k_ ≠ ((.slice Ao121 t286.length co121) : Value).ownBlock) (.slice Ao120 t283.length co120) t283) ∧ Aside0 (Kd.R (Kd.int .i64) 3 wc w.heap.size (fun k_ => some k_ ≠ ((.slice Ao22 t227.length co22) : Value).ownBlock ∧ some k_ ≠ ((.slice Ao23 t230.length co23) : Value).ownBlock ∧ some k_ ≠ ((.slice Ao31 t269.length co31) : Value).ownBlock ∧ some k_ ≠ ((.slice Ao38 t248.length co38) : Value).ownBlock ∧ some k_ ≠ ((.slice Ao39 t251.length co39) : Value).ownBlock ∧ some k_ ≠ ((.slice Ao120 t283.length co120) : Value).ownBlock) (.slice Ao121 t286.length co121) t286) ∧ Aside0 (Kd.R k64 64 wc w.heap.size (fun k_ => some k_ ≠ ((.slice Ao24 t234.length co24) : Value).ownBlock ∧ some k_ ≠ ((.slice Ao40 t255.length co40) : Value).ownBlock) (.slice Ao122 t290.length co122) t290) ∧ Aside0 (wc.heap[gb218]? = some (.cells #[.int .i64 a0_0, .int .i64 a0_1, (.slice A0_2 l0_2.length c0_2)] 42 (0, 0))) ∧ Aside0 (wc.heap[gb239]? = some (.cells #[.int .i64 t225, .int .i64 t226, (.slice Ao22 t227.length co22), (.slice Ao23 t230.length co23), .int .i64 t233, (.slice Ao24 t234.length co24), .bool t237] 29 (0, 0))) ∧ Aside0 (wc.heap[gb245]? = some (.cells #[.int .i64 t240, .int .i64 t241, (.slice Ao31 t269.length co31)] 26 (0, 0))) ∧ Aside0 (wc.heap[gb260]? = some (.cells #[.int .i64 t246, .int .i64 t247, (.slice Ao38 t248.length co38), (.slice Ao39 t251.length co39), .int .i64 t254, (.slice Ao40 t255.length co40), .bool t258] 29 (0, 0))) ∧ Aside0 (wc.heap[gb295]? = some (.cells #[.int .i64 t281, .int .i64 t282, (.slice Ao120 t283.length co120), (.slice Ao121 t286.length co121), .int .i64 t289, (.slice Ao122 t290.length co122), .bool t293] 29 (0, 0))) ∧ Aside0 (Below w.heap.size w wc))
           case first =>
            have H := HC100.out
            clear HC100
            replace H := Option.bind_eq_some_iff.mp H
            obtain ⟨t296, A1230, H⟩ := H
            replace H : (if t296 = true then (laws_FnExactNewWeaving.j2 kj63 t271 (t294 != t238) t246 t247 t272 t273 t254 t274 t258) else (laws_FnExactNewWeaving.j2 kj63 t271 true t246 t247 t272 t273 t254 t274 t258)) = some r := H
            have A123 := Aside0.mk A1230
            clear A1230
            by_cases c124 : t296 = true
            ·subst c124
             have H1 : (laws_FnExactNewWeaving.j2 kj63 t271 (t294 != t238) t246 t247 t272 t273 t254 t274 t258) = some r := by rw [if_pos rfl] at H; exact H
             clear H
             have H := H1
             clear H1
             have H' := Aside0.mk H
             clear H
             have hnb125 := NB295_218.out
             have hnc125 := NB218_295.out
             have hnb126 := NB295_239.out
             have hnc126 := NB239_295.out
             have hnb127 := NB295_245.out
             have hnc127 := NB245_295.out
             have hnb128 := NB295_260.out
             have hnc128 := NB260_295.out
             obtain ⟨hcz129_0, hcz129_1, hcz129_2, hcz129_3, hcz129_4, hcz129_5, hcz129_6, hfz129_0, hfz129_1, hfz129_2, hfz129_3, hfz129_4, hfz129_5, hfz129_6⟩ := bc7_ BK295
             have hnb130 := NB239_218.out
             have hnc130 := NB218_239.out
             have hnb131 := NB239_245.out
             have hnc131 := NB245_239.out
             have hnb132 := NB239_260.out
             have hnc132 := NB260_239.out
             obtain ⟨hcz133_0, hcz133_1, hcz133_2, hcz133_3, hcz133_4, hcz133_5, hcz133_6, hfz133_0, hfz133_1, hfz133_2, hfz133_3, hfz133_4, hfz133_5, hfz133_6⟩ := bc7_ BK239
             go_wp2_with (first | ((with_reducible refine gate_callee (f := 28) rfl ?_); refine goesB (some 81) Try.func28 #[.agg #[.int .i64 t281, .int .i64 t282, .slice Ao120 t283.length co120, .slice Ao121 t286.length co121, .int .i64 t289, .slice Ao122 t290.length co122, .bool t293], .agg #[.int .i64 t225, .int .i64 t226, .slice Ao22 t227.length co22, .slice Ao23 t230.length co23, .int .i64 t233, .slice Ao24 t234.length co24, .bool t237]] ?_; (with_reducible refine (laws_eqWeaving.calls kj63 t281 t282 _ _ t283 _ _ t286 t289 _ _ t290 t293 t225 t226 _ _ t227 _ _ t230 t233 _ _ t234 t237 true _ ?side1 ?side2 ?side3 ?side4 ?side5 ?side6 ?side7 ?side8 ?side9 ?side10 ?side11 ?side12 A123.out).mono ?_); (case side1 => refine (Kd.R_reads' (e := 3) (base := w.heap.size) (ok := fun k_ => ((((((some k_ ≠ (.slice Ao121 t286.length co121 : Value).ownBlock ∧ some k_ ≠ (.slice Ao22 t227.length co22 : Value).ownBlock) ∧ some k_ ≠ (.slice Ao23 t230.length co23 : Value).ownBlock) ∧ some k_ ≠ (.slice Ao31 t269.length co31 : Value).ownBlock) ∧ some k_ ≠ (.slice Ao38 t248.length co38 : Value).ownBlock) ∧ some k_ ≠ (.slice Ao39 t251.length co39 : Value).ownBlock) ∧ some k_ ≠ (.slice Ao112 t278.length co112 : Value).ownBlock)) (n := t283.length) (c := co120) ?_).2.2; exact (by exact rf_ (Kd.R_types HO285.out BK295.out (by decide)) (fun _ h_ => h_.1))); (case side2 => exact (Kd.R_reads' HO285.out).2.1); (case side3 => refine (Kd.R_reads' (e := 3) (base := w.heap.size) (ok := fun k_ => ((((((some k_ ≠ (.slice Ao120 t283.length co120 : Value).ownBlock ∧ some k_ ≠ (.slice Ao22 t227.length co22 : Value).ownBlock) ∧ some k_ ≠ (.slice Ao23 t230.length co23 : Value).ownBlock) ∧ some k_ ≠ (.slice Ao31 t269.length co31 : Value).ownBlock) ∧ some k_ ≠ (.slice Ao38 t248.length co38 : Value).ownBlock) ∧ some k_ ≠ (.slice Ao39 t251.length co39 : Value).ownBlock) ∧ some k_ ≠ (.slice Ao112 t278.length co112 : Value).ownBlock)) (n := t286.length) (c := co121) ?_).2.2; exact (by exact rf_ (Kd.R_types HO288.out BK295.out (by decide)) (fun _ h_ => h_.1))); (case side4 => exact (Kd.R_reads' HO288.out).2.1); (case side5 => refine (Kd.R_reads' (e := 64) (base := w.heap.size) (ok := fun k_ => ((True ∧ some k_ ≠ (.slice Ao24 t234.length co24 : Value).ownBlock) ∧ some k_ ≠ (.slice Ao40 t255.length co40 : Value).ownBlock)) (n := t290.length) (c := co122) ?_).2.2; exact (by exact rf_ (Kd.R_types HO292.out BK295.out (by decide)) (fun _ h_ => h_.1))); (case side6 => exact (Kd.R_reads' HO292.out).2.1); (case side7 => refine (Kd.R_reads' (e := 3) (base := w.heap.size) (ok := fun k_ => ((((some k_ ≠ (.slice Ao23 t230.length co23 : Value).ownBlock ∧ (some k_ ≠ (.slice Ao31 t269.length co31 : Value).ownBlock ∧ (some k_ ≠ (.slice Ao38 t248.length co38 : Value).ownBlock ∧ some k_ ≠ (.slice Ao39 t251.length co39 : Value).ownBlock))) ∧ some k_ ≠ (.slice Ao112 t278.length co112 : Value).ownBlock) ∧ some k_ ≠ (.slice Ao120 t283.length co120 : Value).ownBlock) ∧ some k_ ≠ (.slice Ao121 t286.length co121 : Value).ownBlock)) (n := t227.length) (c := co22) ?_).2.2; exact (by exact rf_ (Kd.R_types HO_240002.out BK295.out (by decide)) (fun _ h_ => h_.1))); (case side8 => exact (Kd.R_reads' HO_240002.out).2.1); (case side9 => refine (Kd.R_reads' (e := 3) (base := w.heap.size) (ok := fun k_ => ((((some k_ ≠ (.slice Ao22 t227.length co22 : Value).ownBlock ∧ (some k_ ≠ (.slice Ao31 t269.length co31 : Value).ownBlock ∧ (some k_ ≠ (.slice Ao38 t248.length co38 : Value).ownBlock ∧ some k_ ≠ (.slice Ao39 t251.length co39 : Value).ownBlock))) ∧ some k_ ≠ (.slice Ao112 t278.length co112 : Value).ownBlock) ∧ some k_ ≠ (.slice Ao120 t283.length co120 : Value).ownBlock) ∧ some k_ ≠ (.slice Ao121 t286.length co121 : Value).ownBlock)) (n := t230.length) (c := co23) ?_).2.2; exact (by exact rf_ (Kd.R_types HO_240003.out BK295.out (by decide)) (fun _ h_ => h_.1))); (case side10 => exact (Kd.R_reads' HO_240003.out).2.1); (case side11 => refine (Kd.R_reads' (e := 64) (base := w.heap.size) (ok := fun k_ => (some k_ ≠ (.slice Ao40 t255.length co40 : Value).ownBlock ∧ some k_ ≠ (.slice Ao122 t290.length co122 : Value).ownBlock)) (n := t234.length) (c := co24) ?_).2.2; exact (by exact rf_ (Kd.R_types HO_240005.out BK295.out (by decide)) (fun _ h_ => h_.1))); (case side12 => exact (Kd.R_reads' HO_240005.out).2.1); rintro e w134 ⟨rfl, hb⟩; refine ⟨_, rfl, ?_⟩; replace HO_240002 := Aside0.mk (Kd.R_below (by exact rf_ (Kd.R_types HO_240002.out BK295.out (by decide)) (fun _ h_ => h_.1)) hb); replace HO_240003 := Aside0.mk (Kd.R_below (by exact rf_ (Kd.R_types HO_240003.out BK295.out (by decide)) (fun _ h_ => h_.1)) hb); replace HO_240005 := Aside0.mk (Kd.R_below (by exact rf_ (Kd.R_types HO_240005.out BK295.out (by decide)) (fun _ h_ => h_.1)) hb); replace HO_246002 := Aside0.mk (Kd.R_below (by exact rf_ (Kd.R_types HO_246002.out BK295.out (by decide)) (fun _ h_ => h_.1)) hb); replace HO_261002 := Aside0.mk (Kd.R_below (by exact rf_ (Kd.R_types HO_261002.out BK295.out (by decide)) (fun _ h_ => h_.1)) hb); replace HO_261003 := Aside0.mk (Kd.R_below (by exact rf_ (Kd.R_types HO_261003.out BK295.out (by decide)) (fun _ h_ => h_.1)) hb); replace HO_261005 := Aside0.mk (Kd.R_below (by exact rf_ (Kd.R_types HO_261005.out BK295.out (by decide)) (fun _ h_ => h_.1)) hb); replace HO280 := Aside0.mk (Kd.R_below (by exact rf_ (Kd.R_types HO280.out BK295.out (by decide)) (fun _ h_ => h_.1)) hb); replace HO285 := Aside0.mk (Kd.R_below (by exact rf_ (Kd.R_types HO285.out BK295.out (by decide)) (fun _ h_ => h_.1)) hb); replace HO288 := Aside0.mk (Kd.R_below (by exact rf_ (Kd.R_types HO288.out BK295.out (by decide)) (fun _ h_ => h_.1)) hb); replace HO292 := Aside0.mk (Kd.R_below (by exact rf_ (Kd.R_types HO292.out BK295.out (by decide)) (fun _ h_ => h_.1)) hb); replace BK218 := bb_ BK218 hb; replace BK239 := bb_ BK239 hb; replace BK245 := bb_ BK245 hb; replace BK260 := bb_ BK260 hb; replace BK295 := Aside0.mk (blk_below (g := gb295) (o := .cells #[.int .i64 t281, .int .i64 t282, .slice Ao120 t283.length co120, .slice Ao121 t286.length co121, .int .i64 t289, .slice Ao122 t290.length co122, .bool t293] 29 (0, 0)) (bq_ BK295) hb); replace HB := Aside0.mk (below_step bw_ hb); (try clear hb); (try clear hb2); (try clear hk); (try clear hi)))
             go_meet
             case rel => exact ⟨_, ((t294 != t238)), (by first | rfl | (simp; done) | (simp [*]; done)), H', ⟨by have := HJ10.out; have := HJ63.out; first | omega | exact Nat.le_refl _⟩, ⟨by (try simp only [hl246002_63]); (with_reducible repeat (first | apply Kd.R_alloc | apply Kd.R_drewN | apply Kd.R_drew)); exact Kd.R_mono HO_240002.out (fun _ hk => ⟨hk.1.1.1.1, ⟨hk.1.1.1.2.1, ⟨hk.1.1.1.2.2.1, ⟨hk.1.1.1.2.2.2, ⟨hk.1.2, hk.2⟩⟩⟩⟩⟩)⟩, ⟨by (try simp only [hl246002_63]); (with_reducible repeat (first | apply Kd.R_alloc | apply Kd.R_drewN | apply Kd.R_drew)); exact Kd.R_mono HO_240003.out (fun _ hk => ⟨hk.1.1.1.1, ⟨hk.1.1.1.2.1, ⟨hk.1.1.1.2.2.1, ⟨hk.1.1.1.2.2.2, ⟨hk.1.2, hk.2⟩⟩⟩⟩⟩)⟩, ⟨by (try simp only [hl246002_63]); (with_reducible repeat (first | apply Kd.R_alloc | apply Kd.R_drewN | apply Kd.R_drew)); exact HO_240005.out⟩, ⟨by (try simp only [hl246002_63]); (with_reducible repeat (first | apply Kd.R_alloc | apply Kd.R_drewN | apply Kd.R_drew)); exact Kd.R_mono HO_246002.out (fun _ hk => ⟨hk.1.1.1.1, ⟨hk.1.1.1.2.1, ⟨hk.1.1.1.2.2.1, ⟨hk.1.1.1.2.2.2, ⟨hk.1.2, hk.2⟩⟩⟩⟩⟩)⟩, ⟨by (try simp only [hl246002_63]); (with_reducible repeat (first | apply Kd.R_alloc | apply Kd.R_drewN | apply Kd.R_drew)); exact Kd.R_mono HO_261002.out (fun _ hk => ⟨hk.1.1.1.1, ⟨hk.1.1.1.2.1, ⟨hk.1.1.1.2.2.1, ⟨hk.1.1.1.2.2.2, ⟨hk.1.2, hk.2⟩⟩⟩⟩⟩)⟩, ⟨by (try simp only [hl246002_63]); (with_reducible repeat (first | apply Kd.R_alloc | apply Kd.R_drewN | apply Kd.R_drew)); exact Kd.R_mono HO_261003.out (fun _ hk => ⟨hk.1.1.1.1, ⟨hk.1.1.1.2.1, ⟨hk.1.1.1.2.2.1, ⟨hk.1.1.1.2.2.2, ⟨hk.1.2, hk.2⟩⟩⟩⟩⟩)⟩, ⟨by (try simp only [hl246002_63]); (with_reducible repeat (first | apply Kd.R_alloc | apply Kd.R_drewN | apply Kd.R_drew)); exact HO_261005.out⟩, ⟨by (try simp only [hl246002_63]); (with_reducible repeat (first | apply Kd.R_alloc | apply Kd.R_drewN | apply Kd.R_drew)); exact Kd.R_mono HO285.out (fun _ hk => ⟨hk.1.1.1.1.1.2, ⟨hk.1.1.1.1.2, ⟨hk.1.1.1.2, ⟨hk.1.1.2, ⟨hk.1.2, hk.1.1.1.1.1.1⟩⟩⟩⟩⟩)⟩, ⟨by (try simp only [hl246002_63]); (with_reducible repeat (first | apply Kd.R_alloc | apply Kd.R_drewN | apply Kd.R_drew)); exact Kd.R_mono HO288.out (fun _ hk => ⟨hk.1.1.1.1.1.2, ⟨hk.1.1.1.1.2, ⟨hk.1.1.1.2, ⟨hk.1.1.2, ⟨hk.1.2, hk.1.1.1.1.1.1⟩⟩⟩⟩⟩)⟩, ⟨by (try simp only [hl246002_63]); (with_reducible repeat (first | apply Kd.R_alloc | apply Kd.R_drewN | apply Kd.R_drew)); exact Kd.R_mono HO292.out (fun _ hk => ⟨hk.1.2, hk.2⟩)⟩, ⟨by (try simp only [hl246002_63]); (with_reducible repeat (first | refine blk_drewN ?_ _ | refine blk_drew ?_ | refine blk_alloc ?_ _)); exact BK218.out⟩, ⟨by (try simp only [hl246002_63]); (with_reducible repeat (first | refine blk_drewN ?_ _ | refine blk_drew ?_ | refine blk_alloc ?_ _)); exact BK239.out⟩, ⟨by (try simp only [hl246002_63]); (with_reducible repeat (first | refine blk_drewN ?_ _ | refine blk_drew ?_ | refine blk_alloc ?_ _)); exact BK245.out⟩, ⟨by (try simp only [hl246002_63]); (with_reducible repeat (first | refine blk_drewN ?_ _ | refine blk_drew ?_ | refine blk_alloc ?_ _)); exact BK260.out⟩, ⟨by (try simp only [hl246002_63]); (with_reducible repeat (first | refine blk_drewN ?_ _ | refine blk_drew ?_ | refine blk_alloc ?_ _)); exact BK295.out⟩, ⟨bw_⟩⟩
            ·replace c124 := Bool.eq_false_iff.mpr c124
             subst c124
             have H1 : (laws_FnExactNewWeaving.j2 kj63 t271 true t246 t247 t272 t273 t254 t274 t258) = some r := by rw [if_neg (show ¬ (false = true) by decide)] at H; exact H
             clear H
             have H := H1
             clear H1
             have H' := Aside0.mk H
             clear H
             have hnb135 := NB295_218.out
             have hnc135 := NB218_295.out
             have hnb136 := NB295_239.out
             have hnc136 := NB239_295.out
             have hnb137 := NB295_245.out
             have hnc137 := NB245_295.out
             have hnb138 := NB295_260.out
             have hnc138 := NB260_295.out
             obtain ⟨hcz139_0, hcz139_1, hcz139_2, hcz139_3, hcz139_4, hcz139_5, hcz139_6, hfz139_0, hfz139_1, hfz139_2, hfz139_3, hfz139_4, hfz139_5, hfz139_6⟩ := bc7_ BK295
             have hnb140 := NB239_218.out
             have hnc140 := NB218_239.out
             have hnb141 := NB239_245.out
             have hnc141 := NB245_239.out
             have hnb142 := NB239_260.out
             have hnc142 := NB260_239.out
             obtain ⟨hcz143_0, hcz143_1, hcz143_2, hcz143_3, hcz143_4, hcz143_5, hcz143_6, hfz143_0, hfz143_1, hfz143_2, hfz143_3, hfz143_4, hfz143_5, hfz143_6⟩ := bc7_ BK239
             go_wp2_with (first | ((with_reducible refine gate_callee (f := 28) rfl ?_); refine goesB (some 81) Try.func28 #[.agg #[.int .i64 t281, .int .i64 t282, .slice Ao120 t283.length co120, .slice Ao121 t286.length co121, .int .i64 t289, .slice Ao122 t290.length co122, .bool t293], .agg #[.int .i64 t225, .int .i64 t226, .slice Ao22 t227.length co22, .slice Ao23 t230.length co23, .int .i64 t233, .slice Ao24 t234.length co24, .bool t237]] ?_; (with_reducible refine (laws_eqWeaving.calls kj63 t281 t282 _ _ t283 _ _ t286 t289 _ _ t290 t293 t225 t226 _ _ t227 _ _ t230 t233 _ _ t234 t237 false _ ?side1 ?side2 ?side3 ?side4 ?side5 ?side6 ?side7 ?side8 ?side9 ?side10 ?side11 ?side12 A123.out).mono ?_); (case side1 => refine (Kd.R_reads' (e := 3) (base := w.heap.size) (ok := fun k_ => ((((((some k_ ≠ (.slice Ao121 t286.length co121 : Value).ownBlock ∧ some k_ ≠ (.slice Ao22 t227.length co22 : Value).ownBlock) ∧ some k_ ≠ (.slice Ao23 t230.length co23 : Value).ownBlock) ∧ some k_ ≠ (.slice Ao31 t269.length co31 : Value).ownBlock) ∧ some k_ ≠ (.slice Ao38 t248.length co38 : Value).ownBlock) ∧ some k_ ≠ (.slice Ao39 t251.length co39 : Value).ownBlock) ∧ some k_ ≠ (.slice Ao112 t278.length co112 : Value).ownBlock)) (n := t283.length) (c := co120) ?_).2.2; exact (by exact rf_ (Kd.R_types HO285.out BK295.out (by decide)) (fun _ h_ => h_.1))); (case side2 => exact (Kd.R_reads' HO285.out).2.1); (case side3 => refine (Kd.R_reads' (e := 3) (base := w.heap.size) (ok := fun k_ => ((((((some k_ ≠ (.slice Ao120 t283.length co120 : Value).ownBlock ∧ some k_ ≠ (.slice Ao22 t227.length co22 : Value).ownBlock) ∧ some k_ ≠ (.slice Ao23 t230.length co23 : Value).ownBlock) ∧ some k_ ≠ (.slice Ao31 t269.length co31 : Value).ownBlock) ∧ some k_ ≠ (.slice Ao38 t248.length co38 : Value).ownBlock) ∧ some k_ ≠ (.slice Ao39 t251.length co39 : Value).ownBlock) ∧ some k_ ≠ (.slice Ao112 t278.length co112 : Value).ownBlock)) (n := t286.length) (c := co121) ?_).2.2; exact (by exact rf_ (Kd.R_types HO288.out BK295.out (by decide)) (fun _ h_ => h_.1))); (case side4 => exact (Kd.R_reads' HO288.out).2.1); (case side5 => refine (Kd.R_reads' (e := 64) (base := w.heap.size) (ok := fun k_ => ((True ∧ some k_ ≠ (.slice Ao24 t234.length co24 : Value).ownBlock) ∧ some k_ ≠ (.slice Ao40 t255.length co40 : Value).ownBlock)) (n := t290.length) (c := co122) ?_).2.2; exact (by exact rf_ (Kd.R_types HO292.out BK295.out (by decide)) (fun _ h_ => h_.1))); (case side6 => exact (Kd.R_reads' HO292.out).2.1); (case side7 => refine (Kd.R_reads' (e := 3) (base := w.heap.size) (ok := fun k_ => ((((some k_ ≠ (.slice Ao23 t230.length co23 : Value).ownBlock ∧ (some k_ ≠ (.slice Ao31 t269.length co31 : Value).ownBlock ∧ (some k_ ≠ (.slice Ao38 t248.length co38 : Value).ownBlock ∧ some k_ ≠ (.slice Ao39 t251.length co39 : Value).ownBlock))) ∧ some k_ ≠ (.slice Ao112 t278.length co112 : Value).ownBlock) ∧ some k_ ≠ (.slice Ao120 t283.length co120 : Value).ownBlock) ∧ some k_ ≠ (.slice Ao121 t286.length co121 : Value).ownBlock)) (n := t227.length) (c := co22) ?_).2.2; exact (by exact rf_ (Kd.R_types HO_240002.out BK295.out (by decide)) (fun _ h_ => h_.1))); (case side8 => exact (Kd.R_reads' HO_240002.out).2.1); (case side9 => refine (Kd.R_reads' (e := 3) (base := w.heap.size) (ok := fun k_ => ((((some k_ ≠ (.slice Ao22 t227.length co22 : Value).ownBlock ∧ (some k_ ≠ (.slice Ao31 t269.length co31 : Value).ownBlock ∧ (some k_ ≠ (.slice Ao38 t248.length co38 : Value).ownBlock ∧ some k_ ≠ (.slice Ao39 t251.length co39 : Value).ownBlock))) ∧ some k_ ≠ (.slice Ao112 t278.length co112 : Value).ownBlock) ∧ some k_ ≠ (.slice Ao120 t283.length co120 : Value).ownBlock) ∧ some k_ ≠ (.slice Ao121 t286.length co121 : Value).ownBlock)) (n := t230.length) (c := co23) ?_).2.2; exact (by exact rf_ (Kd.R_types HO_240003.out BK295.out (by decide)) (fun _ h_ => h_.1))); (case side10 => exact (Kd.R_reads' HO_240003.out).2.1); (case side11 => refine (Kd.R_reads' (e := 64) (base := w.heap.size) (ok := fun k_ => (some k_ ≠ (.slice Ao40 t255.length co40 : Value).ownBlock ∧ some k_ ≠ (.slice Ao122 t290.length co122 : Value).ownBlock)) (n := t234.length) (c := co24) ?_).2.2; exact (by exact rf_ (Kd.R_types HO_240005.out BK295.out (by decide)) (fun _ h_ => h_.1))); (case side12 => exact (Kd.R_reads' HO_240005.out).2.1); rintro e w144 ⟨rfl, hb⟩; refine ⟨_, rfl, ?_⟩; replace HO_240002 := Aside0.mk (Kd.R_below (by exact rf_ (Kd.R_types HO_240002.out BK295.out (by decide)) (fun _ h_ => h_.1)) hb); replace HO_240003 := Aside0.mk (Kd.R_below (by exact rf_ (Kd.R_types HO_240003.out BK295.out (by decide)) (fun _ h_ => h_.1)) hb); replace HO_240005 := Aside0.mk (Kd.R_below (by exact rf_ (Kd.R_types HO_240005.out BK295.out (by decide)) (fun _ h_ => h_.1)) hb); replace HO_246002 := Aside0.mk (Kd.R_below (by exact rf_ (Kd.R_types HO_246002.out BK295.out (by decide)) (fun _ h_ => h_.1)) hb); replace HO_261002 := Aside0.mk (Kd.R_below (by exact rf_ (Kd.R_types HO_261002.out BK295.out (by decide)) (fun _ h_ => h_.1)) hb); replace HO_261003 := Aside0.mk (Kd.R_below (by exact rf_ (Kd.R_types HO_261003.out BK295.out (by decide)) (fun _ h_ => h_.1)) hb); replace HO_261005 := Aside0.mk (Kd.R_below (by exact rf_ (Kd.R_types HO_261005.out BK295.out (by decide)) (fun _ h_ => h_.1)) hb); replace HO280 := Aside0.mk (Kd.R_below (by exact rf_ (Kd.R_types HO280.out BK295.out (by decide)) (fun _ h_ => h_.1)) hb); replace HO285 := Aside0.mk (Kd.R_below (by exact rf_ (Kd.R_types HO285.out BK295.out (by decide)) (fun _ h_ => h_.1)) hb); replace HO288 := Aside0.mk (Kd.R_below (by exact rf_ (Kd.R_types HO288.out BK295.out (by decide)) (fun _ h_ => h_.1)) hb); replace HO292 := Aside0.mk (Kd.R_below (by exact rf_ (Kd.R_types HO292.out BK295.out (by decide)) (fun _ h_ => h_.1)) hb); replace BK218 := bb_ BK218 hb; replace BK239 := bb_ BK239 hb; replace BK245 := bb_ BK245 hb; replace BK260 := bb_ BK260 hb; replace BK295 := Aside0.mk (blk_below (g := gb295) (o := .cells #[.int .i64 t281, .int .i64 t282, .slice Ao120 t283.length co120, .slice Ao121 t286.length co121, .int .i64 t289, .slice Ao122 t290.length co122, .bool t293] 29 (0, 0)) (bq_ BK295) hb); replace HB := Aside0.mk (below_step bw_ hb); (try clear hb); (try clear hb2); (try clear hk); (try clear hi)))
             go_meet
             case rel => exact ⟨_, (true), (by first | rfl | (simp; done) | (simp [*]; done)), H', ⟨by have := HJ10.out; have := HJ63.out; first | omega | exact Nat.le_refl _⟩, ⟨by (try simp only [hl246002_63]); (with_reducible repeat (first | apply Kd.R_alloc | apply Kd.R_drewN | apply Kd.R_drew)); exact Kd.R_mono HO_240002.out (fun _ hk => ⟨hk.1.1.1.1, ⟨hk.1.1.1.2.1, ⟨hk.1.1.1.2.2.1, ⟨hk.1.1.1.2.2.2, ⟨hk.1.2, hk.2⟩⟩⟩⟩⟩)⟩, ⟨by (try simp only [hl246002_63]); (with_reducible repeat (first | apply Kd.R_alloc | apply Kd.R_drewN | apply Kd.R_drew)); exact Kd.R_mono HO_240003.out (fun _ hk => ⟨hk.1.1.1.1, ⟨hk.1.1.1.2.1, ⟨hk.1.1.1.2.2.1, ⟨hk.1.1.1.2.2.2, ⟨hk.1.2, hk.2⟩⟩⟩⟩⟩)⟩, ⟨by (try simp only [hl246002_63]); (with_reducible repeat (first | apply Kd.R_alloc | apply Kd.R_drewN | apply Kd.R_drew)); exact HO_240005.out⟩, ⟨by (try simp only [hl246002_63]); (with_reducible repeat (first | apply Kd.R_alloc | apply Kd.R_drewN | apply Kd.R_drew)); exact Kd.R_mono HO_246002.out (fun _ hk => ⟨hk.1.1.1.1, ⟨hk.1.1.1.2.1, ⟨hk.1.1.1.2.2.1, ⟨hk.1.1.1.2.2.2, ⟨hk.1.2, hk.2⟩⟩⟩⟩⟩)⟩, ⟨by (try simp only [hl246002_63]); (with_reducible repeat (first | apply Kd.R_alloc | apply Kd.R_drewN | apply Kd.R_drew)); exact Kd.R_mono HO_261002.out (fun _ hk => ⟨hk.1.1.1.1, ⟨hk.1.1.1.2.1, ⟨hk.1.1.1.2.2.1, ⟨hk.1.1.1.2.2.2, ⟨hk.1.2, hk.2⟩⟩⟩⟩⟩)⟩, ⟨by (try simp only [hl246002_63]); (with_reducible repeat (first | apply Kd.R_alloc | apply Kd.R_drewN | apply Kd.R_drew)); exact Kd.R_mono HO_261003.out (fun _ hk => ⟨hk.1.1.1.1, ⟨hk.1.1.1.2.1, ⟨hk.1.1.1.2.2.1, ⟨hk.1.1.1.2.2.2, ⟨hk.1.2, hk.2⟩⟩⟩⟩⟩)⟩, ⟨by (try simp only [hl246002_63]); (with_reducible repeat (first | apply Kd.R_alloc | apply Kd.R_drewN | apply Kd.R_drew)); exact HO_261005.out⟩, ⟨by (try simp only [hl246002_63]); (with_reducible repeat (first | apply Kd.R_alloc | apply Kd.R_drewN | apply Kd.R_drew)); exact Kd.R_mono HO285.out (fun _ hk => ⟨hk.1.1.1.1.1.2, ⟨hk.1.1.1.1.2, ⟨hk.1.1.1.2, ⟨hk.1.1.2, ⟨hk.1.2, hk.1.1.1.1.1.1⟩⟩⟩⟩⟩)⟩, ⟨by (try simp only [hl246002_63]); (with_reducible repeat (first | apply Kd.R_alloc | apply Kd.R_drewN | apply Kd.R_drew)); exact Kd.R_mono HO288.out (fun _ hk => ⟨hk.1.1.1.1.1.2, ⟨hk.1.1.1.1.2, ⟨hk.1.1.1.2, ⟨hk.1.1.2, ⟨hk.1.2, hk.1.1.1.1.1.1⟩⟩⟩⟩⟩)⟩, ⟨by (try simp only [hl246002_63]); (with_reducible repeat (first | apply Kd.R_alloc | apply Kd.R_drewN | apply Kd.R_drew)); exact Kd.R_mono HO292.out (fun _ hk => ⟨hk.1.2, hk.2⟩)⟩, ⟨by (try simp only [hl246002_63]); (with_reducible repeat (first | refine blk_drewN ?_ _ | refine blk_drew ?_ | refine blk_alloc ?_ _)); exact BK218.out⟩, ⟨by (try simp only [hl246002_63]); (with_reducible repeat (first | refine blk_drewN ?_ _ | refine blk_drew ?_ | refine blk_alloc ?_ _)); exact BK239.out⟩, ⟨by (try simp only [hl246002_63]); (with_reducible repeat (first | refine blk_drewN ?_ _ | refine blk_drew ?_ | refine blk_alloc ?_ _)); exact BK245.out⟩, ⟨by (try simp only [hl246002_63]); (with_reducible repeat (first | refine blk_drewN ?_ _ | refine blk_drew ?_ | refine blk_alloc ?_ _)); exact BK260.out⟩, ⟨by (try simp only [hl246002_63]); (with_reducible repeat (first | refine blk_drewN ?_ _ | refine blk_drew ?_ | refine blk_alloc ?_ _)); exact BK295.out⟩, ⟨bw_⟩⟩
           case rest =>
            clear HC100
            try clear c1
            try clear c2
            try clear p2
            try clear c3
            try clear c3b0
            try clear c4
            try clear c5
            try clear c6
            try clear c7
            try clear c8
            try clear c9
            try clear c10
            try clear c11
            try clear c12
            try clear c13
            try clear c14
            try clear c20
            try clear c24
            try clear c25
            try clear c26
            try clear c27
            try clear c28
            try clear c29
            try clear c30
            try clear c31
            try clear c32
            try clear c34
            try clear c35
            try clear c36
            try clear c42
            try clear c43
            try clear c44
            try clear c45
            try clear c47
            try clear c48
            try clear c51
            try clear c52
            try clear c53
            try clear c55
            try clear c56
            try clear c59
            try clear c62
            try clear c69
            try clear c70
            try clear c71
            try clear c74
            try clear c74b0
            try clear c76
            try clear c77
            try clear c78
            try clear c79
            try clear c81
            try clear c82
            try clear c85
            try clear c86
            try clear c87
            try clear c89
            try clear c90
            try clear c93
            try clear c96
            try clear c96b0
            try clear c97
            try clear c97b0
            try clear c97b1
            try clear c101
            try clear c102
            try clear c103
            try clear c108
            try clear c109
            try clear c115
            try clear c116
            try clear c117
            try clear c118
            try clear c124
            try clear c125
            try clear c126
            try clear c127
            try clear c128
            try clear c130
            try clear c131
            try clear c132
            try clear c135
            try clear c136
            try clear c137
            try clear c138
            try clear c140
            try clear c141
            try clear c142
            try clear hcz104_0
            try clear hcz104_1
            try clear hcz104_2
            try clear hcz104_3
            try clear hcz104_4
            try clear hcz104_5
            try clear hcz104_6
            try clear hcz106_0
            try clear hcz106_1
            try clear hcz106_2
            try clear hcz106_3
            try clear hcz106_4
            try clear hcz106_5
            try clear hcz106_6
            try clear hcz110_0
            try clear hcz110_1
            try clear hcz110_2
            try clear hcz119_0
            try clear hcz119_1
            try clear hcz119_2
            try clear hcz119_3
            try clear hcz119_4
            try clear hcz119_5
            try clear hcz119_6
            try clear hcz129_0
            try clear hcz129_1
            try clear hcz129_2
            try clear hcz129_3
            try clear hcz129_4
            try clear hcz129_5
            try clear hcz129_6
            try clear hcz133_0
            try clear hcz133_1
            try clear hcz133_2
            try clear hcz133_3
            try clear hcz133_4
            try clear hcz133_5
            try clear hcz133_6
            try clear hcz139_0
            try clear hcz139_1
            try clear hcz139_2
            try clear hcz139_3
            try clear hcz139_4
            try clear hcz139_5
            try clear hcz139_6
            try clear hcz13_0
            try clear hcz13_1
            try clear hcz13_2
            try clear hcz143_0
            try clear hcz143_1
            try clear hcz143_2
            try clear hcz143_3
            try clear hcz143_4
            try clear hcz143_5
            try clear hcz143_6
            try clear hcz15_0
            try clear hcz15_1
            try clear hcz15_2
            try clear hcz21_0
            try clear hcz21_1
            try clear hcz21_2
            try clear hcz21_3
            try clear hcz21_4
            try clear hcz21_5
            try clear hcz21_6
            try clear hcz25_0
            try clear hcz25_1
            try clear hcz25_2
            try clear hcz30_0
            try clear hcz30_1
            try clear hcz30_2
            try clear hcz37_0
            try clear hcz37_1
            try clear hcz37_2
            try clear hcz37_3
            try clear hcz37_4
            try clear hcz37_5
            try clear hcz37_6
            try clear hcz46_0
            try clear hcz46_1
            try clear hcz46_2
            try clear hcz46_3
            try clear hcz46_4
            try clear hcz46_5
            try clear hcz46_6
            try clear hcz49_0
            try clear hcz49_1
            try clear hcz49_2
            try clear hcz49_3
            try clear hcz49_4
            try clear hcz49_5
            try clear hcz49_6
            try clear hcz54_0
            try clear hcz54_1
            try clear hcz54_2
            try clear hcz54_3
            try clear hcz54_4
            try clear hcz54_5
            try clear hcz54_6
            try clear hcz57_0
            try clear hcz57_1
            try clear hcz57_2
            try clear hcz57_3
            try clear hcz57_4
            try clear hcz57_5
            try clear hcz57_6
            try clear hcz5_0
            try clear hcz5_1
            try clear hcz5_2
            try clear hcz72_0
            try clear hcz72_1
            try clear hcz72_2
            try clear hcz80_0
            try clear hcz80_1
            try clear hcz80_2
            try clear hcz80_3
            try clear hcz80_4
            try clear hcz80_5
            try clear hcz80_6
            try clear hcz83_0
            try clear hcz83_1
            try clear hcz83_2
            try clear hcz83_3
            try clear hcz83_4
            try clear hcz83_5
            try clear hcz83_6
            try clear hcz88_0
            try clear hcz88_1
            try clear hcz88_2
            try clear hcz88_3
            try clear hcz88_4
            try clear hcz88_5
            try clear hcz88_6
            try clear hcz91_0
            try clear hcz91_1
            try clear hcz91_2
            try clear hcz91_3
            try clear hcz91_4
            try clear hcz91_5
            try clear hcz91_6
            try clear hfz104_0
            try clear hfz104_1
            try clear hfz104_2
            try clear hfz104_3
            try clear hfz104_4
            try clear hfz104_5
            try clear hfz104_6
            try clear hfz106_0
            try clear hfz106_1
            try clear hfz106_2
            try clear hfz106_3
            try clear hfz106_4
            try clear hfz106_5
            try clear hfz106_6
            try clear hfz110_0
            try clear hfz110_1
            try clear hfz110_2
            try clear hfz119_0
            try clear hfz119_1
            try clear hfz119_2
            try clear hfz119_3
            try clear hfz119_4
            try clear hfz119_5
            try clear hfz119_6
            try clear hfz129_0
            try clear hfz129_1
            try clear hfz129_2
            try clear hfz129_3
            try clear hfz129_4
            try clear hfz129_5
            try clear hfz129_6
            try clear hfz133_0
            try clear hfz133_1
            try clear hfz133_2
            try clear hfz133_3
            try clear hfz133_4
            try clear hfz133_5
            try clear hfz133_6
            try clear hfz139_0
            try clear hfz139_1
            try clear hfz139_2
            try clear hfz139_3
            try clear hfz139_4
            try clear hfz139_5
            try clear hfz139_6
            try clear hfz13_0
            try clear hfz13_1
            try clear hfz13_2
            try clear hfz143_0
            try clear hfz143_1
            try clear hfz143_2
            try clear hfz143_3
            try clear hfz143_4
            try clear hfz143_5
            try clear hfz143_6
            try clear hfz15_0
            try clear hfz15_1
            try clear hfz15_2
            try clear hfz21_0
            try clear hfz21_1
            try clear hfz21_2
            try clear hfz21_3
            try clear hfz21_4
            try clear hfz21_5
            try clear hfz21_6
            try clear hfz25_0
            try clear hfz25_1
            try clear hfz25_2
            try clear hfz30_0
            try clear hfz30_1
            try clear hfz30_2
            try clear hfz37_0
            try clear hfz37_1
            try clear hfz37_2
            try clear hfz37_3
            try clear hfz37_4
            try clear hfz37_5
            try clear hfz37_6
            try clear hfz46_0
            try clear hfz46_1
            try clear hfz46_2
            try clear hfz46_3
            try clear hfz46_4
            try clear hfz46_5
            try clear hfz46_6
            try clear hfz49_0
            try clear hfz49_1
            try clear hfz49_2
            try clear hfz49_3
            try clear hfz49_4
            try clear hfz49_5
            try clear hfz49_6
            try clear hfz54_0
            try clear hfz54_1
            try clear hfz54_2
            try clear hfz54_3
            try clear hfz54_4
            try clear hfz54_5
            try clear hfz54_6
            try clear hfz57_0
            try clear hfz57_1
            try clear hfz57_2
            try clear hfz57_3
            try clear hfz57_4
            try clear hfz57_5
            try clear hfz57_6
            try clear hfz5_0
            try clear hfz5_1
            try clear hfz5_2
            try clear hfz72_0
            try clear hfz72_1
            try clear hfz72_2
            try clear hfz80_0
            try clear hfz80_1
            try clear hfz80_2
            try clear hfz80_3
            try clear hfz80_4
            try clear hfz80_5
            try clear hfz80_6
            try clear hfz83_0
            try clear hfz83_1
            try clear hfz83_2
            try clear hfz83_3
            try clear hfz83_4
            try clear hfz83_5
            try clear hfz83_6
            try clear hfz88_0
            try clear hfz88_1
            try clear hfz88_2
            try clear hfz88_3
            try clear hfz88_4
            try clear hfz88_5
            try clear hfz88_6
            try clear hfz91_0
            try clear hfz91_1
            try clear hfz91_2
            try clear hfz91_3
            try clear hfz91_4
            try clear hfz91_5
            try clear hfz91_6
            try clear p2
            obtain ⟨kq, x87_99, rfl, HA, HJ99, HO_240002, HO_240003, HO_240005, HO_246002, HO_261002, HO_261003, HO_261005, HO_296002, HO_296003, HO_296005, BK218, BK239, BK245, BK260, BK295, HB⟩ := hcut
            have hl261002_99 := (Kd.R_reads' HO_261002.out).1
            rw [hl261002_99] at HO_261002
            (try simp only [hl261002_99])
            (try simp only [hl261002_99] at BK218)
            (try simp only [hl261002_99] at BK239)
            (try simp only [hl261002_99] at BK245)
            (try simp only [hl261002_99] at BK260)
            (try simp only [hl261002_99] at BK295)
            (try simp only [hl261002_99] at HO_240002)
            (try simp only [hl261002_99] at HO_240003)
            (try simp only [hl261002_99] at HO_240005)
            (try simp only [hl261002_99] at HO_246002)
            (try simp only [hl261002_99] at HO_261003)
            (try simp only [hl261002_99] at HO_261005)
            (try simp only [hl261002_99] at HO_296002)
            (try simp only [hl261002_99] at HO_296003)
            (try simp only [hl261002_99] at HO_296005)
            have hl261003_99 := (Kd.R_reads' HO_261003.out).1
            rw [hl261003_99] at HO_261003
            (try simp only [hl261003_99])
            (try simp only [hl261003_99] at BK218)
            (try simp only [hl261003_99] at BK239)
            (try simp only [hl261003_99] at BK245)
            (try simp only [hl261003_99] at BK260)
            (try simp only [hl261003_99] at BK295)
            (try simp only [hl261003_99] at HO_240002)
            (try simp only [hl261003_99] at HO_240003)
            (try simp only [hl261003_99] at HO_240005)
            (try simp only [hl261003_99] at HO_246002)
            (try simp only [hl261003_99] at HO_261002)
            (try simp only [hl261003_99] at HO_261005)
            (try simp only [hl261003_99] at HO_296002)
            (try simp only [hl261003_99] at HO_296003)
            (try simp only [hl261003_99] at HO_296005)
            have hl261005_99 := (Kd.R_reads' HO_261005.out).1
            rw [hl261005_99] at HO_261005
            (try simp only [hl261005_99])
            (try simp only [hl261005_99] at BK218)
            (try simp only [hl261005_99] at BK239)
            (try simp only [hl261005_99] at BK245)
            (try simp only [hl261005_99] at BK260)
            (try simp only [hl261005_99] at BK295)
            (try simp only [hl261005_99] at HO_240002)
            (try simp only [hl261005_99] at HO_240003)
            (try simp only [hl261005_99] at HO_240005)
            (try simp only [hl261005_99] at HO_246002)
            (try simp only [hl261005_99] at HO_261002)
            (try simp only [hl261005_99] at HO_261003)
            (try simp only [hl261005_99] at HO_296002)
            (try simp only [hl261005_99] at HO_296003)
            (try simp only [hl261005_99] at HO_296005)
            cases kq with
            | zero => exact absurd HA.out (by simp [laws_FnExactNewWeaving.j2])
            | succ kj99 =>
             have H := HA.out
             clear HA
             simp only [laws_FnExactNewWeaving.j2] at H
             by_cases c145 : x87_99 = true
             ·subst c145
              have H1 : (some false) = some r := by rw [if_pos rfl] at H; exact H
              clear H
              have H := H1
              clear H1
              exact absurd (H.trans (congrArg some HRT.out)) (by simp)
             ·replace c145 := Bool.eq_false_iff.mpr c145
              subst c145
              have H1 : ((laws_heldWeaving.f kj99 t246 t247 t272 t273 t254 t274 t258 1).bind fun t297 => (if t297 < 0 then (some false) else (if t297 = t271 then (some true) else (some false)))) = some r := by rw [if_neg (show ¬ (false = true) by decide)] at H; exact H
              clear H
              have H := H1
              clear H1
              replace H := Option.bind_eq_some_iff.mp H
              obtain ⟨t297, A1460, H⟩ := H
              replace H : (if t297 < 0 then (some false) else (if t297 = t271 then (some true) else (some false))) = some r := H
              have A146 := Aside0.mk A1460
              clear A1460
              by_cases c147 : t297 < 0
              ·rw [if_pos c147] at H
               have c147b0 : decide (t297 < 0) = true := decide_eq_true c147
               clear c147
               exact absurd (H.trans (congrArg some HRT.out)) (by simp)
              ·rw [if_neg c147] at H
               have c147b0 : decide (t297 < 0) = false := decide_eq_false c147
               clear c147
               by_cases c148 : t297 = t271
               ·rw [if_pos c148] at H
                have c148b0 : (t297 == t271) = true := beq_iff_eq.mpr c148
                have c148b1 : (t297 != t271) = false := bne_eq_false_iff_eq.mpr c148
                clear c148
                obtain rfl := Option.some.inj H
                have hnb149 := NB260_218.out
                have hnc149 := NB218_260.out
                have hnb150 := NB260_239.out
                have hnc150 := NB239_260.out
                have hnb151 := NB260_245.out
                have hnc151 := NB245_260.out
                have hnb152 := NB260_295.out
                have hnc152 := NB295_260.out
                obtain ⟨hcz153_0, hcz153_1, hcz153_2, hcz153_3, hcz153_4, hcz153_5, hcz153_6, hfz153_0, hfz153_1, hfz153_2, hfz153_3, hfz153_4, hfz153_5, hfz153_6⟩ := bc7_ BK260
                go_wp2_with (first | ((with_reducible refine gate_callee (f := 32) rfl ?_); refine goesB (some 90) Try.func32 #[.agg #[.int .i64 t246, .int .i64 t247, .slice Ao38 t272.length co38, .slice Ao39 t273.length co39, .int .i64 t254, .slice Ao40 t274.length co40, .bool t258], .int .i64 1] ?_; (with_reducible refine (laws_heldWeaving.calls kj99 t246 t247 _ _ t272 _ _ t273 t254 _ _ t274 t258 1 t297 _ ?side1 ?side2 ?side3 ?side4 ?side5 ?side6 A146.out).mono ?_); (case side1 => repeat (first | exact (Kd.R_reads' HO_261002.out).2.2 | (with_reducible refine Kd.C_alloc ?_ _) | (with_reducible refine Kd.C_drewN ?_ _) | (with_reducible refine Kd.C_drew ?_))); (case side2 => exact (Kd.R_reads' HO_261002.out).2.1); (case side3 => repeat (first | exact (Kd.R_reads' HO_261003.out).2.2 | (with_reducible refine Kd.C_alloc ?_ _) | (with_reducible refine Kd.C_drewN ?_ _) | (with_reducible refine Kd.C_drew ?_))); (case side4 => exact (Kd.R_reads' HO_261003.out).2.1); (case side5 => repeat (first | exact (Kd.R_reads' HO_261005.out).2.2 | (with_reducible refine Kd.C_alloc ?_ _) | (with_reducible refine Kd.C_drewN ?_ _) | (with_reducible refine Kd.C_drew ?_))); (case side6 => exact (Kd.R_reads' HO_261005.out).2.1); rintro e w154 ⟨rfl, hb⟩; refine ⟨_, rfl, ?_⟩; have n0_ := Aside0.mk (Kd.R_below (by (with_reducible repeat (first | apply Kd.R_alloc | apply Kd.R_drewN | apply Kd.R_drew)); exact HO_240002.out) hb); have n1_ := Aside0.mk (Kd.R_below (by (with_reducible repeat (first | apply Kd.R_alloc | apply Kd.R_drewN | apply Kd.R_drew)); exact HO_240003.out) hb); have n2_ := Aside0.mk (Kd.R_below (by (with_reducible repeat (first | apply Kd.R_alloc | apply Kd.R_drewN | apply Kd.R_drew)); exact HO_240005.out) hb); have n3_ := Aside0.mk (Kd.R_below (by (with_reducible repeat (first | apply Kd.R_alloc | apply Kd.R_drewN | apply Kd.R_drew)); exact HO_246002.out) hb); have n4_ := Aside0.mk (Kd.R_below (by (with_reducible repeat (first | apply Kd.R_alloc | apply Kd.R_drewN | apply Kd.R_drew)); exact HO_261002.out) hb); have n5_ := Aside0.mk (Kd.R_below (by (with_reducible repeat (first | apply Kd.R_alloc | apply Kd.R_drewN | apply Kd.R_drew)); exact HO_261003.out) hb); have n6_ := Aside0.mk (Kd.R_below (by (with_reducible repeat (first | apply Kd.R_alloc | apply Kd.R_drewN | apply Kd.R_drew)); exact HO_261005.out) hb); have n7_ := Aside0.mk (Kd.R_below (by (with_reducible repeat (first | apply Kd.R_alloc | apply Kd.R_drewN | apply Kd.R_drew)); exact HO_296002.out) hb); have n8_ := Aside0.mk (Kd.R_below (by (with_reducible repeat (first | apply Kd.R_alloc | apply Kd.R_drewN | apply Kd.R_drew)); exact HO_296003.out) hb); have n9_ := Aside0.mk (Kd.R_below (by (with_reducible repeat (first | apply Kd.R_alloc | apply Kd.R_drewN | apply Kd.R_drew)); exact HO_296005.out) hb); have n10_ := bb_ BK218 hb; have n11_ := bb_ BK239 hb; have n12_ := bb_ BK245 hb; have n13_ := bb_ BK260 hb; have n14_ := bb_ BK295 hb; have n15_ := Aside0.mk (below_step bw_ hb); clear HO_240002; clear HO_240003; clear HO_240005; clear HO_246002; clear HO_261002; clear HO_261003; clear HO_261005; clear HO_296002; clear HO_296003; clear HO_296005; clear BK218; clear BK239; clear BK245; clear BK260; clear BK295; clear HB; have HO_240002 := n0_; have HO_240003 := n1_; have HO_240005 := n2_; have HO_246002 := n3_; have HO_261002 := n4_; have HO_261003 := n5_; have HO_261005 := n6_; have HO_296002 := n7_; have HO_296003 := n8_; have HO_296005 := n9_; have BK218 := n10_; have BK239 := n11_; have BK245 := n12_; have BK260 := n13_; have BK295 := n14_; have HB := n15_; clear n0_ n1_ n2_ n3_ n4_ n5_ n6_ n7_ n8_ n9_ n10_ n11_ n12_ n13_ n14_ n15_; (try clear hb); (try clear hb2); (try clear hk); (try clear hi)))
                go_ret
                exact ⟨by first | rfl | (simp [errW_none, errW_some] <;> rfl) | (simp [*, errW_none, errW_some] <;> rfl), bw_⟩
               ·rw [if_neg c148] at H
                have c148b0 : (t297 == t271) = false := beq_eq_false_iff_ne.mpr c148
                have c148b1 : (t297 != t271) = true := bne_iff_ne.mpr c148
                exact absurd (H.trans (congrArg some HRT.out)) (by simp)
          ·rw [if_neg c97] at H
           have c97b0 : (t275 == t271) = false := beq_eq_false_iff_ne.mpr c97
           have c97b1 : (t275 != t271) = true := bne_iff_ne.mpr c97
           exact absurd (H.trans (congrArg some HRT.out)) (by simp)
     ·replace c62 := Bool.eq_false_iff.mpr c62
      subst c62
      have H1 : (some false) = some r := by rw [if_neg (show ¬ (false = true) by decide)] at H; exact H
      clear H
      have H := H1
      clear H1
      exact absurd (H.trans (congrArg some HRT.out)) (by simp)

/-- The pure statement of laws_FnExactNewWeaving. -/
def laws_FnExactNewWeaving.Pure : Prop := ∀ (a0_0 : Int) (a0_1 : Int) (l0_2 : List Int), ((Lit.int .i64 a0_0).wf = true) → ((Lit.int .i64 a0_1).wf = true) → (l0_2.length * 8 ≤ 140737488351232) → (∀ y0 ∈ l0_2, (Lit.int .i64 y0).wf = true) → ∃ k, laws_FnExactNewWeaving.f k a0_0 a0_1 l0_2 = some true

end Go.Proofs.Ytebljeaeoedgjaa.PFnExactNewWeaving
