-- Printed by this session's own program (wip/tool/myprint.py, over the kit's print); Lean checks it.
import Derived.Test.YteiaakppjcpgcaaPFnExactPutRingx0
import Derived.Test.YteiaakppjcpgcaaPFnExactPutRingx1
import Derived.Test.YteiaakppjcpgcaaPFnExactPutRingx3
import Derived.Test.YteiaakppjcpgcaaPFnExactPutRingx5
namespace Go.Proofs.Yteiaakppjcpgcaa.PFnExactPutRing
open Go.RowKit Go.Proofs.YteiaakppjcpgcaaW.PrintWords Go.Proofs.YteiaakppjcpgcaaW.PrintLast Go.Proofs.YteiaakppjcpgcaaW.PrintMore
attribute [local go_sem] max2_int min2_int max_two min_two max_three min_three max_four min_four   -- for this text's walks alone
set_option linter.unusedVariables false
set_option linter.unusedSimpArgs false

/-! ### laws_FnExactPutRing: function 11 -/
mutual
def laws_FnExactPutRing.j0 : Nat → List Int → Bool → List Int → Bool → Bool → Int → Int → List Int → Int → Int → List Int → Int → Int → List Int → Int → Int → List Int → Option (Bool)
  | 0, _, _, _, _, _, _, _, _, _, _, _, _, _, _, _, _, _ => none
  | k + 1, x1, x7, x9, x11, x51, x262000, x262001, x262002, x278000, x278001, x278002, x284000, x284001, x284002, x294000, x294001, x294002 => if x51 = true then (some false) else ((laws_toChart.f k x262000 x262001 x262002).bind fun bt295 => ((laws_eqChart.f k x284000 x284001 x284002 bt295.1 bt295.2.1 bt295.2.2).bind fun t300 => (if t300 = true then ((laws_toIntS.f k x1).bind fun t301 => ((laws_eqIntS.f k x9 t301).bind fun t304 => (if t304 = true then ((laws_markChart.f k x284000 x284001 x284002 1).bind fun bt305 => ((laws_markIntS.f k x9 bt305.1).bind fun bt307 => (if bt307.1 < 0 then (laws_FnExactPutRing.j1 k x1 x7 true x262000 x262001 x262002 x278000 x278001 x278002 x294000 x294001 x294002) else ((laws_eqChart.f k x294000 x294001 x294002 x278000 x278001 x278002).bind fun t309 => (if t309 = true then (laws_FnExactPutRing.j1 k x1 x7 (x11 != x7) x262000 x262001 x262002 x278000 x278001 x278002 x294000 x294001 x294002) else (laws_FnExactPutRing.j1 k x1 x7 true x262000 x262001 x262002 x278000 x278001 x278002 x294000 x294001 x294002)))))) else (some false)))) else (some false))))
def laws_FnExactPutRing.j1 : Nat → List Int → Bool → Bool → Int → Int → List Int → Int → Int → List Int → Int → Int → List Int → Option (Bool)
  | 0, _, _, _, _, _, _, _, _, _, _, _, _ => none
  | k + 1, x1, x7, x80, x262000, x262001, x262002, x278000, x278001, x278002, x294000, x294001, x294002 => if x80 = true then (some false) else ((laws_markChart.f k x294000 x294001 x294002 1).bind fun bt310 => ((laws_heldChart.f k x294000 x294001 bt310.2 1).bind fun t312 => (if t312 < 0 then (some false) else (if t312 = bt310.1 then ((laws_toChart.f k x262000 x262001 x262002).bind fun bt313 => ((laws_toIntS.f k x1).bind fun t318 => ((impl_PutRing.f k bt313.1 bt313.2.1 bt313.2.2 t318).bind fun bt321 => ((laws_eqChart.f k bt321.1 bt321.2.1 bt321.2.2.1 x278000 x278001 x278002).bind fun t328 => (if t328 = true then (laws_FnExactPutRing.j2 k bt310.1 (bt321.2.2.2 != x7) x294000 x294001 bt310.2) else (laws_FnExactPutRing.j2 k bt310.1 true x294000 x294001 bt310.2)))))) else (some false)))))
def laws_FnExactPutRing.j2 : Nat → Int → Bool → Int → Int → List Int → Option (Bool)
  | 0, _, _, _, _, _ => none
  | k + 1, x13, x108, x294000, x294001, x294002 => if x108 = true then (some false) else ((laws_heldChart.f k x294000 x294001 x294002 1).bind fun t329 => (if t329 < 0 then (some false) else (if t329 = x13 then (some true) else (some false))))
end
def laws_FnExactPutRing.f (k : Nat) (a0_0 : Int) (a0_1 : Int) (l0_2 : List Int) (l1 : List Int) : Option (Bool) := if (l1.length : Int) > 1048576 then (some true) else ((laws_szChart.f a0_0 a0_1 l0_2 1048576).bind fun t262 => (if t262 < 0 then (some true) else ((laws_toChart.f k a0_0 a0_1 l0_2).bind fun bt263 => ((laws_toIntS.f k l1).bind fun t268 => ((spec_PutRing.f k bt263.1 bt263.2.1 bt263.2.2 t268).bind fun bt271 => ((laws_toChart.f k a0_0 a0_1 l0_2).bind fun bt278 => ((laws_toIntS.f k l1).bind fun t284 => ((impl_PutRing.f k bt278.1 bt278.2.1 bt278.2.2 t284).bind fun bt287 => ((laws_eqChart.f k bt287.1 bt287.2.1 bt287.2.2.1 bt271.1 bt271.2.1 bt271.2.2.1).bind fun t294 => (if t294 = true then (laws_FnExactPutRing.j0 k l1 bt271.2.2.2 t284 bt287.2.2.2 (bt287.2.2.2 != bt271.2.2.2) a0_0 a0_1 l0_2 bt271.1 bt271.2.1 bt271.2.2.1 bt278.1 bt278.2.1 bt278.2.2 bt287.1 bt287.2.1 bt287.2.2.1) else (laws_FnExactPutRing.j0 k l1 bt271.2.2.2 t284 bt287.2.2.2 true a0_0 a0_1 l0_2 bt271.1 bt271.2.1 bt271.2.2.1 bt278.1 bt278.2.1 bt278.2.2 bt287.1 bt287.2.1 bt287.2.2.1)))))))))))
theorem laws_FnExactPutRing.mono_l : ∀ k, (∀ y0 y1 y2 y3 y4 y5 y6 y7 y8 y9 y10 y11 y12 y13 y14 y15 y16, LeO (laws_FnExactPutRing.j0 k y0 y1 y2 y3 y4 y5 y6 y7 y8 y9 y10 y11 y12 y13 y14 y15 y16) (laws_FnExactPutRing.j0 (k + 1) y0 y1 y2 y3 y4 y5 y6 y7 y8 y9 y10 y11 y12 y13 y14 y15 y16)) ∧ (∀ y0 y1 y2 y3 y4 y5 y6 y7 y8 y9 y10 y11, LeO (laws_FnExactPutRing.j1 k y0 y1 y2 y3 y4 y5 y6 y7 y8 y9 y10 y11) (laws_FnExactPutRing.j1 (k + 1) y0 y1 y2 y3 y4 y5 y6 y7 y8 y9 y10 y11)) ∧ (∀ y0 y1 y2 y3 y4, LeO (laws_FnExactPutRing.j2 k y0 y1 y2 y3 y4) (laws_FnExactPutRing.j2 (k + 1) y0 y1 y2 y3 y4))
  | 0 => ⟨fun _ _ _ _ _ _ _ _ _ _ _ _ _ _ _ _ _ r h => by simp [laws_FnExactPutRing.j0] at h, fun _ _ _ _ _ _ _ _ _ _ _ _ r h => by simp [laws_FnExactPutRing.j1] at h, fun _ _ _ _ _ r h => by simp [laws_FnExactPutRing.j2] at h⟩
  | k + 1 => by
    obtain ⟨ih0, ih1, ih2⟩ := laws_FnExactPutRing.mono_l k
    refine ⟨?_, ?_, ?_⟩
    · intro y0 y1 y2 y3 y4 y5 y6 y7 y8 y9 y10 y11 y12 y13 y14 y15 y16
      unfold laws_FnExactPutRing.j0
      repeat' first
      | (with_reducible exact ih0 _ _ _ _ _ _ _ _ _ _ _ _ _ _ _ _ _)
      | (with_reducible exact ih1 _ _ _ _ _ _ _ _ _ _ _ _)
      | (with_reducible exact ih2 _ _ _ _ _)
      | (with_reducible exact impl_PutRing.mono _ _ _ _ _)
      | (with_reducible exact laws_eqChart.mono _ _ _ _ _ _ _)
      | (with_reducible exact laws_eqIntS.mono _ _ _)
      | (with_reducible exact laws_heldChart.mono _ _ _ _ _)
      | (with_reducible exact laws_markChart.mono _ _ _ _ _)
      | (with_reducible exact laws_markIntS.mono _ _ _)
      | (with_reducible exact laws_toChart.mono _ _ _ _)
      | (with_reducible exact laws_toIntS.mono _ _)
      | (with_reducible exact spec_PutRing.mono _ _ _ _ _)
      | (with_reducible exact LeO.refl _)
      | (with_reducible exact LeO.none _)
      | (with_reducible refine LeO.ite ?_ ?_)
      | (with_reducible refine LeO.bind ?_ (fun _ => ?_))
      | exact ih0 _ _ _ _ _ _ _ _ _ _ _ _ _ _ _ _ _
      | exact ih1 _ _ _ _ _ _ _ _ _ _ _ _
      | exact ih2 _ _ _ _ _
      | exact impl_PutRing.mono _ _ _ _ _
      | exact laws_eqChart.mono _ _ _ _ _ _ _
      | exact laws_eqIntS.mono _ _ _
      | exact laws_heldChart.mono _ _ _ _ _
      | exact laws_markChart.mono _ _ _ _ _
      | exact laws_markIntS.mono _ _ _
      | exact laws_toChart.mono _ _ _ _
      | exact laws_toIntS.mono _ _
      | exact spec_PutRing.mono _ _ _ _ _
      | exact LeO.none _
      | refine LeO.ite ?_ ?_
      | refine LeO.bind ?_ (fun _ => ?_)
    · intro y0 y1 y2 y3 y4 y5 y6 y7 y8 y9 y10 y11
      unfold laws_FnExactPutRing.j1
      repeat' first
      | (with_reducible exact ih0 _ _ _ _ _ _ _ _ _ _ _ _ _ _ _ _ _)
      | (with_reducible exact ih1 _ _ _ _ _ _ _ _ _ _ _ _)
      | (with_reducible exact ih2 _ _ _ _ _)
      | (with_reducible exact impl_PutRing.mono _ _ _ _ _)
      | (with_reducible exact laws_eqChart.mono _ _ _ _ _ _ _)
      | (with_reducible exact laws_eqIntS.mono _ _ _)
      | (with_reducible exact laws_heldChart.mono _ _ _ _ _)
      | (with_reducible exact laws_markChart.mono _ _ _ _ _)
      | (with_reducible exact laws_markIntS.mono _ _ _)
      | (with_reducible exact laws_toChart.mono _ _ _ _)
      | (with_reducible exact laws_toIntS.mono _ _)
      | (with_reducible exact spec_PutRing.mono _ _ _ _ _)
      | (with_reducible exact LeO.refl _)
      | (with_reducible exact LeO.none _)
      | (with_reducible refine LeO.ite ?_ ?_)
      | (with_reducible refine LeO.bind ?_ (fun _ => ?_))
      | exact ih0 _ _ _ _ _ _ _ _ _ _ _ _ _ _ _ _ _
      | exact ih1 _ _ _ _ _ _ _ _ _ _ _ _
      | exact ih2 _ _ _ _ _
      | exact impl_PutRing.mono _ _ _ _ _
      | exact laws_eqChart.mono _ _ _ _ _ _ _
      | exact laws_eqIntS.mono _ _ _
      | exact laws_heldChart.mono _ _ _ _ _
      | exact laws_markChart.mono _ _ _ _ _
      | exact laws_markIntS.mono _ _ _
      | exact laws_toChart.mono _ _ _ _
      | exact laws_toIntS.mono _ _
      | exact spec_PutRing.mono _ _ _ _ _
      | exact LeO.none _
      | refine LeO.ite ?_ ?_
      | refine LeO.bind ?_ (fun _ => ?_)
    · intro y0 y1 y2 y3 y4
      unfold laws_FnExactPutRing.j2
      repeat' first
      | (with_reducible exact ih0 _ _ _ _ _ _ _ _ _ _ _ _ _ _ _ _ _)
      | (with_reducible exact ih1 _ _ _ _ _ _ _ _ _ _ _ _)
      | (with_reducible exact ih2 _ _ _ _ _)
      | (with_reducible exact impl_PutRing.mono _ _ _ _ _)
      | (with_reducible exact laws_eqChart.mono _ _ _ _ _ _ _)
      | (with_reducible exact laws_eqIntS.mono _ _ _)
      | (with_reducible exact laws_heldChart.mono _ _ _ _ _)
      | (with_reducible exact laws_markChart.mono _ _ _ _ _)
      | (with_reducible exact laws_markIntS.mono _ _ _)
      | (with_reducible exact laws_toChart.mono _ _ _ _)
      | (with_reducible exact laws_toIntS.mono _ _)
      | (with_reducible exact spec_PutRing.mono _ _ _ _ _)
      | (with_reducible exact LeO.refl _)
      | (with_reducible exact LeO.none _)
      | (with_reducible refine LeO.ite ?_ ?_)
      | (with_reducible refine LeO.bind ?_ (fun _ => ?_))
      | exact ih0 _ _ _ _ _ _ _ _ _ _ _ _ _ _ _ _ _
      | exact ih1 _ _ _ _ _ _ _ _ _ _ _ _
      | exact ih2 _ _ _ _ _
      | exact impl_PutRing.mono _ _ _ _ _
      | exact laws_eqChart.mono _ _ _ _ _ _ _
      | exact laws_eqIntS.mono _ _ _
      | exact laws_heldChart.mono _ _ _ _ _
      | exact laws_markChart.mono _ _ _ _ _
      | exact laws_markIntS.mono _ _ _
      | exact laws_toChart.mono _ _ _ _
      | exact laws_toIntS.mono _ _
      | exact spec_PutRing.mono _ _ _ _ _
      | exact LeO.none _
      | refine LeO.ite ?_ ?_
      | refine LeO.bind ?_ (fun _ => ?_)
theorem laws_FnExactPutRing.mono : ∀ a0 a1 a2 a3 k, LeO (laws_FnExactPutRing.f k a0 a1 a2 a3) (laws_FnExactPutRing.f (k + 1) a0 a1 a2 a3) := by
  intro a0 a1 a2 a3 k
  obtain ⟨ih0, ih1, ih2⟩ := laws_FnExactPutRing.mono_l k
  unfold laws_FnExactPutRing.f
  repeat' first
      | (with_reducible exact ih0 _ _ _ _ _ _ _ _ _ _ _ _ _ _ _ _ _)
      | (with_reducible exact ih1 _ _ _ _ _ _ _ _ _ _ _ _)
      | (with_reducible exact ih2 _ _ _ _ _)
      | (with_reducible exact impl_PutRing.mono _ _ _ _ _)
      | (with_reducible exact laws_eqChart.mono _ _ _ _ _ _ _)
      | (with_reducible exact laws_eqIntS.mono _ _ _)
      | (with_reducible exact laws_heldChart.mono _ _ _ _ _)
      | (with_reducible exact laws_markChart.mono _ _ _ _ _)
      | (with_reducible exact laws_markIntS.mono _ _ _)
      | (with_reducible exact laws_toChart.mono _ _ _ _)
      | (with_reducible exact laws_toIntS.mono _ _)
      | (with_reducible exact spec_PutRing.mono _ _ _ _ _)
      | (with_reducible exact LeO.refl _)
      | (with_reducible exact LeO.none _)
      | (with_reducible refine LeO.ite ?_ ?_)
      | (with_reducible refine LeO.bind ?_ (fun _ => ?_))
      | exact ih0 _ _ _ _ _ _ _ _ _ _ _ _ _ _ _ _ _
      | exact ih1 _ _ _ _ _ _ _ _ _ _ _ _
      | exact ih2 _ _ _ _ _
      | exact impl_PutRing.mono _ _ _ _ _
      | exact laws_eqChart.mono _ _ _ _ _ _ _
      | exact laws_eqIntS.mono _ _ _
      | exact laws_heldChart.mono _ _ _ _ _
      | exact laws_markChart.mono _ _ _ _ _
      | exact laws_markIntS.mono _ _ _
      | exact laws_toChart.mono _ _ _ _
      | exact laws_toIntS.mono _ _
      | exact spec_PutRing.mono _ _ _ _ _
      | exact LeO.none _
      | refine LeO.ite ?_ ?_
      | refine LeO.bind ?_ (fun _ => ?_)
set_option maxHeartbeats 8000000 in
set_option maxRecDepth 100000 in
theorem laws_FnExactPutRing.calls (k : Nat) (a0_0 : Int) (a0_1 : Int) (A0_2 : Option Addr) (c0_2 : Nat) (l0_2 : List Int) (A1 : Option Addr) (c1 : Nat) (l1 : List Int) (w : World) (hr0_2 : Kd.C (Kd.int .i64) w A0_2 l0_2.length l0_2) (hc0_2 : l0_2.length ≤ c0_2) (hr1 : Kd.C (Kd.int .i64) w A1 l1.length l1) (hc1 : l1.length ≤ c1) (h : laws_FnExactPutRing.f k a0_0 a0_1 l0_2 l1 = some true) :
  Calls Try.prog 11 #[.agg #[.int .i64 a0_0, .int .i64 a0_1, .slice A0_2 l0_2.length c0_2], .slice A1 l1.length c1] w fun e w' => e = .returned (.bool true) ∧ Below w.heap.size w w' := by
 obtain ⟨r, hrt_⟩ : ∃ r : Bool, true = r := ⟨true, rfl⟩
 rw [hrt_] at h ⊢
 have HRT := Aside0.mk hrt_.symm
 clear hrt_
 have hu24 := Try.underlying24
 have hu26 := Try.underlying26
 have HR0_2 := Aside0.mk hr0_2
 have HC0_2 := Aside0.mk hc0_2
 clear hr0_2 hc0_2
 have HR1 := Aside0.mk hr1
 have HC1 := Aside0.mk hc1
 clear hr1 hc1
 have HB := Aside0.mk (Below.refl w.heap.size w)
 have H : (if (l1.length : Int) > 1048576 then (some true) else ((laws_szChart.f a0_0 a0_1 l0_2 1048576).bind fun t262 => (if t262 < 0 then (some true) else ((laws_toChart.f k a0_0 a0_1 l0_2).bind fun bt263 => ((laws_toIntS.f k l1).bind fun t268 => ((spec_PutRing.f k bt263.1 bt263.2.1 bt263.2.2 t268).bind fun bt271 => ((laws_toChart.f k a0_0 a0_1 l0_2).bind fun bt278 => ((laws_toIntS.f k l1).bind fun t284 => ((impl_PutRing.f k bt278.1 bt278.2.1 bt278.2.2 t284).bind fun bt287 => ((laws_eqChart.f k bt287.1 bt287.2.1 bt287.2.2.1 bt271.1 bt271.2.1 bt271.2.2.1).bind fun t294 => (if t294 = true then (laws_FnExactPutRing.j0 k l1 bt271.2.2.2 t284 bt287.2.2.2 (bt287.2.2.2 != bt271.2.2.2) a0_0 a0_1 l0_2 bt271.1 bt271.2.1 bt271.2.2.1 bt278.1 bt278.2.1 bt278.2.2 bt287.1 bt287.2.1 bt287.2.2.1) else (laws_FnExactPutRing.j0 k l1 bt271.2.2.2 t284 bt287.2.2.2 true a0_0 a0_1 l0_2 bt271.1 bt271.2.1 bt271.2.2.1 bt278.1 bt278.2.1 bt278.2.2 bt287.1 bt287.2.1 bt287.2.2.1)))))))))))) = some r := h
 clear h
 by_cases c3 : (l1.length : Int) > 1048576
 ·rw [if_pos c3] at H
  have c3b0 : decide (1048576 < (l1.length : Int)) = true := decide_eq_true c3
  have c3b1 : decide (1048576 < l1.length) = true := decide_eq_true (by omega)
  clear c3
  obtain rfl := Option.some.inj H
  go_enter Try.func11, Try.ntmps11
  go_wp2_with (first | (refine box_ (N := 2) (cs := #[.int .i64 a0_0, .int .i64 a0_1, .slice A0_2 l0_2.length c0_2]) (t := 24) ?_; intro gb261 hg w4 hbox hb; have BK261 := Aside0.mk (hbox); have GW261 := gz_ w hg; have GE261 := gz_ w hg; replace HB := Aside0.mk (below_step bw_ hb); clear hb hbox hg))
  go_ret
  exact ⟨by first | rfl | (simp [errW_none, errW_some] <;> rfl) | (simp [*, errW_none, errW_some] <;> rfl), bw_⟩
 ·rw [if_neg c3] at H
  have c3b0 : decide (1048576 < (l1.length : Int)) = false := decide_eq_false c3
  have c3b1 : decide (1048576 < l1.length) = false := decide_eq_false (by omega)
  clear c3
  replace H := Option.bind_eq_some_iff.mp H
  obtain ⟨t262, A50, H⟩ := H
  replace H : (if t262 < 0 then (some true) else ((laws_toChart.f k a0_0 a0_1 l0_2).bind fun bt263 => ((laws_toIntS.f k l1).bind fun t268 => ((spec_PutRing.f k bt263.1 bt263.2.1 bt263.2.2 t268).bind fun bt271 => ((laws_toChart.f k a0_0 a0_1 l0_2).bind fun bt278 => ((laws_toIntS.f k l1).bind fun t284 => ((impl_PutRing.f k bt278.1 bt278.2.1 bt278.2.2 t284).bind fun bt287 => ((laws_eqChart.f k bt287.1 bt287.2.1 bt287.2.2.1 bt271.1 bt271.2.1 bt271.2.2.1).bind fun t294 => (if t294 = true then (laws_FnExactPutRing.j0 k l1 bt271.2.2.2 t284 bt287.2.2.2 (bt287.2.2.2 != bt271.2.2.2) a0_0 a0_1 l0_2 bt271.1 bt271.2.1 bt271.2.2.1 bt278.1 bt278.2.1 bt278.2.2 bt287.1 bt287.2.1 bt287.2.2.1) else (laws_FnExactPutRing.j0 k l1 bt271.2.2.2 t284 bt287.2.2.2 true a0_0 a0_1 l0_2 bt271.1 bt271.2.1 bt271.2.2.1 bt278.1 bt278.2.1 bt278.2.2 bt287.1 bt287.2.1 bt287.2.2.1)))))))))) = some r := H
  have A5 := Aside0.mk A50
  clear A50
  by_cases c6 : t262 < 0
  ·rw [if_pos c6] at H
   have c6b0 : decide (t262 < 0) = true := decide_eq_true c6
   clear c6
   obtain rfl := Option.some.inj H
   go_enter Try.func11, Try.ntmps11
   go_wp2_with (first | (refine box_ (N := 2) (cs := #[.int .i64 a0_0, .int .i64 a0_1, .slice A0_2 l0_2.length c0_2]) (t := 24) ?_; intro gb261 hg w7 hbox hb; have BK261 := Aside0.mk (hbox); have GW261 := gz_ w hg; have GE261 := gz_ w hg; replace HB := Aside0.mk (below_step bw_ hb); clear hb hbox hg; obtain ⟨hcz8_0, hcz8_1, hcz8_2, hfz8_0, hfz8_1, hfz8_2⟩ := bc3_ BK261) | ((with_reducible refine gate_callee (f := 15) rfl ?_); refine goesB (some 22) Try.func15 #[.agg #[.int .i64 a0_0, .int .i64 a0_1, .slice A0_2 l0_2.length c0_2], .int .i64 1048576] ?_; (with_reducible refine (laws_szChart.calls a0_0 a0_1 _ _ l0_2 1048576 t262 _ ?side1 ?side2 A5.out).mono ?_); (case side1 => exact cb_ HR0_2 HB); (case side2 => exact HC0_2.out); rintro e w9 ⟨rfl, hb⟩; refine ⟨_, rfl, ?_⟩; replace BK261 := bb_ BK261 hb; replace HB := Aside0.mk (below_step bw_ hb); (try clear hb); (try clear hb2); (try clear hk); (try clear hi)))
   go_ret
   exact ⟨by first | rfl | (simp [errW_none, errW_some] <;> rfl) | (simp [*, errW_none, errW_some] <;> rfl), bw_⟩
  ·rw [if_neg c6] at H
   have c6b0 : decide (t262 < 0) = false := decide_eq_false c6
   clear c6
   replace H := Option.bind_eq_some_iff.mp H
   obtain ⟨⟨t263, t264, t265⟩, A100, H⟩ := H
   replace H : ((laws_toIntS.f k l1).bind fun t268 => ((spec_PutRing.f k t263 t264 t265 t268).bind fun bt271 => ((laws_toChart.f k a0_0 a0_1 l0_2).bind fun bt278 => ((laws_toIntS.f k l1).bind fun t284 => ((impl_PutRing.f k bt278.1 bt278.2.1 bt278.2.2 t284).bind fun bt287 => ((laws_eqChart.f k bt287.1 bt287.2.1 bt287.2.2.1 bt271.1 bt271.2.1 bt271.2.2.1).bind fun t294 => (if t294 = true then (laws_FnExactPutRing.j0 k l1 bt271.2.2.2 t284 bt287.2.2.2 (bt287.2.2.2 != bt271.2.2.2) a0_0 a0_1 l0_2 bt271.1 bt271.2.1 bt271.2.2.1 bt278.1 bt278.2.1 bt278.2.2 bt287.1 bt287.2.1 bt287.2.2.1) else (laws_FnExactPutRing.j0 k l1 bt271.2.2.2 t284 bt287.2.2.2 true a0_0 a0_1 l0_2 bt271.1 bt271.2.1 bt271.2.2.1 bt278.1 bt278.2.1 bt278.2.2 bt287.1 bt287.2.1 bt287.2.2.1)))))))) = some r := H
   have A10 := Aside0.mk A100
   clear A100
   replace H := Option.bind_eq_some_iff.mp H
   obtain ⟨t268, A110, H⟩ := H
   replace H : ((spec_PutRing.f k t263 t264 t265 t268).bind fun bt271 => ((laws_toChart.f k a0_0 a0_1 l0_2).bind fun bt278 => ((laws_toIntS.f k l1).bind fun t284 => ((impl_PutRing.f k bt278.1 bt278.2.1 bt278.2.2 t284).bind fun bt287 => ((laws_eqChart.f k bt287.1 bt287.2.1 bt287.2.2.1 bt271.1 bt271.2.1 bt271.2.2.1).bind fun t294 => (if t294 = true then (laws_FnExactPutRing.j0 k l1 bt271.2.2.2 t284 bt287.2.2.2 (bt287.2.2.2 != bt271.2.2.2) a0_0 a0_1 l0_2 bt271.1 bt271.2.1 bt271.2.2.1 bt278.1 bt278.2.1 bt278.2.2 bt287.1 bt287.2.1 bt287.2.2.1) else (laws_FnExactPutRing.j0 k l1 bt271.2.2.2 t284 bt287.2.2.2 true a0_0 a0_1 l0_2 bt271.1 bt271.2.1 bt271.2.2.1 bt278.1 bt278.2.1 bt278.2.2 bt287.1 bt287.2.1 bt287.2.2.1))))))) = some r := H
   have A11 := Aside0.mk A110
   clear A110
   replace H := Option.bind_eq_some_iff.mp H
   obtain ⟨⟨t271, t272, t273, t276⟩, A120, H⟩ := H
   replace H : ((laws_toChart.f k a0_0 a0_1 l0_2).bind fun bt278 => ((laws_toIntS.f k l1).bind fun t284 => ((impl_PutRing.f k bt278.1 bt278.2.1 bt278.2.2 t284).bind fun bt287 => ((laws_eqChart.f k bt287.1 bt287.2.1 bt287.2.2.1 t271 t272 t273).bind fun t294 => (if t294 = true then (laws_FnExactPutRing.j0 k l1 t276 t284 bt287.2.2.2 (bt287.2.2.2 != t276) a0_0 a0_1 l0_2 t271 t272 t273 bt278.1 bt278.2.1 bt278.2.2 bt287.1 bt287.2.1 bt287.2.2.1) else (laws_FnExactPutRing.j0 k l1 t276 t284 bt287.2.2.2 true a0_0 a0_1 l0_2 t271 t272 t273 bt278.1 bt278.2.1 bt278.2.2 bt287.1 bt287.2.1 bt287.2.2.1)))))) = some r := H
   have A12 := Aside0.mk A120
   clear A120
   replace H := Option.bind_eq_some_iff.mp H
   obtain ⟨⟨t278, t279, t280⟩, A130, H⟩ := H
   replace H : ((laws_toIntS.f k l1).bind fun t284 => ((impl_PutRing.f k t278 t279 t280 t284).bind fun bt287 => ((laws_eqChart.f k bt287.1 bt287.2.1 bt287.2.2.1 t271 t272 t273).bind fun t294 => (if t294 = true then (laws_FnExactPutRing.j0 k l1 t276 t284 bt287.2.2.2 (bt287.2.2.2 != t276) a0_0 a0_1 l0_2 t271 t272 t273 t278 t279 t280 bt287.1 bt287.2.1 bt287.2.2.1) else (laws_FnExactPutRing.j0 k l1 t276 t284 bt287.2.2.2 true a0_0 a0_1 l0_2 t271 t272 t273 t278 t279 t280 bt287.1 bt287.2.1 bt287.2.2.1))))) = some r := H
   have A13 := Aside0.mk A130
   clear A130
   replace H := Option.bind_eq_some_iff.mp H
   obtain ⟨t284, A140, H⟩ := H
   replace H : ((impl_PutRing.f k t278 t279 t280 t284).bind fun bt287 => ((laws_eqChart.f k bt287.1 bt287.2.1 bt287.2.2.1 t271 t272 t273).bind fun t294 => (if t294 = true then (laws_FnExactPutRing.j0 k l1 t276 t284 bt287.2.2.2 (bt287.2.2.2 != t276) a0_0 a0_1 l0_2 t271 t272 t273 t278 t279 t280 bt287.1 bt287.2.1 bt287.2.2.1) else (laws_FnExactPutRing.j0 k l1 t276 t284 bt287.2.2.2 true a0_0 a0_1 l0_2 t271 t272 t273 t278 t279 t280 bt287.1 bt287.2.1 bt287.2.2.1)))) = some r := H
   have A14 := Aside0.mk A140
   clear A140
   replace H := Option.bind_eq_some_iff.mp H
   obtain ⟨⟨t287, t288, t289, t292⟩, A150, H⟩ := H
   replace H : ((laws_eqChart.f k t287 t288 t289 t271 t272 t273).bind fun t294 => (if t294 = true then (laws_FnExactPutRing.j0 k l1 t276 t284 t292 (t292 != t276) a0_0 a0_1 l0_2 t271 t272 t273 t278 t279 t280 t287 t288 t289) else (laws_FnExactPutRing.j0 k l1 t276 t284 t292 true a0_0 a0_1 l0_2 t271 t272 t273 t278 t279 t280 t287 t288 t289))) = some r := H
   have A15 := Aside0.mk A150
   clear A150
   have HC16 := Aside0.mk H
   clear H
   go_enter Try.func11, Try.ntmps11
   go_upto_region 11 with (first | (refine box_ (N := 2) (cs := #[.int .i64 a0_0, .int .i64 a0_1, .slice A0_2 l0_2.length c0_2]) (t := 24) ?_; intro gb261 hg w17 hbox hb; have BK261 := Aside0.mk (hbox); have GW261 := gz_ w hg; have GE261 := gz_ w hg; replace HB := Aside0.mk (below_step bw_ hb); clear hb hbox hg; obtain ⟨hcz18_0, hcz18_1, hcz18_2, hfz18_0, hfz18_1, hfz18_2⟩ := bc3_ BK261) | ((with_reducible refine gate_callee (f := 15) rfl ?_); refine goesB (some 22) Try.func15 #[.agg #[.int .i64 a0_0, .int .i64 a0_1, .slice A0_2 l0_2.length c0_2], .int .i64 1048576] ?_; (with_reducible refine (laws_szChart.calls a0_0 a0_1 _ _ l0_2 1048576 t262 _ ?side1 ?side2 A5.out).mono ?_); (case side1 => exact cb_ HR0_2 HB); (case side2 => exact HC0_2.out); rintro e w19 ⟨rfl, hb⟩; refine ⟨_, rfl, ?_⟩; replace BK261 := bb_ BK261 hb; replace HB := Aside0.mk (below_step bw_ hb); (try clear hb); (try clear hb2); (try clear hk); (try clear hi); obtain ⟨hcz20_0, hcz20_1, hcz20_2, hfz20_0, hfz20_1, hfz20_2⟩ := bc3_ BK261) | ((with_reducible refine gate_callee (f := 17) rfl ?_); refine goesB (some 27) Try.func17 #[.agg #[.int .i64 a0_0, .int .i64 a0_1, .slice A0_2 l0_2.length c0_2]] ?_; (with_reducible refine (laws_toChart.calls k a0_0 a0_1 _ _ l0_2 t263 t264 t265 _ ?side1 ?side2 A10.out).mono ?_); (case side1 => exact cb_ HR0_2 HB); (case side2 => exact HC0_2.out); rintro e w21 ⟨v266, rfl, ho0, hb⟩; refine ⟨_, rfl, ?_⟩; have HO267 := Aside0.mk (Kd.R_lower ho0 (below_size bw_)); replace BK261 := bb_ BK261 hb; replace HB := Aside0.mk (below_step bw_ hb); (try clear hb); (try clear hb2); (try clear hk); (try clear hi); (try clear ho0)) | ((with_reducible refine gate_callee (f := 42) rfl ?_); refine goesB (some 29) Try.func42 #[.slice A1 l1.length c1] ?_; (with_reducible refine (laws_toIntS.calls k _ _ l1 t268 _ ?side1 ?side2 A11.out).mono ?_); (case side1 => exact cb_ HR1 HB); (case side2 => exact HC1.out); rintro e w22 ⟨v269, rfl, ho0, hb⟩; refine ⟨_, rfl, ?_⟩; have n0_ := Aside0.mk (Kd.R_elder' (by (with_reducible repeat (first | apply Kd.R_alloc | apply Kd.R_drewN | apply Kd.R_drew)); exact HO267.out) (Kd.R_base ho0) hb); have n1_ := Aside0.mk (Kd.R_lower (Kd.R_new' ho0 (Kd.R_lt (by (with_reducible repeat (first | apply Kd.R_alloc | apply Kd.R_drewN | apply Kd.R_drew)); exact HO267.out))) (below_size bw_)); have n2_ := bb_ BK261 hb; have n3_ := Aside0.mk (below_step bw_ hb); clear HO267; clear BK261; clear HB; have HO267 := n0_; have HO270 := n1_; have BK261 := n2_; have HB := n3_; clear n0_ n1_ n2_ n3_; (try clear hb); (try clear hb2); (try clear hk); (try clear hi); (try clear ho0); obtain ⟨Ao23, co23, eo23⟩ := Kd.R_slice HO267.out; subst eo23; obtain ⟨Ao24, co24, eo24⟩ := Kd.R_slice HO270.out; subst eo24) | ((with_reducible refine gate_callee (f := 41) rfl ?_); refine goesB (some 30) Try.func41 #[.agg #[.int .i64 t263, .int .i64 t264, .slice Ao23 t265.length co23], .slice Ao24 t268.length co24] ?_; (with_reducible refine (spec_PutRing.calls k t263 t264 _ _ t265 _ _ t268 t271 t272 t273 t276 _ ?side1 ?side2 ?side3 ?side4 A12.out).mono ?_); (case side1 => repeat (first | exact (Kd.R_reads' HO267.out).2.2 | (with_reducible refine Kd.C_alloc ?_ _) | (with_reducible refine Kd.C_drewN ?_ _) | (with_reducible refine Kd.C_drew ?_))); (case side2 => exact (Kd.R_reads' HO267.out).2.1); (case side3 => repeat (first | exact (Kd.R_reads' HO270.out).2.2 | (with_reducible refine Kd.C_alloc ?_ _) | (with_reducible refine Kd.C_drewN ?_ _) | (with_reducible refine Kd.C_drew ?_))); (case side4 => exact (Kd.R_reads' HO270.out).2.1); rintro e w25 ⟨v274, rfl, ho0, hb⟩; refine ⟨_, rfl, ?_⟩; have n0_ := Aside0.mk (Kd.R_elder' (by (with_reducible repeat (first | apply Kd.R_alloc | apply Kd.R_drewN | apply Kd.R_drew)); exact HO267.out) (Kd.R_base ho0) hb); have n1_ := Aside0.mk (Kd.R_elder' (by (with_reducible repeat (first | apply Kd.R_alloc | apply Kd.R_drewN | apply Kd.R_drew)); exact HO270.out) (Kd.R_base ho0) hb); have n2_ := Aside0.mk (Kd.R_lower (Kd.R_new' (Kd.R_new' ho0 (Kd.R_lt (by (with_reducible repeat (first | apply Kd.R_alloc | apply Kd.R_drewN | apply Kd.R_drew)); exact HO267.out))) (Kd.R_lt (by (with_reducible repeat (first | apply Kd.R_alloc | apply Kd.R_drewN | apply Kd.R_drew)); exact HO270.out))) (below_size bw_)); have n3_ := bb_ BK261 hb; have n4_ := Aside0.mk (below_step bw_ hb); clear HO267; clear HO270; clear BK261; clear HB; have HO267 := n0_; have HO270 := n1_; have HO275 := n2_; have BK261 := n3_; have HB := n4_; clear n0_ n1_ n2_ n3_ n4_; (try clear hb); (try clear hb2); (try clear hk); (try clear hi); (try clear ho0)) | (refine box_ (N := 6) (cs := #[.int .i64 0, .int .i64 0, .slice none 0 0]) (t := 26) ?_; intro gb277 hg w26 hbox hb; have n0_ := Aside0.mk (Kd.R_below (by (with_reducible repeat (first | apply Kd.R_alloc | apply Kd.R_drewN | apply Kd.R_drew)); exact HO267.out) hb); have n1_ := Aside0.mk (Kd.R_below (by (with_reducible repeat (first | apply Kd.R_alloc | apply Kd.R_drewN | apply Kd.R_drew)); exact HO270.out) hb); have n2_ := Aside0.mk (Kd.R_below (by (with_reducible repeat (first | apply Kd.R_alloc | apply Kd.R_drewN | apply Kd.R_drew)); exact HO275.out) hb); have n3_ := bb_ BK261 hb; have n4_ := Aside0.mk (below_step bw_ hb); have n5_ := Aside0.mk (hbox); have n6_ := gz_ w hg; have n7_ := gz_ w hg; have n8_ := ne_ hg BK261; have n9_ := en_ hg BK261; clear HO267; clear HO270; clear HO275; clear BK261; clear HB; have HO267 := n0_; have HO270 := n1_; have HO275 := n2_; have BK261 := n3_; have HB := n4_; have BK277 := n5_; have GW277 := n6_; have GE277 := n7_; have NB261_277 := n8_; have NB277_261 := n9_; clear n0_ n1_ n2_ n3_ n4_ n5_ n6_ n7_ n8_ n9_; clear hb hbox hg; have hnb27 := NB277_261.out; have hnc27 := NB261_277.out; obtain ⟨hcz28_0, hcz28_1, hcz28_2, hfz28_0, hfz28_1, hfz28_2⟩ := bc3_ BK277; obtain ⟨Ao29, co29, eo29⟩ := Kd.R_slice HO275.out; subst eo29; obtain ⟨hcz30_0, hcz30_1, hcz30_2, hfz30_0, hfz30_1, hfz30_2⟩ := bc3_ BK261) | ((with_reducible refine gate_callee (f := 17) rfl ?_); refine goesB (some 34) Try.func17 #[.agg #[.int .i64 a0_0, .int .i64 a0_1, .slice A0_2 l0_2.length c0_2]] ?_; (with_reducible refine (laws_toChart.calls k a0_0 a0_1 _ _ l0_2 t278 t279 t280 _ ?side1 ?side2 A13.out).mono ?_); (case side1 => exact Kd.C_below HR0_2.out bw_); (case side2 => exact HC0_2.out); rintro e w31 ⟨v281, rfl, ho0, hb⟩; refine ⟨_, rfl, ?_⟩; have n0_ := Aside0.mk (Kd.R_elder' (by exact rf_ (Kd.R_types HO267.out BK277.out (by decide)) (fun _ h_ => h_.1)) (Kd.R_base ho0) hb); have n1_ := Aside0.mk (Kd.R_elder' (by exact rf_ (Kd.R_types HO270.out BK277.out (by decide)) (fun _ h_ => h_.1)) (Kd.R_base ho0) hb); have n2_ := Aside0.mk (Kd.R_elder' (by exact rf_ (Kd.R_types HO275.out BK277.out (by decide)) (fun _ h_ => h_.1)) (Kd.R_base ho0) hb); have n3_ := Aside0.mk (Kd.R_lower (Kd.R_new' (Kd.R_new' (Kd.R_new' ho0 (Kd.R_lt (by exact rf_ (Kd.R_types HO267.out BK277.out (by decide)) (fun _ h_ => h_.1)))) (Kd.R_lt (by exact rf_ (Kd.R_types HO270.out BK277.out (by decide)) (fun _ h_ => h_.1)))) (Kd.R_lt (by exact rf_ (Kd.R_types HO275.out BK277.out (by decide)) (fun _ h_ => h_.1)))) (below_size bw_)); have n4_ := bb_ BK261 hb; have n5_ := Aside0.mk (blk_below (g := gb277) (o := .cells #[.int .i64 t271, .int .i64 t272, .slice Ao29 t273.length co29] 26 (0, 0)) (bq_ BK277) hb); have n6_ := Aside0.mk (below_step bw_ hb); clear HO267; clear HO270; clear HO275; clear BK261; clear BK277; clear HB; have HO267 := n0_; have HO270 := n1_; have HO275 := n2_; have HO282 := n3_; have BK261 := n4_; have BK277 := n5_; have HB := n6_; clear n0_ n1_ n2_ n3_ n4_ n5_ n6_; (try clear hb); (try clear hb2); (try clear hk); (try clear hi); (try clear ho0)) | (refine box_ (N := 8) (cs := #[.int .i64 0, .int .i64 0, .slice none 0 0]) (t := 26) ?_; intro gb283 hg w32 hbox hb; have n0_ := Aside0.mk (Kd.R_below (by (with_reducible repeat (first | apply Kd.R_alloc | apply Kd.R_drewN | apply Kd.R_drew)); exact HO267.out) hb); have n1_ := Aside0.mk (Kd.R_below (by (with_reducible repeat (first | apply Kd.R_alloc | apply Kd.R_drewN | apply Kd.R_drew)); exact HO270.out) hb); have n2_ := Aside0.mk (Kd.R_below (by (with_reducible repeat (first | apply Kd.R_alloc | apply Kd.R_drewN | apply Kd.R_drew)); exact HO275.out) hb); have n3_ := Aside0.mk (Kd.R_below (by (with_reducible repeat (first | apply Kd.R_alloc | apply Kd.R_drewN | apply Kd.R_drew)); exact HO282.out) hb); have n4_ := bb_ BK261 hb; have n5_ := bb_ BK277 hb; have n6_ := Aside0.mk (below_step bw_ hb); have n7_ := Aside0.mk (hbox); have n8_ := gz_ w hg; have n9_ := gz_ w hg; have n10_ := ne_ hg BK261; have n11_ := en_ hg BK261; have n12_ := ne_ hg BK277; have n13_ := en_ hg BK277; clear HO267; clear HO270; clear HO275; clear HO282; clear BK261; clear BK277; clear HB; have HO267 := n0_; have HO270 := n1_; have HO275 := n2_; have HO282 := n3_; have BK261 := n4_; have BK277 := n5_; have HB := n6_; have BK283 := n7_; have GW283 := n8_; have GE283 := n9_; have NB261_283 := n10_; have NB283_261 := n11_; have NB277_283 := n12_; have NB283_277 := n13_; clear n0_ n1_ n2_ n3_ n4_ n5_ n6_ n7_ n8_ n9_ n10_ n11_ n12_ n13_; clear hb hbox hg; have hnb33 := NB283_261.out; have hnc33 := NB261_283.out; have hnb34 := NB283_277.out; have hnc34 := NB277_283.out; obtain ⟨hcz35_0, hcz35_1, hcz35_2, hfz35_0, hfz35_1, hfz35_2⟩ := bc3_ BK283; obtain ⟨Ao36, co36, eo36⟩ := Kd.R_slice HO282.out; subst eo36) | ((with_reducible refine gate_callee (f := 42) rfl ?_); refine goesB (some 36) Try.func42 #[.slice A1 l1.length c1] ?_; (with_reducible refine (laws_toIntS.calls k _ _ l1 t284 _ ?side1 ?side2 A14.out).mono ?_); (case side1 => exact Kd.C_below HR1.out bw_); (case side2 => exact HC1.out); rintro e w37 ⟨v285, rfl, ho0, hb⟩; refine ⟨_, rfl, ?_⟩; have n0_ := Aside0.mk (Kd.R_elder' (by exact rf_ (Kd.R_types HO267.out BK283.out (by decide)) (fun _ h_ => h_.1)) (Kd.R_base ho0) hb); have n1_ := Aside0.mk (Kd.R_elder' (by exact rf_ (Kd.R_types HO270.out BK283.out (by decide)) (fun _ h_ => h_.1)) (Kd.R_base ho0) hb); have n2_ := Aside0.mk (Kd.R_elder' (by exact rf_ (Kd.R_types HO275.out BK283.out (by decide)) (fun _ h_ => h_.1)) (Kd.R_base ho0) hb); have n3_ := Aside0.mk (Kd.R_elder' (by exact rf_ (Kd.R_types HO282.out BK283.out (by decide)) (fun _ h_ => h_.1)) (Kd.R_base ho0) hb); have n4_ := Aside0.mk (Kd.R_lower (Kd.R_new' (Kd.R_new' (Kd.R_new' (Kd.R_new' ho0 (Kd.R_lt (by exact rf_ (Kd.R_types HO267.out BK283.out (by decide)) (fun _ h_ => h_.1)))) (Kd.R_lt (by exact rf_ (Kd.R_types HO270.out BK283.out (by decide)) (fun _ h_ => h_.1)))) (Kd.R_lt (by exact rf_ (Kd.R_types HO275.out BK283.out (by decide)) (fun _ h_ => h_.1)))) (Kd.R_lt (by exact rf_ (Kd.R_types HO282.out BK283.out (by decide)) (fun _ h_ => h_.1)))) (below_size bw_)); have n5_ := bb_ BK261 hb; have n6_ := bb_ BK277 hb; have n7_ := Aside0.mk (blk_below (g := gb283) (o := .cells #[.int .i64 t278, .int .i64 t279, .slice Ao36 t280.length co36] 26 (0, 0)) (bq_ BK283) hb); have n8_ := Aside0.mk (below_step bw_ hb); clear HO267; clear HO270; clear HO275; clear HO282; clear BK261; clear BK277; clear BK283; clear HB; have HO267 := n0_; have HO270 := n1_; have HO275 := n2_; have HO282 := n3_; have HO286 := n4_; have BK261 := n5_; have BK277 := n6_; have BK283 := n7_; have HB := n8_; clear n0_ n1_ n2_ n3_ n4_ n5_ n6_ n7_ n8_; (try clear hb); (try clear hb2); (try clear hk); (try clear hi); (try clear ho0); obtain ⟨hcz38_0, hcz38_1, hcz38_2, hfz38_0, hfz38_1, hfz38_2⟩ := bc3_ BK283; obtain ⟨Ao39, co39, eo39⟩ := Kd.R_slice HO286.out; subst eo39) | ((with_reducible refine gate_callee (f := 43) rfl ?_); refine goesB (some 40) Try.func43 #[.agg #[.int .i64 t278, .int .i64 t279, .slice Ao36 t280.length co36], .slice Ao39 t284.length co39] ?_; (with_reducible refine (impl_PutRing.calls k t278 t279 _ _ t280 _ _ t284 t287 t288 t289 t292 _ ?side1 ?side2 ?side3 ?side4 A15.out).mono ?_); (case side1 => repeat (first | exact (Kd.R_reads' HO282.out).2.2 | (with_reducible refine Kd.C_alloc ?_ _) | (with_reducible refine Kd.C_drewN ?_ _) | (with_reducible refine Kd.C_drew ?_))); (case side2 => exact (Kd.R_reads' HO282.out).2.1); (case side3 => repeat (first | exact (Kd.R_reads' HO286.out).2.2 | (with_reducible refine Kd.C_alloc ?_ _) | (with_reducible refine Kd.C_drewN ?_ _) | (with_reducible refine Kd.C_drew ?_))); (case side4 => exact (Kd.R_reads' HO286.out).2.1); rintro e w40 ⟨v290, rfl, ho0, hb⟩; refine ⟨_, rfl, ?_⟩; have n0_ := Aside0.mk (Kd.R_elder' (by (with_reducible repeat (first | apply Kd.R_alloc | apply Kd.R_drewN | apply Kd.R_drew)); exact HO267.out) (Kd.R_base ho0) hb); have n1_ := Aside0.mk (Kd.R_elder' (by (with_reducible repeat (first | apply Kd.R_alloc | apply Kd.R_drewN | apply Kd.R_drew)); exact HO270.out) (Kd.R_base ho0) hb); have n2_ := Aside0.mk (Kd.R_elder' (by (with_reducible repeat (first | apply Kd.R_alloc | apply Kd.R_drewN | apply Kd.R_drew)); exact HO275.out) (Kd.R_base ho0) hb); have n3_ := Aside0.mk (Kd.R_elder' (by (with_reducible repeat (first | apply Kd.R_alloc | apply Kd.R_drewN | apply Kd.R_drew)); exact HO282.out) (Kd.R_base ho0) hb); have n4_ := Aside0.mk (Kd.R_elder' (by (with_reducible repeat (first | apply Kd.R_alloc | apply Kd.R_drewN | apply Kd.R_drew)); exact HO286.out) (Kd.R_base ho0) hb); have n5_ := Aside0.mk (Kd.R_lower (Kd.R_new' (Kd.R_new' (Kd.R_new' (Kd.R_new' (Kd.R_new' ho0 (Kd.R_lt (by (with_reducible repeat (first | apply Kd.R_alloc | apply Kd.R_drewN | apply Kd.R_drew)); exact HO267.out))) (Kd.R_lt (by (with_reducible repeat (first | apply Kd.R_alloc | apply Kd.R_drewN | apply Kd.R_drew)); exact HO270.out))) (Kd.R_lt (by (with_reducible repeat (first | apply Kd.R_alloc | apply Kd.R_drewN | apply Kd.R_drew)); exact HO275.out))) (Kd.R_lt (by (with_reducible repeat (first | apply Kd.R_alloc | apply Kd.R_drewN | apply Kd.R_drew)); exact HO282.out))) (Kd.R_lt (by (with_reducible repeat (first | apply Kd.R_alloc | apply Kd.R_drewN | apply Kd.R_drew)); exact HO286.out))) (below_size bw_)); have n6_ := bb_ BK261 hb; have n7_ := bb_ BK277 hb; have n8_ := bb_ BK283 hb; have n9_ := Aside0.mk (below_step bw_ hb); clear HO267; clear HO270; clear HO275; clear HO282; clear HO286; clear BK261; clear BK277; clear BK283; clear HB; have HO267 := n0_; have HO270 := n1_; have HO275 := n2_; have HO282 := n3_; have HO286 := n4_; have HO291 := n5_; have BK261 := n6_; have BK277 := n7_; have BK283 := n8_; have HB := n9_; clear n0_ n1_ n2_ n3_ n4_ n5_ n6_ n7_ n8_ n9_; (try clear hb); (try clear hb2); (try clear hk); (try clear hi); (try clear ho0)) | (refine box_ (N := 10) (cs := #[.int .i64 0, .int .i64 0, .slice none 0 0]) (t := 26) ?_; intro gb293 hg w41 hbox hb; have n0_ := Aside0.mk (Kd.R_below (by (with_reducible repeat (first | apply Kd.R_alloc | apply Kd.R_drewN | apply Kd.R_drew)); exact HO267.out) hb); have n1_ := Aside0.mk (Kd.R_below (by (with_reducible repeat (first | apply Kd.R_alloc | apply Kd.R_drewN | apply Kd.R_drew)); exact HO270.out) hb); have n2_ := Aside0.mk (Kd.R_below (by (with_reducible repeat (first | apply Kd.R_alloc | apply Kd.R_drewN | apply Kd.R_drew)); exact HO275.out) hb); have n3_ := Aside0.mk (Kd.R_below (by (with_reducible repeat (first | apply Kd.R_alloc | apply Kd.R_drewN | apply Kd.R_drew)); exact HO282.out) hb); have n4_ := Aside0.mk (Kd.R_below (by (with_reducible repeat (first | apply Kd.R_alloc | apply Kd.R_drewN | apply Kd.R_drew)); exact HO286.out) hb); have n5_ := Aside0.mk (Kd.R_below (by (with_reducible repeat (first | apply Kd.R_alloc | apply Kd.R_drewN | apply Kd.R_drew)); exact HO291.out) hb); have n6_ := bb_ BK261 hb; have n7_ := bb_ BK277 hb; have n8_ := bb_ BK283 hb; have n9_ := Aside0.mk (below_step bw_ hb); have n10_ := Aside0.mk (hbox); have n11_ := gz_ w hg; have n12_ := gz_ w hg; have n13_ := ne_ hg BK261; have n14_ := en_ hg BK261; have n15_ := ne_ hg BK277; have n16_ := en_ hg BK277; have n17_ := ne_ hg BK283; have n18_ := en_ hg BK283; clear HO267; clear HO270; clear HO275; clear HO282; clear HO286; clear HO291; clear BK261; clear BK277; clear BK283; clear HB; have HO267 := n0_; have HO270 := n1_; have HO275 := n2_; have HO282 := n3_; have HO286 := n4_; have HO291 := n5_; have BK261 := n6_; have BK277 := n7_; have BK283 := n8_; have HB := n9_; have BK293 := n10_; have GW293 := n11_; have GE293 := n12_; have NB261_293 := n13_; have NB293_261 := n14_; have NB277_293 := n15_; have NB293_277 := n16_; have NB283_293 := n17_; have NB293_283 := n18_; clear n0_ n1_ n2_ n3_ n4_ n5_ n6_ n7_ n8_ n9_ n10_ n11_ n12_ n13_ n14_ n15_ n16_ n17_ n18_; clear hb hbox hg; have hnb42 := NB293_261.out; have hnc42 := NB261_293.out; have hnb43 := NB293_277.out; have hnc43 := NB277_293.out; have hnb44 := NB293_283.out; have hnc44 := NB283_293.out; obtain ⟨hcz45_0, hcz45_1, hcz45_2, hfz45_0, hfz45_1, hfz45_2⟩ := bc3_ BK293; obtain ⟨Ao46, co46, eo46⟩ := Kd.R_slice HO291.out; subst eo46))
   (try simp only [Act.put, List.setIfInBounds_toArray, List.set_cons_zero, List.set_cons_succ])
   go_cut [51] (fun v51 wc => ∃ (kq : Nat) (x51_15 : Bool), v51 = .bool x51_15 ∧ Aside0 (laws_FnExactPutRing.j0 kq l1 t276 t284 t292 x51_15 a0_0 a0_1 l0_2 t271 t272 t273 t278 t279 t280 t287 t288 t289 = some r) ∧ Aside0 (kq ≤ k) ∧ Aside0 (Kd.R (Kd.int .i64) 3 wc w.heap.size (fun k_ => some k_ ≠ ((.slice Ao29 t273.length co29) : Value).ownBlock ∧ some k_ ≠ ((.slice Ao36 t280.length co36) : Value).ownBlock ∧ some k_ ≠ ((.slice Ao46 t289.length co46) : Value).ownBlock) (.slice Ao39 t284.length co39) t284) ∧ Aside0 (Kd.R (Kd.int .i64) 3 wc w.heap.size (fun k_ => some k_ ≠ ((.slice Ao39 t284.length co39) : Value).ownBlock ∧ some k_ ≠ ((.slice Ao36 t280.length co36) : Value).ownBlock ∧ some k_ ≠ ((.slice Ao46 t289.length co46) : Value).ownBlock) (.slice Ao29 t273.length co29) t273) ∧ Aside0 (Kd.R (Kd.int .i64) 3 wc w.heap.size (fun k_ => some k_ ≠ ((.slice Ao39 t284.length co39) : Value).ownBlock ∧ some k_ ≠ ((.slice Ao29 t273.length co29) : Value).ownBlock ∧ some k_ ≠ ((.slice Ao46 t289.length co46) : Value).ownBlock) (.slice Ao36 t280.length co36) t280) ∧ Aside0 (Kd.R (Kd.int .i64) 3 wc w.heap.size (fun k_ => some k_ ≠ ((.slice Ao39 t284.length co39) : Value).ownBlock ∧ some k_ ≠ ((.slice Ao29 t273.length co29) : Value).ownBlock ∧ some k_ ≠ ((.slice Ao36 t280.length co36) : Value).ownBlock) (.slice Ao46 t289.length co46) t289) ∧ Aside0 (wc.heap[gb261]? = some (.cells #[.int .i64 a0_0, .int .i64 a0_1, (.slice A0_2 l0_2.length c0_2)] 24 (0, 0))) ∧ Aside0 (wc.heap[gb277]? = some (.cells #[.int .i64 t271, .int .i64 t272, (.slice Ao29 t273.length co29)] 26 (0, 0))) ∧ Aside0 (wc.heap[gb283]? = some (.cells #[.int .i64 t278, .int .i64 t279, (.slice Ao36 t280.length co36)] 26 (0, 0))) ∧ Aside0 (wc.heap[gb293]? = some (.cells #[.int .i64 t287, .int .i64 t288, (.slice Ao46 t289.length co46)] 26 (0, 0))) ∧ Aside0 (Below w.heap.size w wc))
   case first =>
    have H := HC16.out
    clear HC16
    replace H := Option.bind_eq_some_iff.mp H
    obtain ⟨t294, A470, H⟩ := H
    replace H : (if t294 = true then (laws_FnExactPutRing.j0 k l1 t276 t284 t292 (t292 != t276) a0_0 a0_1 l0_2 t271 t272 t273 t278 t279 t280 t287 t288 t289) else (laws_FnExactPutRing.j0 k l1 t276 t284 t292 true a0_0 a0_1 l0_2 t271 t272 t273 t278 t279 t280 t287 t288 t289)) = some r := H
    have A47 := Aside0.mk A470
    clear A470
    by_cases c48 : t294 = true
    ·subst c48
     have H1 : (laws_FnExactPutRing.j0 k l1 t276 t284 t292 (t292 != t276) a0_0 a0_1 l0_2 t271 t272 t273 t278 t279 t280 t287 t288 t289) = some r := by rw [if_pos rfl] at H; exact H
     clear H
     have H := H1
     clear H1
     have H' := Aside0.mk H
     clear H
     have hnb49 := NB293_261.out
     have hnc49 := NB261_293.out
     have hnb50 := NB293_277.out
     have hnc50 := NB277_293.out
     have hnb51 := NB293_283.out
     have hnc51 := NB283_293.out
     obtain ⟨hcz52_0, hcz52_1, hcz52_2, hfz52_0, hfz52_1, hfz52_2⟩ := bc3_ BK293
     have hnb53 := NB277_261.out
     have hnc53 := NB261_277.out
     have hnb54 := NB277_283.out
     have hnc54 := NB283_277.out
     obtain ⟨hcz55_0, hcz55_1, hcz55_2, hfz55_0, hfz55_1, hfz55_2⟩ := bc3_ BK277
     go_wp2_with (first | ((with_reducible refine gate_callee (f := 19) rfl ?_); refine goesB (some 45) Try.func19 #[.agg #[.int .i64 t287, .int .i64 t288, .slice Ao46 t289.length co46], .agg #[.int .i64 t271, .int .i64 t272, .slice Ao29 t273.length co29]] ?_; (with_reducible refine (laws_eqChart.calls k t287 t288 _ _ t289 t271 t272 _ _ t273 true _ ?side1 ?side2 ?side3 ?side4 A47.out).mono ?_); (case side1 => refine (Kd.R_reads' (e := 3) (base := w.heap.size) (ok := fun k_ => (((((True ∧ some k_ ≠ (.slice Ao23 t265.length co23 : Value).ownBlock) ∧ some k_ ≠ (.slice Ao24 t268.length co24 : Value).ownBlock) ∧ some k_ ≠ (.slice Ao29 t273.length co29 : Value).ownBlock) ∧ some k_ ≠ (.slice Ao36 t280.length co36 : Value).ownBlock) ∧ some k_ ≠ (.slice Ao39 t284.length co39 : Value).ownBlock)) (n := t289.length) (c := co46) ?_).2.2; exact (by exact rf_ (Kd.R_types HO291.out BK293.out (by decide)) (fun _ h_ => h_.1))); (case side2 => exact (Kd.R_reads' HO291.out).2.1); (case side3 => refine (Kd.R_reads' (e := 3) (base := w.heap.size) (ok := fun k_ => (((((True ∧ some k_ ≠ (.slice Ao23 t265.length co23 : Value).ownBlock) ∧ some k_ ≠ (.slice Ao24 t268.length co24 : Value).ownBlock) ∧ some k_ ≠ (.slice Ao36 t280.length co36 : Value).ownBlock) ∧ some k_ ≠ (.slice Ao39 t284.length co39 : Value).ownBlock) ∧ some k_ ≠ (.slice Ao46 t289.length co46 : Value).ownBlock)) (n := t273.length) (c := co29) ?_).2.2; exact (by exact rf_ (Kd.R_types HO275.out BK293.out (by decide)) (fun _ h_ => h_.1))); (case side4 => exact (Kd.R_reads' HO275.out).2.1); rintro e w56 ⟨rfl, hb⟩; refine ⟨_, rfl, ?_⟩; replace HO267 := Aside0.mk (Kd.R_below (by exact rf_ (Kd.R_types HO267.out BK293.out (by decide)) (fun _ h_ => h_.1)) hb); replace HO270 := Aside0.mk (Kd.R_below (by exact rf_ (Kd.R_types HO270.out BK293.out (by decide)) (fun _ h_ => h_.1)) hb); replace HO275 := Aside0.mk (Kd.R_below (by exact rf_ (Kd.R_types HO275.out BK293.out (by decide)) (fun _ h_ => h_.1)) hb); replace HO282 := Aside0.mk (Kd.R_below (by exact rf_ (Kd.R_types HO282.out BK293.out (by decide)) (fun _ h_ => h_.1)) hb); replace HO286 := Aside0.mk (Kd.R_below (by exact rf_ (Kd.R_types HO286.out BK293.out (by decide)) (fun _ h_ => h_.1)) hb); replace HO291 := Aside0.mk (Kd.R_below (by exact rf_ (Kd.R_types HO291.out BK293.out (by decide)) (fun _ h_ => h_.1)) hb); replace BK261 := bb_ BK261 hb; replace BK277 := bb_ BK277 hb; replace BK283 := bb_ BK283 hb; replace BK293 := Aside0.mk (blk_below (g := gb293) (o := .cells #[.int .i64 t287, .int .i64 t288, .slice Ao46 t289.length co46] 26 (0, 0)) (bq_ BK293) hb); replace HB := Aside0.mk (below_step bw_ hb); (try clear hb); (try clear hb2); (try clear hk); (try clear hi)))
     go_meet
     case rel => exact ⟨_, ((t292 != t276)), (by first | rfl | (simp; done) | (simp [*]; done)), H', ⟨by first | omega | exact Nat.le_refl _⟩, ⟨by (with_reducible repeat (first | apply Kd.R_alloc | apply Kd.R_drewN | apply Kd.R_drew)); exact Kd.R_mono HO286.out (fun _ hk => ⟨hk.1.1.2, ⟨hk.1.2, hk.2⟩⟩)⟩, ⟨by (with_reducible repeat (first | apply Kd.R_alloc | apply Kd.R_drewN | apply Kd.R_drew)); exact Kd.R_mono HO275.out (fun _ hk => ⟨hk.1.2, ⟨hk.1.1.2, hk.2⟩⟩)⟩, ⟨by (with_reducible repeat (first | apply Kd.R_alloc | apply Kd.R_drewN | apply Kd.R_drew)); exact Kd.R_mono HO282.out (fun _ hk => ⟨hk.1.2, ⟨hk.1.1.2, hk.2⟩⟩)⟩, ⟨by (with_reducible repeat (first | apply Kd.R_alloc | apply Kd.R_drewN | apply Kd.R_drew)); exact Kd.R_mono HO291.out (fun _ hk => ⟨hk.2, ⟨hk.1.1.2, hk.1.2⟩⟩)⟩, ⟨bk_ BK261⟩, ⟨bk_ BK277⟩, ⟨bk_ BK283⟩, ⟨bk_ BK293⟩, ⟨bw_⟩⟩
    ·replace c48 := Bool.eq_false_iff.mpr c48
     subst c48
     have H1 : (laws_FnExactPutRing.j0 k l1 t276 t284 t292 true a0_0 a0_1 l0_2 t271 t272 t273 t278 t279 t280 t287 t288 t289) = some r := by rw [if_neg (show ¬ (false = true) by decide)] at H; exact H
     clear H
     have H := H1
     clear H1
     have H' := Aside0.mk H
     clear H
     have hnb57 := NB293_261.out
     have hnc57 := NB261_293.out
     have hnb58 := NB293_277.out
     have hnc58 := NB277_293.out
     have hnb59 := NB293_283.out
     have hnc59 := NB283_293.out
     obtain ⟨hcz60_0, hcz60_1, hcz60_2, hfz60_0, hfz60_1, hfz60_2⟩ := bc3_ BK293
     have hnb61 := NB277_261.out
     have hnc61 := NB261_277.out
     have hnb62 := NB277_283.out
     have hnc62 := NB283_277.out
     obtain ⟨hcz63_0, hcz63_1, hcz63_2, hfz63_0, hfz63_1, hfz63_2⟩ := bc3_ BK277
     go_wp2_with (first | ((with_reducible refine gate_callee (f := 19) rfl ?_); refine goesB (some 45) Try.func19 #[.agg #[.int .i64 t287, .int .i64 t288, .slice Ao46 t289.length co46], .agg #[.int .i64 t271, .int .i64 t272, .slice Ao29 t273.length co29]] ?_; (with_reducible refine (laws_eqChart.calls k t287 t288 _ _ t289 t271 t272 _ _ t273 false _ ?side1 ?side2 ?side3 ?side4 A47.out).mono ?_); (case side1 => refine (Kd.R_reads' (e := 3) (base := w.heap.size) (ok := fun k_ => (((((True ∧ some k_ ≠ (.slice Ao23 t265.length co23 : Value).ownBlock) ∧ some k_ ≠ (.slice Ao24 t268.length co24 : Value).ownBlock) ∧ some k_ ≠ (.slice Ao29 t273.length co29 : Value).ownBlock) ∧ some k_ ≠ (.slice Ao36 t280.length co36 : Value).ownBlock) ∧ some k_ ≠ (.slice Ao39 t284.length co39 : Value).ownBlock)) (n := t289.length) (c := co46) ?_).2.2; exact (by exact rf_ (Kd.R_types HO291.out BK293.out (by decide)) (fun _ h_ => h_.1))); (case side2 => exact (Kd.R_reads' HO291.out).2.1); (case side3 => refine (Kd.R_reads' (e := 3) (base := w.heap.size) (ok := fun k_ => (((((True ∧ some k_ ≠ (.slice Ao23 t265.length co23 : Value).ownBlock) ∧ some k_ ≠ (.slice Ao24 t268.length co24 : Value).ownBlock) ∧ some k_ ≠ (.slice Ao36 t280.length co36 : Value).ownBlock) ∧ some k_ ≠ (.slice Ao39 t284.length co39 : Value).ownBlock) ∧ some k_ ≠ (.slice Ao46 t289.length co46 : Value).ownBlock)) (n := t273.length) (c := co29) ?_).2.2; exact (by exact rf_ (Kd.R_types HO275.out BK293.out (by decide)) (fun _ h_ => h_.1))); (case side4 => exact (Kd.R_reads' HO275.out).2.1); rintro e w64 ⟨rfl, hb⟩; refine ⟨_, rfl, ?_⟩; replace HO267 := Aside0.mk (Kd.R_below (by exact rf_ (Kd.R_types HO267.out BK293.out (by decide)) (fun _ h_ => h_.1)) hb); replace HO270 := Aside0.mk (Kd.R_below (by exact rf_ (Kd.R_types HO270.out BK293.out (by decide)) (fun _ h_ => h_.1)) hb); replace HO275 := Aside0.mk (Kd.R_below (by exact rf_ (Kd.R_types HO275.out BK293.out (by decide)) (fun _ h_ => h_.1)) hb); replace HO282 := Aside0.mk (Kd.R_below (by exact rf_ (Kd.R_types HO282.out BK293.out (by decide)) (fun _ h_ => h_.1)) hb); replace HO286 := Aside0.mk (Kd.R_below (by exact rf_ (Kd.R_types HO286.out BK293.out (by decide)) (fun _ h_ => h_.1)) hb); replace HO291 := Aside0.mk (Kd.R_below (by exact rf_ (Kd.R_types HO291.out BK293.out (by decide)) (fun _ h_ => h_.1)) hb); replace BK261 := bb_ BK261 hb; replace BK277 := bb_ BK277 hb; replace BK283 := bb_ BK283 hb; replace BK293 := Aside0.mk (blk_below (g := gb293) (o := .cells #[.int .i64 t287, .int .i64 t288, .slice Ao46 t289.length co46] 26 (0, 0)) (bq_ BK293) hb); replace HB := Aside0.mk (below_step bw_ hb); (try clear hb); (try clear hb2); (try clear hk); (try clear hi)))
     go_meet
     case rel => exact ⟨_, (true), (by first | rfl | (simp; done) | (simp [*]; done)), H', ⟨by first | omega | exact Nat.le_refl _⟩, ⟨by (with_reducible repeat (first | apply Kd.R_alloc | apply Kd.R_drewN | apply Kd.R_drew)); exact Kd.R_mono HO286.out (fun _ hk => ⟨hk.1.1.2, ⟨hk.1.2, hk.2⟩⟩)⟩, ⟨by (with_reducible repeat (first | apply Kd.R_alloc | apply Kd.R_drewN | apply Kd.R_drew)); exact Kd.R_mono HO275.out (fun _ hk => ⟨hk.1.2, ⟨hk.1.1.2, hk.2⟩⟩)⟩, ⟨by (with_reducible repeat (first | apply Kd.R_alloc | apply Kd.R_drewN | apply Kd.R_drew)); exact Kd.R_mono HO282.out (fun _ hk => ⟨hk.1.2, ⟨hk.1.1.2, hk.2⟩⟩)⟩, ⟨by (with_reducible repeat (first | apply Kd.R_alloc | apply Kd.R_drewN | apply Kd.R_drew)); exact Kd.R_mono HO291.out (fun _ hk => ⟨hk.2, ⟨hk.1.1.2, hk.1.2⟩⟩)⟩, ⟨bk_ BK261⟩, ⟨bk_ BK277⟩, ⟨bk_ BK283⟩, ⟨bk_ BK293⟩, ⟨bw_⟩⟩
   case rest =>
    clear HC16
    try clear c1
    try clear c2
    try clear p2
    try clear c3
    try clear c3b0
    try clear c3b1
    try clear c4
    try clear c5
    try clear c6
    try clear c6b0
    try clear c11
    try clear c15
    try clear c17
    try clear c19
    try clear c27
    try clear c33
    try clear c34
    try clear c41
    try clear c42
    try clear c43
    try clear c44
    try clear c48
    try clear c49
    try clear c50
    try clear c51
    try clear c53
    try clear c54
    try clear c57
    try clear c58
    try clear c59
    try clear c61
    try clear c62
    try clear hcz18_0
    try clear hcz18_1
    try clear hcz18_2
    try clear hcz20_0
    try clear hcz20_1
    try clear hcz20_2
    try clear hcz28_0
    try clear hcz28_1
    try clear hcz28_2
    try clear hcz30_0
    try clear hcz30_1
    try clear hcz30_2
    try clear hcz35_0
    try clear hcz35_1
    try clear hcz35_2
    try clear hcz38_0
    try clear hcz38_1
    try clear hcz38_2
    try clear hcz45_0
    try clear hcz45_1
    try clear hcz45_2
    try clear hcz52_0
    try clear hcz52_1
    try clear hcz52_2
    try clear hcz55_0
    try clear hcz55_1
    try clear hcz55_2
    try clear hcz60_0
    try clear hcz60_1
    try clear hcz60_2
    try clear hcz63_0
    try clear hcz63_1
    try clear hcz63_2
    try clear hcz8_0
    try clear hcz8_1
    try clear hcz8_2
    try clear hfz18_0
    try clear hfz18_1
    try clear hfz18_2
    try clear hfz20_0
    try clear hfz20_1
    try clear hfz20_2
    try clear hfz28_0
    try clear hfz28_1
    try clear hfz28_2
    try clear hfz30_0
    try clear hfz30_1
    try clear hfz30_2
    try clear hfz35_0
    try clear hfz35_1
    try clear hfz35_2
    try clear hfz38_0
    try clear hfz38_1
    try clear hfz38_2
    try clear hfz45_0
    try clear hfz45_1
    try clear hfz45_2
    try clear hfz52_0
    try clear hfz52_1
    try clear hfz52_2
    try clear hfz55_0
    try clear hfz55_1
    try clear hfz55_2
    try clear hfz60_0
    try clear hfz60_1
    try clear hfz60_2
    try clear hfz63_0
    try clear hfz63_1
    try clear hfz63_2
    try clear hfz8_0
    try clear hfz8_1
    try clear hfz8_2
    obtain ⟨kq, x51_15, rfl, HA, HJ15, HO_9, HO_278002, HO_284002, HO_294002, BK261, BK277, BK283, BK293, HB⟩ := hcut
    cases kq with
    | zero => exact absurd HA.out (by simp [laws_FnExactPutRing.j0])
    | succ kj15 =>
     have H := HA.out
     clear HA
     simp only [laws_FnExactPutRing.j0] at H
     by_cases c65 : x51_15 = true
     ·subst c65
      have H1 : (some false) = some r := by rw [if_pos rfl] at H; exact H
      clear H
      have H := H1
      clear H1
      exact absurd (H.trans (congrArg some HRT.out)) (by simp)
     ·replace c65 := Bool.eq_false_iff.mpr c65
      subst c65
      have H1 : ((laws_toChart.f kj15 a0_0 a0_1 l0_2).bind fun bt295 => ((laws_eqChart.f kj15 t278 t279 t280 bt295.1 bt295.2.1 bt295.2.2).bind fun t300 => (if t300 = true then ((laws_toIntS.f kj15 l1).bind fun t301 => ((laws_eqIntS.f kj15 t284 t301).bind fun t304 => (if t304 = true then ((laws_markChart.f kj15 t278 t279 t280 1).bind fun bt305 => ((laws_markIntS.f kj15 t284 bt305.1).bind fun bt307 => (if bt307.1 < 0 then (laws_FnExactPutRing.j1 kj15 l1 t276 true a0_0 a0_1 l0_2 t271 t272 t273 t287 t288 t289) else ((laws_eqChart.f kj15 t287 t288 t289 t271 t272 t273).bind fun t309 => (if t309 = true then (laws_FnExactPutRing.j1 kj15 l1 t276 (t292 != t276) a0_0 a0_1 l0_2 t271 t272 t273 t287 t288 t289) else (laws_FnExactPutRing.j1 kj15 l1 t276 true a0_0 a0_1 l0_2 t271 t272 t273 t287 t288 t289)))))) else (some false)))) else (some false)))) = some r := by rw [if_neg (show ¬ (false = true) by decide)] at H; exact H
      clear H
      have H := H1
      clear H1
      replace H := Option.bind_eq_some_iff.mp H
      obtain ⟨⟨t295, t296, t297⟩, A660, H⟩ := H
      replace H : ((laws_eqChart.f kj15 t278 t279 t280 t295 t296 t297).bind fun t300 => (if t300 = true then ((laws_toIntS.f kj15 l1).bind fun t301 => ((laws_eqIntS.f kj15 t284 t301).bind fun t304 => (if t304 = true then ((laws_markChart.f kj15 t278 t279 t280 1).bind fun bt305 => ((laws_markIntS.f kj15 t284 bt305.1).bind fun bt307 => (if bt307.1 < 0 then (laws_FnExactPutRing.j1 kj15 l1 t276 true a0_0 a0_1 l0_2 t271 t272 t273 t287 t288 t289) else ((laws_eqChart.f kj15 t287 t288 t289 t271 t272 t273).bind fun t309 => (if t309 = true then (laws_FnExactPutRing.j1 kj15 l1 t276 (t292 != t276) a0_0 a0_1 l0_2 t271 t272 t273 t287 t288 t289) else (laws_FnExactPutRing.j1 kj15 l1 t276 true a0_0 a0_1 l0_2 t271 t272 t273 t287 t288 t289)))))) else (some false)))) else (some false))) = some r := H
      have A66 := Aside0.mk A660
      clear A660
      replace H := Option.bind_eq_some_iff.mp H
      obtain ⟨t300, A670, H⟩ := H
      replace H : (if t300 = true then ((laws_toIntS.f kj15 l1).bind fun t301 => ((laws_eqIntS.f kj15 t284 t301).bind fun t304 => (if t304 = true then ((laws_markChart.f kj15 t278 t279 t280 1).bind fun bt305 => ((laws_markIntS.f kj15 t284 bt305.1).bind fun bt307 => (if bt307.1 < 0 then (laws_FnExactPutRing.j1 kj15 l1 t276 true a0_0 a0_1 l0_2 t271 t272 t273 t287 t288 t289) else ((laws_eqChart.f kj15 t287 t288 t289 t271 t272 t273).bind fun t309 => (if t309 = true then (laws_FnExactPutRing.j1 kj15 l1 t276 (t292 != t276) a0_0 a0_1 l0_2 t271 t272 t273 t287 t288 t289) else (laws_FnExactPutRing.j1 kj15 l1 t276 true a0_0 a0_1 l0_2 t271 t272 t273 t287 t288 t289)))))) else (some false)))) else (some false)) = some r := H
      have A67 := Aside0.mk A670
      clear A670
      by_cases c68 : t300 = true
      ·subst c68
       have H1 : ((laws_toIntS.f kj15 l1).bind fun t301 => ((laws_eqIntS.f kj15 t284 t301).bind fun t304 => (if t304 = true then ((laws_markChart.f kj15 t278 t279 t280 1).bind fun bt305 => ((laws_markIntS.f kj15 t284 bt305.1).bind fun bt307 => (if bt307.1 < 0 then (laws_FnExactPutRing.j1 kj15 l1 t276 true a0_0 a0_1 l0_2 t271 t272 t273 t287 t288 t289) else ((laws_eqChart.f kj15 t287 t288 t289 t271 t272 t273).bind fun t309 => (if t309 = true then (laws_FnExactPutRing.j1 kj15 l1 t276 (t292 != t276) a0_0 a0_1 l0_2 t271 t272 t273 t287 t288 t289) else (laws_FnExactPutRing.j1 kj15 l1 t276 true a0_0 a0_1 l0_2 t271 t272 t273 t287 t288 t289)))))) else (some false)))) = some r := by rw [if_pos rfl] at H; exact H
       clear H
       have H := H1
       clear H1
       replace H := Option.bind_eq_some_iff.mp H
       obtain ⟨t301, A690, H⟩ := H
       replace H : ((laws_eqIntS.f kj15 t284 t301).bind fun t304 => (if t304 = true then ((laws_markChart.f kj15 t278 t279 t280 1).bind fun bt305 => ((laws_markIntS.f kj15 t284 bt305.1).bind fun bt307 => (if bt307.1 < 0 then (laws_FnExactPutRing.j1 kj15 l1 t276 true a0_0 a0_1 l0_2 t271 t272 t273 t287 t288 t289) else ((laws_eqChart.f kj15 t287 t288 t289 t271 t272 t273).bind fun t309 => (if t309 = true then (laws_FnExactPutRing.j1 kj15 l1 t276 (t292 != t276) a0_0 a0_1 l0_2 t271 t272 t273 t287 t288 t289) else (laws_FnExactPutRing.j1 kj15 l1 t276 true a0_0 a0_1 l0_2 t271 t272 t273 t287 t288 t289)))))) else (some false))) = some r := H
       have A69 := Aside0.mk A690
       clear A690
       replace H := Option.bind_eq_some_iff.mp H
       obtain ⟨t304, A700, H⟩ := H
       replace H : (if t304 = true then ((laws_markChart.f kj15 t278 t279 t280 1).bind fun bt305 => ((laws_markIntS.f kj15 t284 bt305.1).bind fun bt307 => (if bt307.1 < 0 then (laws_FnExactPutRing.j1 kj15 l1 t276 true a0_0 a0_1 l0_2 t271 t272 t273 t287 t288 t289) else ((laws_eqChart.f kj15 t287 t288 t289 t271 t272 t273).bind fun t309 => (if t309 = true then (laws_FnExactPutRing.j1 kj15 l1 t276 (t292 != t276) a0_0 a0_1 l0_2 t271 t272 t273 t287 t288 t289) else (laws_FnExactPutRing.j1 kj15 l1 t276 true a0_0 a0_1 l0_2 t271 t272 t273 t287 t288 t289)))))) else (some false)) = some r := H
       have A70 := Aside0.mk A700
       clear A700
       by_cases c71 : t304 = true
       ·subst c71
        have H1 : ((laws_markChart.f kj15 t278 t279 t280 1).bind fun bt305 => ((laws_markIntS.f kj15 t284 bt305.1).bind fun bt307 => (if bt307.1 < 0 then (laws_FnExactPutRing.j1 kj15 l1 t276 true a0_0 a0_1 l0_2 t271 t272 t273 t287 t288 t289) else ((laws_eqChart.f kj15 t287 t288 t289 t271 t272 t273).bind fun t309 => (if t309 = true then (laws_FnExactPutRing.j1 kj15 l1 t276 (t292 != t276) a0_0 a0_1 l0_2 t271 t272 t273 t287 t288 t289) else (laws_FnExactPutRing.j1 kj15 l1 t276 true a0_0 a0_1 l0_2 t271 t272 t273 t287 t288 t289)))))) = some r := by rw [if_pos rfl] at H; exact H
        clear H
        have H := H1
        clear H1
        replace H := Option.bind_eq_some_iff.mp H
        obtain ⟨⟨t305, t306⟩, A720, H⟩ := H
        replace H : ((laws_markIntS.f kj15 t284 t305).bind fun bt307 => (if bt307.1 < 0 then (laws_FnExactPutRing.j1 kj15 l1 t276 true a0_0 a0_1 l0_2 t271 t272 t273 t287 t288 t289) else ((laws_eqChart.f kj15 t287 t288 t289 t271 t272 t273).bind fun t309 => (if t309 = true then (laws_FnExactPutRing.j1 kj15 l1 t276 (t292 != t276) a0_0 a0_1 l0_2 t271 t272 t273 t287 t288 t289) else (laws_FnExactPutRing.j1 kj15 l1 t276 true a0_0 a0_1 l0_2 t271 t272 t273 t287 t288 t289))))) = some r := H
        have A72 := Aside0.mk A720
        clear A720
        replace H := Option.bind_eq_some_iff.mp H
        obtain ⟨⟨t307, t308⟩, A730, H⟩ := H
        replace H : (if t307 < 0 then (laws_FnExactPutRing.j1 kj15 l1 t276 true a0_0 a0_1 l0_2 t271 t272 t273 t287 t288 t289) else ((laws_eqChart.f kj15 t287 t288 t289 t271 t272 t273).bind fun t309 => (if t309 = true then (laws_FnExactPutRing.j1 kj15 l1 t276 (t292 != t276) a0_0 a0_1 l0_2 t271 t272 t273 t287 t288 t289) else (laws_FnExactPutRing.j1 kj15 l1 t276 true a0_0 a0_1 l0_2 t271 t272 t273 t287 t288 t289)))) = some r := H
        have A73 := Aside0.mk A730
        clear A730
        have HC74 := Aside0.mk H
        clear H
        try go_wp2
        replace HO_9 := Aside0.mk (Kd.R_drew HO_9.out)
        replace HO_278002 := Aside0.mk (Kd.R_drew HO_278002.out)
        replace HO_284002 := Aside0.mk (Kd.R_drew HO_284002.out)
        replace HO_294002 := Aside0.mk (Kd.R_drew HO_294002.out)
        replace BK261 := Aside0.mk (blk_drew BK261.out)
        replace BK277 := Aside0.mk (blk_drew BK277.out)
        replace BK283 := Aside0.mk (blk_drew BK283.out)
        replace BK293 := Aside0.mk (blk_drew BK293.out)
        replace HB := Aside0.mk (below_drew1 HB.out)
        refine start_ (n := 5) (S := fun w' => w'.cell? ⟨gb283, 0, none⟩ = some (.int .i64 t278) ∧ w'.cell? ⟨gb283, 1, none⟩ = some (.int .i64 t279) ∧ w'.cell? ⟨gb283, 2, none⟩ = some (.slice Ao36 t280.length co36) ∧ w'.cell? ⟨gb261, 0, none⟩ = some (.int .i64 a0_0) ∧ w'.cell? ⟨gb261, 1, none⟩ = some (.int .i64 a0_1) ∧ w'.cell? ⟨gb261, 2, none⟩ = some (.slice A0_2 l0_2.length c0_2)) (ds := []) #[false, false, false, false, false] (by kernel_rfl) rfl rfl ⟨bc_ BK283 0, bc_ BK283 1, bc_ BK283 2, bc_ BK261 0, bc_ BK261 1, bc_ BK261 2⟩ (fun hHeld => ?_)
        generalize wc.drew = w75 at HO_9 HO_278002 HO_284002 HO_294002 BK261 BK277 BK283 BK293 HB hHeld ⊢
        refine take_ (i := 0) (N := some 52) (v := ?_) (a' := ?_) #[true, false, false, false, false] rfl rfl (by kernel_rfl) (fun _ _ _ h => h) (Or.inl ⟨by rfl, ?_⟩) hHeld ?_ ?_
        rotate_left
        ·rintro w' ⟨s0, s1, s2, s3, s4, s5⟩
         go_simp
         with_reducible rfl
        rotate_left
        ·simp only [Act.put, List.setIfInBounds_toArray, List.set_cons_zero, List.set_cons_succ, i64_w, i32_w]
         rfl
        refine take_ (i := 1) (N := some 53) (v := ?_) (a' := ?_) #[true, true, false, false, false] rfl rfl (by kernel_rfl) (fun _ _ _ h => h) (Or.inl ⟨by rfl, ?_⟩) hHeld ?_ ?_
        rotate_left
        ·rintro w' ⟨s0, s1, s2, s3, s4, s5⟩
         go_simp
         with_reducible rfl
        rotate_left
        ·simp only [Act.put, List.setIfInBounds_toArray, List.set_cons_zero, List.set_cons_succ, i64_w, i32_w]
         rfl
        refine one_ (i := 2) (N := some 54) #[true, true, true, false, false] rfl rfl (by kernel_rfl) (by decide) (fun K hK => ?_)
        refine goesA Try.func17 #[.agg #[.int .i64 a0_0, .int .i64 a0_1, .slice A0_2 l0_2.length c0_2]] ?_
        with_reducible refine (laws_toChart.calls kj15 a0_0 a0_1 _ _ l0_2 t295 t296 t297 _ ?side1 ?side2 A66.out).mono ?_
        (case side1 => exact cb_ HR0_2 HB)
        (case side2 => exact HC0_2.out)
        rintro e w76 ⟨v298, rfl, ho0, hb⟩
        refine ⟨_, rfl, ?_⟩
        have n0_ := Aside0.mk (Kd.R_elder' (by (with_reducible repeat (first | apply Kd.R_alloc | apply Kd.R_drewN | apply Kd.R_drew)); exact HO_9.out) (Kd.R_base ho0) hb)
        have n1_ := Aside0.mk (Kd.R_elder' (by (with_reducible repeat (first | apply Kd.R_alloc | apply Kd.R_drewN | apply Kd.R_drew)); exact HO_278002.out) (Kd.R_base ho0) hb)
        have n2_ := Aside0.mk (Kd.R_elder' (by (with_reducible repeat (first | apply Kd.R_alloc | apply Kd.R_drewN | apply Kd.R_drew)); exact HO_284002.out) (Kd.R_base ho0) hb)
        have n3_ := Aside0.mk (Kd.R_elder' (by (with_reducible repeat (first | apply Kd.R_alloc | apply Kd.R_drewN | apply Kd.R_drew)); exact HO_294002.out) (Kd.R_base ho0) hb)
        have n4_ := Aside0.mk (Kd.R_lower (Kd.R_new' (Kd.R_new' (Kd.R_new' (Kd.R_new' ho0 (Kd.R_lt (by (with_reducible repeat (first | apply Kd.R_alloc | apply Kd.R_drewN | apply Kd.R_drew)); exact HO_9.out))) (Kd.R_lt (by (with_reducible repeat (first | apply Kd.R_alloc | apply Kd.R_drewN | apply Kd.R_drew)); exact HO_278002.out))) (Kd.R_lt (by (with_reducible repeat (first | apply Kd.R_alloc | apply Kd.R_drewN | apply Kd.R_drew)); exact HO_284002.out))) (Kd.R_lt (by (with_reducible repeat (first | apply Kd.R_alloc | apply Kd.R_drewN | apply Kd.R_drew)); exact HO_294002.out))) (below_size bw_))
        have n5_ := bb_ BK261 hb
        have n6_ := bb_ BK277 hb
        have n7_ := bb_ BK283 hb
        have n8_ := bb_ BK293 hb
        have n9_ := Aside0.mk (below_step bw_ hb)
        clear HO_9
        clear HO_278002
        clear HO_284002
        clear HO_294002
        clear BK261
        clear BK277
        clear BK283
        clear BK293
        clear HB
        have HO_9 := n0_
        have HO_278002 := n1_
        have HO_284002 := n2_
        have HO_294002 := n3_
        have HO299 := n4_
        have BK261 := n5_
        have BK277 := n6_
        have BK283 := n7_
        have BK293 := n8_
        have HB := n9_
        clear n0_ n1_ n2_ n3_ n4_ n5_ n6_ n7_ n8_ n9_
        (try clear hb)
        (try clear hb2)
        (try clear hk)
        (try clear hi)
        (try clear ho0)
        obtain ⟨Ao77, co77, eo77⟩ := Kd.R_slice HO299.out
        (first | subst eo77 | (injection eo77 with f1_ f2_ f3_; have f4_ := f1_.symm; have f5_ := f3_.symm; clear f1_ f2_ f3_; subst f4_; subst f5_))
        refine hK.out _ _ ⟨bc_ BK283 0, bc_ BK283 1, bc_ BK283 2, bc_ BK261 0, bc_ BK261 1, bc_ BK261 2⟩ (fun hHeld => ?_)
        clear hK K
        refine normA (N := some 54) ?_
        refine one_ (i := 3) (N := some 55) #[true, true, true, true, false] rfl rfl (by kernel_rfl) (by decide) (fun K hK => ?_)
        refine goesA Try.func19 #[.agg #[.int .i64 t278, .int .i64 t279, .slice Ao36 t280.length co36], .agg #[.int .i64 t295, .int .i64 t296, .slice Ao77 t297.length co77]] ?_
        with_reducible refine (laws_eqChart.calls kj15 t278 t279 _ _ t280 t295 t296 _ _ t297 true _ ?side1 ?side2 ?side3 ?side4 A67.out).mono ?_
        (case side1 => repeat (first | exact (Kd.R_reads' HO_284002.out).2.2 | (with_reducible refine Kd.C_alloc ?_ _) | (with_reducible refine Kd.C_drewN ?_ _) | (with_reducible refine Kd.C_drew ?_)))
        (case side2 => exact (Kd.R_reads' HO_284002.out).2.1)
        (case side3 => repeat (first | exact (Kd.R_reads' HO299.out).2.2 | (with_reducible refine Kd.C_alloc ?_ _) | (with_reducible refine Kd.C_drewN ?_ _) | (with_reducible refine Kd.C_drew ?_)))
        (case side4 => exact (Kd.R_reads' HO299.out).2.1)
        rintro e w78 ⟨rfl, hb⟩
        refine ⟨_, rfl, ?_⟩
        have n0_ := Aside0.mk (Kd.R_below (by (with_reducible repeat (first | apply Kd.R_alloc | apply Kd.R_drewN | apply Kd.R_drew)); exact HO_9.out) hb)
        have n1_ := Aside0.mk (Kd.R_below (by (with_reducible repeat (first | apply Kd.R_alloc | apply Kd.R_drewN | apply Kd.R_drew)); exact HO_278002.out) hb)
        have n2_ := Aside0.mk (Kd.R_below (by (with_reducible repeat (first | apply Kd.R_alloc | apply Kd.R_drewN | apply Kd.R_drew)); exact HO_284002.out) hb)
        have n3_ := Aside0.mk (Kd.R_below (by (with_reducible repeat (first | apply Kd.R_alloc | apply Kd.R_drewN | apply Kd.R_drew)); exact HO_294002.out) hb)
        have n4_ := Aside0.mk (Kd.R_below (by (with_reducible repeat (first | apply Kd.R_alloc | apply Kd.R_drewN | apply Kd.R_drew)); exact HO299.out) hb)
        have n5_ := bb_ BK261 hb
        have n6_ := bb_ BK277 hb
        have n7_ := bb_ BK283 hb
        have n8_ := bb_ BK293 hb
        have n9_ := Aside0.mk (below_step bw_ hb)
        clear HO_9
        clear HO_278002
        clear HO_284002
        clear HO_294002
        clear HO299
        clear BK261
        clear BK277
        clear BK283
        clear BK293
        clear HB
        have HO_9 := n0_
        have HO_278002 := n1_
        have HO_284002 := n2_
        have HO_294002 := n3_
        have HO299 := n4_
        have BK261 := n5_
        have BK277 := n6_
        have BK283 := n7_
        have BK293 := n8_
        have HB := n9_
        clear n0_ n1_ n2_ n3_ n4_ n5_ n6_ n7_ n8_ n9_
        (try clear hb)
        (try clear hb2)
        (try clear hk)
        (try clear hi)
        refine hK.out _ _ ⟨bc_ BK283 0, bc_ BK283 1, bc_ BK283 2, bc_ BK261 0, bc_ BK261 1, bc_ BK261 2⟩ (fun hHeld => ?_)
        clear hK K
        refine normA (N := some 55) ?_
        refine pureK (N := some 56) 4 ?_
        refine done_ (by kernel_rfl) ?_
        go_upto_region 20 with (first | ((with_reducible refine gate_callee (f := 42) rfl ?_); refine goesB (some 59) Try.func42 #[.slice A1 l1.length c1] ?_; (with_reducible refine (laws_toIntS.calls kj15 _ _ l1 t301 _ ?side1 ?side2 A69.out).mono ?_); (case side1 => exact cb_ HR1 HB); (case side2 => exact HC1.out); rintro e w79 ⟨v302, rfl, ho0, hb⟩; refine ⟨_, rfl, ?_⟩; have n0_ := Aside0.mk (Kd.R_elder' (by (with_reducible repeat (first | apply Kd.R_alloc | apply Kd.R_drewN | apply Kd.R_drew)); exact HO_9.out) (Kd.R_base ho0) hb); have n1_ := Aside0.mk (Kd.R_elder' (by (with_reducible repeat (first | apply Kd.R_alloc | apply Kd.R_drewN | apply Kd.R_drew)); exact HO_278002.out) (Kd.R_base ho0) hb); have n2_ := Aside0.mk (Kd.R_elder' (by (with_reducible repeat (first | apply Kd.R_alloc | apply Kd.R_drewN | apply Kd.R_drew)); exact HO_284002.out) (Kd.R_base ho0) hb); have n3_ := Aside0.mk (Kd.R_elder' (by (with_reducible repeat (first | apply Kd.R_alloc | apply Kd.R_drewN | apply Kd.R_drew)); exact HO_294002.out) (Kd.R_base ho0) hb); have n4_ := Aside0.mk (Kd.R_elder' (by (with_reducible repeat (first | apply Kd.R_alloc | apply Kd.R_drewN | apply Kd.R_drew)); exact HO299.out) (Kd.R_base ho0) hb); have n5_ := Aside0.mk (Kd.R_lower (Kd.R_new' (Kd.R_new' (Kd.R_new' (Kd.R_new' (Kd.R_new' ho0 (Kd.R_lt (by (with_reducible repeat (first | apply Kd.R_alloc | apply Kd.R_drewN | apply Kd.R_drew)); exact HO_9.out))) (Kd.R_lt (by (with_reducible repeat (first | apply Kd.R_alloc | apply Kd.R_drewN | apply Kd.R_drew)); exact HO_278002.out))) (Kd.R_lt (by (with_reducible repeat (first | apply Kd.R_alloc | apply Kd.R_drewN | apply Kd.R_drew)); exact HO_284002.out))) (Kd.R_lt (by (with_reducible repeat (first | apply Kd.R_alloc | apply Kd.R_drewN | apply Kd.R_drew)); exact HO_294002.out))) (Kd.R_lt (by (with_reducible repeat (first | apply Kd.R_alloc | apply Kd.R_drewN | apply Kd.R_drew)); exact HO299.out))) (below_size bw_)); have n6_ := bb_ BK261 hb; have n7_ := bb_ BK277 hb; have n8_ := bb_ BK283 hb; have n9_ := bb_ BK293 hb; have n10_ := Aside0.mk (below_step bw_ hb); clear HO_9; clear HO_278002; clear HO_284002; clear HO_294002; clear HO299; clear BK261; clear BK277; clear BK283; clear BK293; clear HB; have HO_9 := n0_; have HO_278002 := n1_; have HO_284002 := n2_; have HO_294002 := n3_; have HO299 := n4_; have HO303 := n5_; have BK261 := n6_; have BK277 := n7_; have BK283 := n8_; have BK293 := n9_; have HB := n10_; clear n0_ n1_ n2_ n3_ n4_ n5_ n6_ n7_ n8_ n9_ n10_; (try clear hb); (try clear hb2); (try clear hk); (try clear hi); (try clear ho0); obtain ⟨Ao80, co80, eo80⟩ := Kd.R_slice HO303.out; subst eo80) | ((with_reducible refine gate_callee (f := 44) rfl ?_); refine goesB (some 60) Try.func44 #[.slice Ao39 t284.length co39, .slice Ao80 t301.length co80] ?_; (with_reducible refine (laws_eqIntS.calls kj15 _ _ t284 _ _ t301 true _ ?side1 ?side2 ?side3 ?side4 A70.out).mono ?_); (case side1 => repeat (first | exact (Kd.R_reads' HO_9.out).2.2 | (with_reducible refine Kd.C_alloc ?_ _) | (with_reducible refine Kd.C_drewN ?_ _) | (with_reducible refine Kd.C_drew ?_))); (case side2 => exact (Kd.R_reads' HO_9.out).2.1); (case side3 => repeat (first | exact (Kd.R_reads' HO303.out).2.2 | (with_reducible refine Kd.C_alloc ?_ _) | (with_reducible refine Kd.C_drewN ?_ _) | (with_reducible refine Kd.C_drew ?_))); (case side4 => exact (Kd.R_reads' HO303.out).2.1); rintro e w' ⟨rfl, ⟨nd, rfl⟩⟩; refine ⟨_, rfl, ?_⟩; have hnb81 := NB283_261.out; have hnc81 := NB261_283.out; have hnb82 := NB283_277.out; have hnc82 := NB277_283.out; have hnb83 := NB283_293.out; have hnc83 := NB293_283.out; obtain ⟨hcz84_0, hcz84_1, hcz84_2, hfz84_0, hfz84_1, hfz84_2⟩ := bc3_ BK283) | ((with_reducible refine gate_callee (f := 20) rfl ?_); refine goesB (some 64) Try.func20 #[.agg #[.int .i64 t278, .int .i64 t279, .slice Ao36 t280.length co36], .int .i64 1] ?_; (with_reducible refine (laws_markChart.calls kj15 t278 t279 (fun k_ => some k_ = (.slice Ao36 t280.length co36 : Value).ownBlock) (.slice Ao36 t280.length co36) t280 1 t305 t306 w _ ?side1 ?side2 A72.out).mono ?_); (case side1 => repeat (first | (with_reducible first | exact HB.out | apply below_alloc | apply pw_below_drewN | apply below_drew1 | refine below_set ?_ GE261.out | refine below_set ?_ GE277.out | refine below_set ?_ GE283.out | refine below_set ?_ GE293.out) | exact HB.out)); (case side2 => exact Kd.R_tight rfl HO_284002.out); rintro e w85 ⟨rfl, hy0, hb, hkp⟩; refine ⟨_, rfl, ?_⟩; have n0_ := Aside0.mk (Kd.R_mono (ok' := fun k_ => some k_ ≠ (.slice Ao29 t273.length co29 : Value).ownBlock ∧ some k_ ≠ (.slice Ao36 t280.length co36 : Value).ownBlock ∧ some k_ ≠ (.slice Ao46 t289.length co46 : Value).ownBlock ∧ some k_ ≠ (.slice Ao77 t297.length co77 : Value).ownBlock ∧ some k_ ≠ (.slice Ao80 t301.length co80 : Value).ownBlock) (Kd.R_keptB (HO_9.out) hkp (fun k_ hk_ hs_ => (hk_.1.1.2.1) hs_)) (fun k_ hk_ => ⟨hk_.1.1.1.1, hk_.1.1.1.2.1, hk_.1.1.1.2.2, hk_.1.1.2, hk_.1.2⟩)); have n1_ := Aside0.mk (Kd.R_mono (ok' := fun k_ => some k_ ≠ (.slice Ao39 t284.length co39 : Value).ownBlock ∧ some k_ ≠ (.slice Ao36 t280.length co36 : Value).ownBlock ∧ some k_ ≠ (.slice Ao46 t289.length co46 : Value).ownBlock ∧ some k_ ≠ (.slice Ao77 t297.length co77 : Value).ownBlock ∧ some k_ ≠ (.slice Ao80 t301.length co80 : Value).ownBlock) (Kd.R_keptB (HO_278002.out) hkp (fun k_ hk_ hs_ => (hk_.1.1.2.1) hs_)) (fun k_ hk_ => ⟨hk_.1.1.1.1, hk_.1.1.1.2.1, hk_.1.1.1.2.2, hk_.1.1.2, hk_.1.2⟩)); have n2_ := Aside0.mk (Kd.R_reok rfl hy0 (fun k_ e_ => HO_284002.out.1 k_ e_)); have n3_ := Aside0.mk (Kd.R_mono (ok' := fun k_ => some k_ ≠ (.slice Ao39 t284.length co39 : Value).ownBlock ∧ some k_ ≠ (.slice Ao29 t273.length co29 : Value).ownBlock ∧ some k_ ≠ (.slice Ao36 t280.length co36 : Value).ownBlock ∧ some k_ ≠ (.slice Ao77 t297.length co77 : Value).ownBlock ∧ some k_ ≠ (.slice Ao80 t301.length co80 : Value).ownBlock) (Kd.R_keptB (HO_294002.out) hkp (fun k_ hk_ hs_ => (hk_.1.1.2.2) hs_)) (fun k_ hk_ => ⟨hk_.1.1.1.1, hk_.1.1.1.2.1, hk_.1.1.1.2.2, hk_.1.1.2, hk_.1.2⟩)); have n4_ := Aside0.mk (blk_kept (bk_ BK261) hkp (fun hs_ => (fun e_ => (Kd.R_ne HO_284002.out BK261.out (by decide)) e_) hs_)); have n5_ := Aside0.mk (blk_kept (bk_ BK277) hkp (fun hs_ => (fun e_ => (Kd.R_ne HO_284002.out BK277.out (by decide)) e_) hs_)); have n6_ := Aside0.mk (blk_kept (bk_ BK283) hkp (fun hs_ => (fun e_ => (Kd.R_ne HO_284002.out BK283.out (by decide)) e_) hs_)); have n7_ := Aside0.mk (blk_kept (bk_ BK293) hkp (fun hs_ => (fun e_ => (Kd.R_ne HO_284002.out BK293.out (by decide)) e_) hs_)); have n8_ := Aside0.mk (Kd.R_mono (ok' := fun k_ => some k_ ≠ (.slice Ao39 t284.length co39 : Value).ownBlock ∧ some k_ ≠ (.slice Ao29 t273.length co29 : Value).ownBlock ∧ some k_ ≠ (.slice Ao36 t280.length co36 : Value).ownBlock ∧ some k_ ≠ (.slice Ao46 t289.length co46 : Value).ownBlock ∧ some k_ ≠ (.slice Ao80 t301.length co80 : Value).ownBlock) (Kd.R_keptB (HO299.out) hkp (fun k_ hk_ hs_ => (hk_.1.1.2) hs_)) (fun k_ hk_ => ⟨hk_.1.1.1.1.1.2, hk_.1.1.1.1.2, hk_.1.1.1.2, hk_.1.1.2, hk_.1.2⟩)); have n9_ := Aside0.mk (Kd.R_mono (ok' := fun k_ => some k_ ≠ (.slice Ao39 t284.length co39 : Value).ownBlock ∧ some k_ ≠ (.slice Ao29 t273.length co29 : Value).ownBlock ∧ some k_ ≠ (.slice Ao36 t280.length co36 : Value).ownBlock ∧ some k_ ≠ (.slice Ao46 t289.length co46 : Value).ownBlock ∧ some k_ ≠ (.slice Ao77 t297.length co77 : Value).ownBlock) (Kd.R_keptB (HO303.out) hkp (fun k_ hk_ hs_ => (hk_.1.1.2) hs_)) (fun k_ hk_ => ⟨hk_.1.1.1.1.1.2, hk_.1.1.1.1.2, hk_.1.1.1.2, hk_.1.1.2, hk_.1.2⟩)); have n10_ := Aside0.mk (hb); clear HO_9; clear HO_278002; clear HO_284002; clear HO_294002; clear BK261; clear BK277; clear BK283; clear BK293; clear HO299; clear HO303; clear HB; have HO_9 := n0_; have HO_278002 := n1_; have HO_284002 := n2_; have HO_294002 := n3_; have BK261 := n4_; have BK277 := n5_; have BK283 := n6_; have BK293 := n7_; have HO299 := n8_; have HO303 := n9_; have HB := n10_; clear n0_ n1_ n2_ n3_ n4_ n5_ n6_ n7_ n8_ n9_ n10_; (try clear hb); (try clear hkp); (try clear hy0)) | ((with_reducible refine gate_callee (f := 45) rfl ?_); refine goesB (some 67) Try.func45 #[.slice Ao39 t284.length co39, .int .i64 t305] ?_; (with_reducible refine (laws_markIntS.calls kj15 (fun k_ => some k_ = (.slice Ao39 t284.length co39 : Value).ownBlock) (.slice Ao39 t284.length co39) t284 t305 t307 t308 w _ ?side1 ?side2 A73.out).mono ?_); (case side1 => repeat (first | (with_reducible first | exact HB.out | apply below_alloc | apply pw_below_drewN | apply below_drew1 | refine below_set ?_ GE261.out | refine below_set ?_ GE277.out | refine below_set ?_ GE283.out | refine below_set ?_ GE293.out) | exact HB.out)); (case side2 => exact Kd.R_tight rfl HO_9.out); rintro e w86 ⟨rfl, hy0, hb, hkp⟩; refine ⟨_, rfl, ?_⟩; have n0_ := Aside0.mk (Kd.R_reok rfl hy0 (fun k_ e_ => HO_9.out.1 k_ e_)); have n1_ := Aside0.mk (Kd.R_mono (ok' := fun k_ => some k_ ≠ (.slice Ao39 t284.length co39 : Value).ownBlock ∧ some k_ ≠ (.slice Ao36 t280.length co36 : Value).ownBlock ∧ some k_ ≠ (.slice Ao46 t289.length co46 : Value).ownBlock ∧ some k_ ≠ (.slice Ao77 t297.length co77 : Value).ownBlock ∧ some k_ ≠ (.slice Ao80 t301.length co80 : Value).ownBlock) (Kd.R_keptB (HO_278002.out) hkp (fun k_ hk_ hs_ => (hk_.1) hs_)) (fun k_ hk_ => ⟨hk_.1.1, hk_.1.2.1, hk_.1.2.2.1, hk_.1.2.2.2.1, hk_.1.2.2.2.2⟩)); have n2_ := Aside0.mk (Kd.R_mono (ok' := fun k_ => some k_ ≠ (.slice Ao39 t284.length co39 : Value).ownBlock ∧ some k_ ≠ (.slice Ao29 t273.length co29 : Value).ownBlock ∧ some k_ ≠ (.slice Ao46 t289.length co46 : Value).ownBlock ∧ some k_ ≠ (.slice Ao77 t297.length co77 : Value).ownBlock ∧ some k_ ≠ (.slice Ao80 t301.length co80 : Value).ownBlock) (Kd.R_keptB (HO_284002.out) hkp (fun k_ hk_ hs_ => (hk_.1.1.1) hs_)) (fun k_ hk_ => ⟨hk_.1.1.1.1, hk_.1.1.1.2.1, hk_.1.1.1.2.2, hk_.1.1.2, hk_.1.2⟩)); have n3_ := Aside0.mk (Kd.R_mono (ok' := fun k_ => some k_ ≠ (.slice Ao39 t284.length co39 : Value).ownBlock ∧ some k_ ≠ (.slice Ao29 t273.length co29 : Value).ownBlock ∧ some k_ ≠ (.slice Ao36 t280.length co36 : Value).ownBlock ∧ some k_ ≠ (.slice Ao77 t297.length co77 : Value).ownBlock ∧ some k_ ≠ (.slice Ao80 t301.length co80 : Value).ownBlock) (Kd.R_keptB (HO_294002.out) hkp (fun k_ hk_ hs_ => (hk_.1) hs_)) (fun k_ hk_ => ⟨hk_.1.1, hk_.1.2.1, hk_.1.2.2.1, hk_.1.2.2.2.1, hk_.1.2.2.2.2⟩)); have n4_ := Aside0.mk (blk_kept (bk_ BK261) hkp (fun hs_ => (fun e_ => (Kd.R_ne HO_9.out BK261.out (by decide)) e_) hs_)); have n5_ := Aside0.mk (blk_kept (bk_ BK277) hkp (fun hs_ => (fun e_ => (Kd.R_ne HO_9.out BK277.out (by decide)) e_) hs_)); have n6_ := Aside0.mk (blk_kept (bk_ BK283) hkp (fun hs_ => (fun e_ => (Kd.R_ne HO_9.out BK283.out (by decide)) e_) hs_)); have n7_ := Aside0.mk (blk_kept (bk_ BK293) hkp (fun hs_ => (fun e_ => (Kd.R_ne HO_9.out BK293.out (by decide)) e_) hs_)); have n8_ := Aside0.mk (Kd.R_mono (ok' := fun k_ => some k_ ≠ (.slice Ao39 t284.length co39 : Value).ownBlock ∧ some k_ ≠ (.slice Ao29 t273.length co29 : Value).ownBlock ∧ some k_ ≠ (.slice Ao36 t280.length co36 : Value).ownBlock ∧ some k_ ≠ (.slice Ao46 t289.length co46 : Value).ownBlock ∧ some k_ ≠ (.slice Ao80 t301.length co80 : Value).ownBlock) (Kd.R_keptB (HO299.out) hkp (fun k_ hk_ hs_ => (hk_.1) hs_)) (fun k_ hk_ => ⟨hk_.1.1, hk_.1.2.1, hk_.1.2.2.1, hk_.1.2.2.2.1, hk_.1.2.2.2.2⟩)); have n9_ := Aside0.mk (Kd.R_mono (ok' := fun k_ => some k_ ≠ (.slice Ao39 t284.length co39 : Value).ownBlock ∧ some k_ ≠ (.slice Ao29 t273.length co29 : Value).ownBlock ∧ some k_ ≠ (.slice Ao36 t280.length co36 : Value).ownBlock ∧ some k_ ≠ (.slice Ao46 t289.length co46 : Value).ownBlock ∧ some k_ ≠ (.slice Ao77 t297.length co77 : Value).ownBlock) (Kd.R_keptB (HO303.out) hkp (fun k_ hk_ hs_ => (hk_.1) hs_)) (fun k_ hk_ => ⟨hk_.1.1, hk_.1.2.1, hk_.1.2.2.1, hk_.1.2.2.2.1, hk_.1.2.2.2.2⟩)); have n10_ := Aside0.mk (hb); clear HO_9; clear HO_278002; clear HO_284002; clear HO_294002; clear BK261; clear BK277; clear BK283; clear BK293; clear HO299; clear HO303; clear HB; have HO_9 := n0_; have HO_278002 := n1_; have HO_284002 := n2_; have HO_294002 := n3_; have BK261 := n4_; have BK277 := n5_; have BK283 := n6_; have BK293 := n7_; have HO299 := n8_; have HO303 := n9_; have HB := n10_; clear n0_ n1_ n2_ n3_ n4_ n5_ n6_ n7_ n8_ n9_ n10_; (try clear hb); (try clear hkp); (try clear hy0)))
        (try simp only [Act.put, List.setIfInBounds_toArray, List.set_cons_zero, List.set_cons_succ])
        go_cut [80] (fun v80 wc => ∃ (kq : Nat) (x80_73 : Bool), v80 = .bool x80_73 ∧ Aside0 (laws_FnExactPutRing.j1 kq l1 t276 x80_73 a0_0 a0_1 l0_2 t271 t272 t273 t287 t288 t289 = some r) ∧ Aside0 (kq ≤ kj15) ∧ Aside0 (Kd.R (Kd.int .i64) 3 wc w.heap.size (fun k_ => some k_ ≠ ((.slice Ao36 t280.length co36) : Value).ownBlock ∧ some k_ ≠ ((.slice Ao46 t289.length co46) : Value).ownBlock) (.slice Ao29 t273.length co29) t273) ∧ Aside0 (Kd.R (Kd.int .i64) 3 wc w.heap.size (fun k_ => some k_ ≠ ((.slice Ao29 t273.length co29) : Value).ownBlock ∧ some k_ ≠ ((.slice Ao46 t289.length co46) : Value).ownBlock) (.slice Ao36 t280.length co36) t306) ∧ Aside0 (Kd.R (Kd.int .i64) 3 wc w.heap.size (fun k_ => some k_ ≠ ((.slice Ao29 t273.length co29) : Value).ownBlock ∧ some k_ ≠ ((.slice Ao36 t280.length co36) : Value).ownBlock) (.slice Ao46 t289.length co46) t289) ∧ Aside0 (wc.heap[gb261]? = some (.cells #[.int .i64 a0_0, .int .i64 a0_1, (.slice A0_2 l0_2.length c0_2)] 24 (0, 0))) ∧ Aside0 (wc.heap[gb277]? = some (.cells #[.int .i64 t271, .int .i64 t272, (.slice Ao29 t273.length co29)] 26 (0, 0))) ∧ Aside0 (wc.heap[gb283]? = some (.cells #[.int .i64 t278, .int .i64 t279, (.slice Ao36 t280.length co36)] 26 (0, 0))) ∧ Aside0 (wc.heap[gb293]? = some (.cells #[.int .i64 t287, .int .i64 t288, (.slice Ao46 t289.length co46)] 26 (0, 0))) ∧ Aside0 (Below w.heap.size w wc))
        case first =>
         have H := HC74.out
         clear HC74
         by_cases c87 : t307 < 0
         ·rw [if_pos c87] at H
          have c87b0 : decide (t307 < 0) = true := decide_eq_true c87
          clear c87
          (first | rw [c87b0] | (simp only [i64_w, i32_w]; rw [c87b0]) | skip)
          have H' := Aside0.mk H
          clear H
          go_wp2
          go_meet
          case rel => exact ⟨_, (true), (by first | rfl | (simp; done) | (simp [*]; done)), H', ⟨by have := HJ15.out; first | omega | exact Nat.le_refl _⟩, ⟨by (with_reducible repeat (first | apply Kd.R_alloc | apply Kd.R_drewN | apply Kd.R_drew)); exact Kd.R_mono HO_278002.out (fun _ hk => ⟨hk.2.1, hk.2.2.1⟩)⟩, ⟨by (with_reducible repeat (first | apply Kd.R_alloc | apply Kd.R_drewN | apply Kd.R_drew)); exact Kd.R_mono HO_284002.out (fun _ hk => ⟨hk.2.1, hk.2.2.1⟩)⟩, ⟨by (with_reducible repeat (first | apply Kd.R_alloc | apply Kd.R_drewN | apply Kd.R_drew)); exact Kd.R_mono HO_294002.out (fun _ hk => ⟨hk.2.1, hk.2.2.1⟩)⟩, ⟨bk_ BK261⟩, ⟨bk_ BK277⟩, ⟨bk_ BK283⟩, ⟨bk_ BK293⟩, ⟨bw_⟩⟩
         ·rw [if_neg c87] at H
          have c87b0 : decide (t307 < 0) = false := decide_eq_false c87
          clear c87
          (first | rw [c87b0] | (simp only [i64_w, i32_w]; rw [c87b0]) | skip)
          replace H := Option.bind_eq_some_iff.mp H
          obtain ⟨t309, A880, H⟩ := H
          replace H : (if t309 = true then (laws_FnExactPutRing.j1 kj15 l1 t276 (t292 != t276) a0_0 a0_1 l0_2 t271 t272 t273 t287 t288 t289) else (laws_FnExactPutRing.j1 kj15 l1 t276 true a0_0 a0_1 l0_2 t271 t272 t273 t287 t288 t289)) = some r := H
          have A88 := Aside0.mk A880
          clear A880
          by_cases c89 : t309 = true
          ·subst c89
           have H1 : (laws_FnExactPutRing.j1 kj15 l1 t276 (t292 != t276) a0_0 a0_1 l0_2 t271 t272 t273 t287 t288 t289) = some r := by rw [if_pos rfl] at H; exact H
           clear H
           have H := H1
           clear H1
           have H' := Aside0.mk H
           clear H
           have hnb90 := NB293_261.out
           have hnc90 := NB261_293.out
           have hnb91 := NB293_277.out
           have hnc91 := NB277_293.out
           have hnb92 := NB293_283.out
           have hnc92 := NB283_293.out
           obtain ⟨hcz93_0, hcz93_1, hcz93_2, hfz93_0, hfz93_1, hfz93_2⟩ := bc3_ BK293
           have hnb94 := NB277_261.out
           have hnc94 := NB261_277.out
           have hnb95 := NB277_283.out
           have hnc95 := NB283_277.out
           obtain ⟨hcz96_0, hcz96_1, hcz96_2, hfz96_0, hfz96_1, hfz96_2⟩ := bc3_ BK277
           go_wp2_with (first | (go_at_call 19; (with_reducible refine (laws_eqChart.calls kj15 t287 t288 _ _ t289 t271 t272 _ _ t273 true _ ?side1 ?side2 ?side3 ?side4 A88.out).mono ?_); (case side1 => repeat (first | exact (Kd.R_reads' HO_294002.out).2.2 | (with_reducible refine Kd.C_alloc ?_ _) | (with_reducible refine Kd.C_drewN ?_ _) | (with_reducible refine Kd.C_drew ?_))); (case side2 => exact (Kd.R_reads' HO_294002.out).2.1); (case side3 => repeat (first | exact (Kd.R_reads' HO_278002.out).2.2 | (with_reducible refine Kd.C_alloc ?_ _) | (with_reducible refine Kd.C_drewN ?_ _) | (with_reducible refine Kd.C_drew ?_))); (case side4 => exact (Kd.R_reads' HO_278002.out).2.1); rintro e w97 ⟨rfl, hb⟩; have n0_ := Aside0.mk (Kd.R_below (by (with_reducible repeat (first | apply Kd.R_alloc | apply Kd.R_drewN | apply Kd.R_drew)); exact HO_9.out) hb); have n1_ := Aside0.mk (Kd.R_below (by (with_reducible repeat (first | apply Kd.R_alloc | apply Kd.R_drewN | apply Kd.R_drew)); exact HO_278002.out) hb); have n2_ := Aside0.mk (Kd.R_below (by (with_reducible repeat (first | apply Kd.R_alloc | apply Kd.R_drewN | apply Kd.R_drew)); exact HO_284002.out) hb); have n3_ := Aside0.mk (Kd.R_below (by (with_reducible repeat (first | apply Kd.R_alloc | apply Kd.R_drewN | apply Kd.R_drew)); exact HO_294002.out) hb); have n4_ := Aside0.mk (Kd.R_below (by (with_reducible repeat (first | apply Kd.R_alloc | apply Kd.R_drewN | apply Kd.R_drew)); exact HO299.out) hb); have n5_ := Aside0.mk (Kd.R_below (by (with_reducible repeat (first | apply Kd.R_alloc | apply Kd.R_drewN | apply Kd.R_drew)); exact HO303.out) hb); have n6_ := bb_ BK261 hb; have n7_ := bb_ BK277 hb; have n8_ := bb_ BK283 hb; have n9_ := bb_ BK293 hb; have n10_ := Aside0.mk (below_step bw_ hb); clear HO_9; clear HO_278002; clear HO_284002; clear HO_294002; clear HO299; clear HO303; clear BK261; clear BK277; clear BK283; clear BK293; clear HB; have HO_9 := n0_; have HO_278002 := n1_; have HO_284002 := n2_; have HO_294002 := n3_; have HO299 := n4_; have HO303 := n5_; have BK261 := n6_; have BK277 := n7_; have BK283 := n8_; have BK293 := n9_; have HB := n10_; clear n0_ n1_ n2_ n3_ n4_ n5_ n6_ n7_ n8_ n9_ n10_; (try clear hb); (try clear hb2); (try clear hk); (try clear hi)))
           go_meet
           case rel => exact ⟨_, ((t292 != t276)), (by first | rfl | (simp; done) | (simp [*]; done)), H', ⟨by have := HJ15.out; first | omega | exact Nat.le_refl _⟩, ⟨by (with_reducible repeat (first | apply Kd.R_alloc | apply Kd.R_drewN | apply Kd.R_drew)); exact Kd.R_mono HO_278002.out (fun _ hk => ⟨hk.2.1, hk.2.2.1⟩)⟩, ⟨by (with_reducible repeat (first | apply Kd.R_alloc | apply Kd.R_drewN | apply Kd.R_drew)); exact Kd.R_mono HO_284002.out (fun _ hk => ⟨hk.2.1, hk.2.2.1⟩)⟩, ⟨by (with_reducible repeat (first | apply Kd.R_alloc | apply Kd.R_drewN | apply Kd.R_drew)); exact Kd.R_mono HO_294002.out (fun _ hk => ⟨hk.2.1, hk.2.2.1⟩)⟩, ⟨bk_ BK261⟩, ⟨bk_ BK277⟩, ⟨bk_ BK283⟩, ⟨bk_ BK293⟩, ⟨bw_⟩⟩
          ·replace c89 := Bool.eq_false_iff.mpr c89
           subst c89
           have H1 : (laws_FnExactPutRing.j1 kj15 l1 t276 true a0_0 a0_1 l0_2 t271 t272 t273 t287 t288 t289) = some r := by rw [if_neg (show ¬ (false = true) by decide)] at H; exact H
           clear H
           have H := H1
           clear H1
           have H' := Aside0.mk H
           clear H
           have hnb98 := NB293_261.out
           have hnc98 := NB261_293.out
           have hnb99 := NB293_277.out
           have hnc99 := NB277_293.out
           have hnb100 := NB293_283.out
           have hnc100 := NB283_293.out
           obtain ⟨hcz101_0, hcz101_1, hcz101_2, hfz101_0, hfz101_1, hfz101_2⟩ := bc3_ BK293
           have hnb102 := NB277_261.out
           have hnc102 := NB261_277.out
           have hnb103 := NB277_283.out
           have hnc103 := NB283_277.out
           obtain ⟨hcz104_0, hcz104_1, hcz104_2, hfz104_0, hfz104_1, hfz104_2⟩ := bc3_ BK277
           go_wp2_with (first | (go_at_call 19; (with_reducible refine (laws_eqChart.calls kj15 t287 t288 _ _ t289 t271 t272 _ _ t273 false _ ?side1 ?side2 ?side3 ?side4 A88.out).mono ?_); (case side1 => repeat (first | exact (Kd.R_reads' HO_294002.out).2.2 | (with_reducible refine Kd.C_alloc ?_ _) | (with_reducible refine Kd.C_drewN ?_ _) | (with_reducible refine Kd.C_drew ?_))); (case side2 => exact (Kd.R_reads' HO_294002.out).2.1); (case side3 => repeat (first | exact (Kd.R_reads' HO_278002.out).2.2 | (with_reducible refine Kd.C_alloc ?_ _) | (with_reducible refine Kd.C_drewN ?_ _) | (with_reducible refine Kd.C_drew ?_))); (case side4 => exact (Kd.R_reads' HO_278002.out).2.1); rintro e w105 ⟨rfl, hb⟩; have n0_ := Aside0.mk (Kd.R_below (by (with_reducible repeat (first | apply Kd.R_alloc | apply Kd.R_drewN | apply Kd.R_drew)); exact HO_9.out) hb); have n1_ := Aside0.mk (Kd.R_below (by (with_reducible repeat (first | apply Kd.R_alloc | apply Kd.R_drewN | apply Kd.R_drew)); exact HO_278002.out) hb); have n2_ := Aside0.mk (Kd.R_below (by (with_reducible repeat (first | apply Kd.R_alloc | apply Kd.R_drewN | apply Kd.R_drew)); exact HO_284002.out) hb); have n3_ := Aside0.mk (Kd.R_below (by (with_reducible repeat (first | apply Kd.R_alloc | apply Kd.R_drewN | apply Kd.R_drew)); exact HO_294002.out) hb); have n4_ := Aside0.mk (Kd.R_below (by (with_reducible repeat (first | apply Kd.R_alloc | apply Kd.R_drewN | apply Kd.R_drew)); exact HO299.out) hb); have n5_ := Aside0.mk (Kd.R_below (by (with_reducible repeat (first | apply Kd.R_alloc | apply Kd.R_drewN | apply Kd.R_drew)); exact HO303.out) hb); have n6_ := bb_ BK261 hb; have n7_ := bb_ BK277 hb; have n8_ := bb_ BK283 hb; have n9_ := bb_ BK293 hb; have n10_ := Aside0.mk (below_step bw_ hb); clear HO_9; clear HO_278002; clear HO_284002; clear HO_294002; clear HO299; clear HO303; clear BK261; clear BK277; clear BK283; clear BK293; clear HB; have HO_9 := n0_; have HO_278002 := n1_; have HO_284002 := n2_; have HO_294002 := n3_; have HO299 := n4_; have HO303 := n5_; have BK261 := n6_; have BK277 := n7_; have BK283 := n8_; have BK293 := n9_; have HB := n10_; clear n0_ n1_ n2_ n3_ n4_ n5_ n6_ n7_ n8_ n9_ n10_; (try clear hb); (try clear hb2); (try clear hk); (try clear hi)))
           go_meet
           case rel => exact ⟨_, (true), (by first | rfl | (simp; done) | (simp [*]; done)), H', ⟨by have := HJ15.out; first | omega | exact Nat.le_refl _⟩, ⟨by (with_reducible repeat (first | apply Kd.R_alloc | apply Kd.R_drewN | apply Kd.R_drew)); exact Kd.R_mono HO_278002.out (fun _ hk => ⟨hk.2.1, hk.2.2.1⟩)⟩, ⟨by (with_reducible repeat (first | apply Kd.R_alloc | apply Kd.R_drewN | apply Kd.R_drew)); exact Kd.R_mono HO_284002.out (fun _ hk => ⟨hk.2.1, hk.2.2.1⟩)⟩, ⟨by (with_reducible repeat (first | apply Kd.R_alloc | apply Kd.R_drewN | apply Kd.R_drew)); exact Kd.R_mono HO_294002.out (fun _ hk => ⟨hk.2.1, hk.2.2.1⟩)⟩, ⟨bk_ BK261⟩, ⟨bk_ BK277⟩, ⟨bk_ BK283⟩, ⟨bk_ BK293⟩, ⟨bw_⟩⟩
        case rest =>
         clear HC74
         try clear c1
         try clear c2
         try clear p2
         try clear c3
         try clear c3b0
         try clear c3b1
         try clear c4
         try clear c5
         try clear c6
         try clear c6b0
         try clear c7
         try clear c8
         try clear c9
         try clear c10
         try clear c11
         try clear c15
         try clear c17
         try clear c19
         try clear c20
         try clear c27
         try clear c33
         try clear c34
         try clear c41
         try clear c42
         try clear c43
         try clear c44
         try clear c45
         try clear c48
         try clear c49
         try clear c50
         try clear c51
         try clear c53
         try clear c54
         try clear c57
         try clear c58
         try clear c59
         try clear c61
         try clear c62
         try clear c65
         try clear c68
         try clear c71
         try clear c81
         try clear c82
         try clear c83
         try clear c87
         try clear c87b0
         try clear c89
         try clear c90
         try clear c91
         try clear c92
         try clear c94
         try clear c95
         try clear c98
         try clear c99
         try clear c100
         try clear c102
         try clear c103
         try clear hcz101_0
         try clear hcz101_1
         try clear hcz101_2
         try clear hcz104_0
         try clear hcz104_1
         try clear hcz104_2
         try clear hcz18_0
         try clear hcz18_1
         try clear hcz18_2
         try clear hcz20_0
         try clear hcz20_1
         try clear hcz20_2
         try clear hcz28_0
         try clear hcz28_1
         try clear hcz28_2
         try clear hcz30_0
         try clear hcz30_1
         try clear hcz30_2
         try clear hcz35_0
         try clear hcz35_1
         try clear hcz35_2
         try clear hcz38_0
         try clear hcz38_1
         try clear hcz38_2
         try clear hcz45_0
         try clear hcz45_1
         try clear hcz45_2
         try clear hcz52_0
         try clear hcz52_1
         try clear hcz52_2
         try clear hcz55_0
         try clear hcz55_1
         try clear hcz55_2
         try clear hcz60_0
         try clear hcz60_1
         try clear hcz60_2
         try clear hcz63_0
         try clear hcz63_1
         try clear hcz63_2
         try clear hcz84_0
         try clear hcz84_1
         try clear hcz84_2
         try clear hcz8_0
         try clear hcz8_1
         try clear hcz8_2
         try clear hcz93_0
         try clear hcz93_1
         try clear hcz93_2
         try clear hcz96_0
         try clear hcz96_1
         try clear hcz96_2
         try clear hfz101_0
         try clear hfz101_1
         try clear hfz101_2
         try clear hfz104_0
         try clear hfz104_1
         try clear hfz104_2
         try clear hfz18_0
         try clear hfz18_1
         try clear hfz18_2
         try clear hfz20_0
         try clear hfz20_1
         try clear hfz20_2
         try clear hfz28_0
         try clear hfz28_1
         try clear hfz28_2
         try clear hfz30_0
         try clear hfz30_1
         try clear hfz30_2
         try clear hfz35_0
         try clear hfz35_1
         try clear hfz35_2
         try clear hfz38_0
         try clear hfz38_1
         try clear hfz38_2
         try clear hfz45_0
         try clear hfz45_1
         try clear hfz45_2
         try clear hfz52_0
         try clear hfz52_1
         try clear hfz52_2
         try clear hfz55_0
         try clear hfz55_1
         try clear hfz55_2
         try clear hfz60_0
         try clear hfz60_1
         try clear hfz60_2
         try clear hfz63_0
         try clear hfz63_1
         try clear hfz63_2
         try clear hfz84_0
         try clear hfz84_1
         try clear hfz84_2
         try clear hfz8_0
         try clear hfz8_1
         try clear hfz8_2
         try clear hfz93_0
         try clear hfz93_1
         try clear hfz93_2
         try clear hfz96_0
         try clear hfz96_1
         try clear hfz96_2
         try clear p2
         obtain ⟨kq, x80_73, rfl, HA, HJ73, HO_278002, HO_284002, HO_294002, BK261, BK277, BK283, BK293, HB⟩ := hcut
         have hl284002_73 := (Kd.R_reads' HO_284002.out).1
         rw [hl284002_73] at HO_284002
         (try simp only [hl284002_73])
         (try simp only [hl284002_73] at BK261)
         (try simp only [hl284002_73] at BK277)
         (try simp only [hl284002_73] at BK283)
         (try simp only [hl284002_73] at BK293)
         (try simp only [hl284002_73] at HO_278002)
         (try simp only [hl284002_73] at HO_294002)
         cases kq with
         | zero => exact absurd HA.out (by simp [laws_FnExactPutRing.j1])
         | succ kj73 =>
          have H := HA.out
          clear HA
          simp only [laws_FnExactPutRing.j1] at H
          by_cases c106 : x80_73 = true
          ·subst c106
           have H1 : (some false) = some r := by rw [if_pos rfl] at H; exact H
           clear H
           have H := H1
           clear H1
           exact absurd (H.trans (congrArg some HRT.out)) (by simp)
          ·replace c106 := Bool.eq_false_iff.mpr c106
           subst c106
           have H1 : ((laws_markChart.f kj73 t287 t288 t289 1).bind fun bt310 => ((laws_heldChart.f kj73 t287 t288 bt310.2 1).bind fun t312 => (if t312 < 0 then (some false) else (if t312 = bt310.1 then ((laws_toChart.f kj73 a0_0 a0_1 l0_2).bind fun bt313 => ((laws_toIntS.f kj73 l1).bind fun t318 => ((impl_PutRing.f kj73 bt313.1 bt313.2.1 bt313.2.2 t318).bind fun bt321 => ((laws_eqChart.f kj73 bt321.1 bt321.2.1 bt321.2.2.1 t271 t272 t273).bind fun t328 => (if t328 = true then (laws_FnExactPutRing.j2 kj73 bt310.1 (bt321.2.2.2 != t276) t287 t288 bt310.2) else (laws_FnExactPutRing.j2 kj73 bt310.1 true t287 t288 bt310.2)))))) else (some false))))) = some r := by rw [if_neg (show ¬ (false = true) by decide)] at H; exact H
           clear H
           have H := H1
           clear H1
           replace H := Option.bind_eq_some_iff.mp H
           obtain ⟨⟨t310, t311⟩, A1070, H⟩ := H
           replace H : ((laws_heldChart.f kj73 t287 t288 t311 1).bind fun t312 => (if t312 < 0 then (some false) else (if t312 = t310 then ((laws_toChart.f kj73 a0_0 a0_1 l0_2).bind fun bt313 => ((laws_toIntS.f kj73 l1).bind fun t318 => ((impl_PutRing.f kj73 bt313.1 bt313.2.1 bt313.2.2 t318).bind fun bt321 => ((laws_eqChart.f kj73 bt321.1 bt321.2.1 bt321.2.2.1 t271 t272 t273).bind fun t328 => (if t328 = true then (laws_FnExactPutRing.j2 kj73 t310 (bt321.2.2.2 != t276) t287 t288 t311) else (laws_FnExactPutRing.j2 kj73 t310 true t287 t288 t311)))))) else (some false)))) = some r := H
           have A107 := Aside0.mk A1070
           clear A1070
           replace H := Option.bind_eq_some_iff.mp H
           obtain ⟨t312, A1080, H⟩ := H
           replace H : (if t312 < 0 then (some false) else (if t312 = t310 then ((laws_toChart.f kj73 a0_0 a0_1 l0_2).bind fun bt313 => ((laws_toIntS.f kj73 l1).bind fun t318 => ((impl_PutRing.f kj73 bt313.1 bt313.2.1 bt313.2.2 t318).bind fun bt321 => ((laws_eqChart.f kj73 bt321.1 bt321.2.1 bt321.2.2.1 t271 t272 t273).bind fun t328 => (if t328 = true then (laws_FnExactPutRing.j2 kj73 t310 (bt321.2.2.2 != t276) t287 t288 t311) else (laws_FnExactPutRing.j2 kj73 t310 true t287 t288 t311)))))) else (some false))) = some r := H
           have A108 := Aside0.mk A1080
           clear A1080
           by_cases c109 : t312 < 0
           ·rw [if_pos c109] at H
            have c109b0 : decide (t312 < 0) = true := decide_eq_true c109
            clear c109
            exact absurd (H.trans (congrArg some HRT.out)) (by simp)
           ·rw [if_neg c109] at H
            have c109b0 : decide (t312 < 0) = false := decide_eq_false c109
            clear c109
            by_cases c110 : t312 = t310
            ·rw [if_pos c110] at H
             have c110b0 : (t312 == t310) = true := beq_iff_eq.mpr c110
             have c110b1 : (t312 != t310) = false := bne_eq_false_iff_eq.mpr c110
             clear c110
             replace H := Option.bind_eq_some_iff.mp H
             obtain ⟨⟨t313, t314, t315⟩, A1110, H⟩ := H
             replace H : ((laws_toIntS.f kj73 l1).bind fun t318 => ((impl_PutRing.f kj73 t313 t314 t315 t318).bind fun bt321 => ((laws_eqChart.f kj73 bt321.1 bt321.2.1 bt321.2.2.1 t271 t272 t273).bind fun t328 => (if t328 = true then (laws_FnExactPutRing.j2 kj73 t310 (bt321.2.2.2 != t276) t287 t288 t311) else (laws_FnExactPutRing.j2 kj73 t310 true t287 t288 t311))))) = some r := H
             have A111 := Aside0.mk A1110
             clear A1110
             replace H := Option.bind_eq_some_iff.mp H
             obtain ⟨t318, A1120, H⟩ := H
             replace H : ((impl_PutRing.f kj73 t313 t314 t315 t318).bind fun bt321 => ((laws_eqChart.f kj73 bt321.1 bt321.2.1 bt321.2.2.1 t271 t272 t273).bind fun t328 => (if t328 = true then (laws_FnExactPutRing.j2 kj73 t310 (bt321.2.2.2 != t276) t287 t288 t311) else (laws_FnExactPutRing.j2 kj73 t310 true t287 t288 t311)))) = some r := H
             have A112 := Aside0.mk A1120
             clear A1120
             replace H := Option.bind_eq_some_iff.mp H
             obtain ⟨⟨t321, t322, t323, t326⟩, A1130, H⟩ := H
             replace H : ((laws_eqChart.f kj73 t321 t322 t323 t271 t272 t273).bind fun t328 => (if t328 = true then (laws_FnExactPutRing.j2 kj73 t310 (t326 != t276) t287 t288 t311) else (laws_FnExactPutRing.j2 kj73 t310 true t287 t288 t311))) = some r := H
             have A113 := Aside0.mk A1130
             clear A1130
             have HC114 := Aside0.mk H
             clear H
             have hnb115 := NB293_261.out
             have hnc115 := NB261_293.out
             have hnb116 := NB293_277.out
             have hnc116 := NB277_293.out
             have hnb117 := NB293_283.out
             have hnc117 := NB283_293.out
             obtain ⟨hcz118_0, hcz118_1, hcz118_2, hfz118_0, hfz118_1, hfz118_2⟩ := bc3_ BK293
             go_upto_region 31 with (first | ((with_reducible refine gate_callee (f := 20) rfl ?_); refine goesB (some 83) Try.func20 #[.agg #[.int .i64 t287, .int .i64 t288, .slice Ao46 t289.length co46], .int .i64 1] ?_; (with_reducible refine (laws_markChart.calls kj73 t287 t288 (fun k_ => some k_ = (.slice Ao46 t289.length co46 : Value).ownBlock) (.slice Ao46 t289.length co46) t289 1 t310 t311 w _ ?side1 ?side2 A107.out).mono ?_); (case side1 => repeat (first | (with_reducible first | exact HB.out | apply below_alloc | apply pw_below_drewN | apply below_drew1 | refine below_set ?_ GE261.out | refine below_set ?_ GE277.out | refine below_set ?_ GE283.out | refine below_set ?_ GE293.out) | exact HB.out)); (case side2 => exact Kd.R_tight rfl HO_294002.out); rintro e w119 ⟨rfl, hy0, hb, hkp⟩; refine ⟨_, rfl, ?_⟩; have n0_ := Aside0.mk (Kd.R_mono (ok' := fun k_ => some k_ ≠ (.slice Ao36 t306.length co36 : Value).ownBlock ∧ some k_ ≠ (.slice Ao46 t289.length co46 : Value).ownBlock) (Kd.R_keptB (HO_278002.out) hkp (fun k_ hk_ hs_ => (hk_.2) hs_)) (fun k_ hk_ => ⟨hk_.1.1, hk_.1.2⟩)); have n1_ := Aside0.mk (Kd.R_mono (ok' := fun k_ => some k_ ≠ (.slice Ao29 t273.length co29 : Value).ownBlock ∧ some k_ ≠ (.slice Ao46 t289.length co46 : Value).ownBlock) (Kd.R_keptB (HO_284002.out) hkp (fun k_ hk_ hs_ => (hk_.2) hs_)) (fun k_ hk_ => ⟨hk_.1.1, hk_.1.2⟩)); have n2_ := Aside0.mk (Kd.R_reok rfl hy0 (fun k_ e_ => HO_294002.out.1 k_ e_)); have n3_ := Aside0.mk (blk_kept (bk_ BK261) hkp (fun hs_ => (fun e_ => (Kd.R_ne HO_294002.out BK261.out (by decide)) e_) hs_)); have n4_ := Aside0.mk (blk_kept (bk_ BK277) hkp (fun hs_ => (fun e_ => (Kd.R_ne HO_294002.out BK277.out (by decide)) e_) hs_)); have n5_ := Aside0.mk (blk_kept (bk_ BK283) hkp (fun hs_ => (fun e_ => (Kd.R_ne HO_294002.out BK283.out (by decide)) e_) hs_)); have n6_ := Aside0.mk (blk_kept (bk_ BK293) hkp (fun hs_ => (fun e_ => (Kd.R_ne HO_294002.out BK293.out (by decide)) e_) hs_)); have n7_ := Aside0.mk (hb); clear HO_278002; clear HO_284002; clear HO_294002; clear BK261; clear BK277; clear BK283; clear BK293; clear HB; have HO_278002 := n0_; have HO_284002 := n1_; have HO_294002 := n2_; have BK261 := n3_; have BK277 := n4_; have BK283 := n5_; have BK293 := n6_; have HB := n7_; clear n0_ n1_ n2_ n3_ n4_ n5_ n6_ n7_; (try clear hb); (try clear hkp); (try clear hy0); obtain ⟨hcz120_0, hcz120_1, hcz120_2, hfz120_0, hfz120_1, hfz120_2⟩ := bc3_ BK293) | ((with_reducible refine gate_callee (f := 21) rfl ?_); refine goesL_ (some 86) rfl rfl Try.func21 (by kernel_rfl) rfl #[.agg #[.int .i64 t287, .int .i64 t288, .slice Ao46 t311.length co46], .int .i64 1] rfl (by (try simp only [List.map_toArray, List.map_cons, List.map_nil]); first | done | (rw [show t311.length = t289.length from (Kd.R_reads' HO_294002.out).1.symm] <;> rfl) | rfl | (simp only [List.length_drop, List.length_take]; rfl)) ?_; (with_reducible refine (laws_heldChart.calls kj73 t287 t288 _ _ t311 1 t312 _ ?side1 ?side2 A108.out).mono ?_); (case side1 => repeat (first | exact (Kd.R_reads' HO_294002.out).2.2 | (with_reducible refine Kd.C_alloc ?_ _) | (with_reducible refine Kd.C_drewN ?_ _) | (with_reducible refine Kd.C_drew ?_))); (case side2 => rw [show t311.length = t289.length from (Kd.R_reads' HO_294002.out).1.symm]; exact (Kd.R_reads' HO_294002.out).2.1); rintro e w121 ⟨rfl, hb⟩; refine ⟨_, rfl, ?_⟩; have n0_ := Aside0.mk (Kd.R_below (by (with_reducible repeat (first | apply Kd.R_alloc | apply Kd.R_drewN | apply Kd.R_drew)); exact HO_278002.out) hb); have n1_ := Aside0.mk (Kd.R_below (by (with_reducible repeat (first | apply Kd.R_alloc | apply Kd.R_drewN | apply Kd.R_drew)); exact HO_284002.out) hb); have n2_ := Aside0.mk (Kd.R_below (by (with_reducible repeat (first | apply Kd.R_alloc | apply Kd.R_drewN | apply Kd.R_drew)); exact HO_294002.out) hb); have n3_ := bb_ BK261 hb; have n4_ := bb_ BK277 hb; have n5_ := bb_ BK283 hb; have n6_ := bb_ BK293 hb; have n7_ := Aside0.mk (below_step bw_ hb); clear HO_278002; clear HO_284002; clear HO_294002; clear BK261; clear BK277; clear BK283; clear BK293; clear HB; have HO_278002 := n0_; have HO_284002 := n1_; have HO_294002 := n2_; have BK261 := n3_; have BK277 := n4_; have BK283 := n5_; have BK293 := n6_; have HB := n7_; clear n0_ n1_ n2_ n3_ n4_ n5_ n6_ n7_; (try clear hb); (try clear hb2); (try clear hk); (try clear hi); have hnb122 := NB261_277.out; have hnc122 := NB277_261.out; have hnb123 := NB261_283.out; have hnc123 := NB283_261.out; obtain ⟨hcz124_0, hcz124_1, hcz124_2, hfz124_0, hfz124_1, hfz124_2⟩ := bc3_ BK261) | ((with_reducible refine gate_callee (f := 17) rfl ?_); refine goesB (some 94) Try.func17 #[.agg #[.int .i64 a0_0, .int .i64 a0_1, .slice A0_2 l0_2.length c0_2]] ?_; (with_reducible refine (laws_toChart.calls kj73 a0_0 a0_1 _ _ l0_2 t313 t314 t315 _ ?side1 ?side2 A111.out).mono ?_); (case side1 => exact cb_ HR0_2 HB); (case side2 => exact HC0_2.out); rintro e w125 ⟨v316, rfl, ho0, hb⟩; refine ⟨_, rfl, ?_⟩; have n0_ := Aside0.mk (Kd.R_elder' (by (with_reducible repeat (first | apply Kd.R_alloc | apply Kd.R_drewN | apply Kd.R_drew)); exact HO_278002.out) (Kd.R_base ho0) hb); have n1_ := Aside0.mk (Kd.R_elder' (by (with_reducible repeat (first | apply Kd.R_alloc | apply Kd.R_drewN | apply Kd.R_drew)); exact HO_284002.out) (Kd.R_base ho0) hb); have n2_ := Aside0.mk (Kd.R_elder' (by (with_reducible repeat (first | apply Kd.R_alloc | apply Kd.R_drewN | apply Kd.R_drew)); exact HO_294002.out) (Kd.R_base ho0) hb); have n3_ := Aside0.mk (Kd.R_lower (Kd.R_new' (Kd.R_new' (Kd.R_new' ho0 (Kd.R_lt (by (with_reducible repeat (first | apply Kd.R_alloc | apply Kd.R_drewN | apply Kd.R_drew)); exact HO_278002.out))) (Kd.R_lt (by (with_reducible repeat (first | apply Kd.R_alloc | apply Kd.R_drewN | apply Kd.R_drew)); exact HO_284002.out))) (Kd.R_lt (by (with_reducible repeat (first | apply Kd.R_alloc | apply Kd.R_drewN | apply Kd.R_drew)); exact HO_294002.out))) (below_size bw_)); have n4_ := bb_ BK261 hb; have n5_ := bb_ BK277 hb; have n6_ := bb_ BK283 hb; have n7_ := bb_ BK293 hb; have n8_ := Aside0.mk (below_step bw_ hb); clear HO_278002; clear HO_284002; clear HO_294002; clear BK261; clear BK277; clear BK283; clear BK293; clear HB; have HO_278002 := n0_; have HO_284002 := n1_; have HO_294002 := n2_; have HO317 := n3_; have BK261 := n4_; have BK277 := n5_; have BK283 := n6_; have BK293 := n7_; have HB := n8_; clear n0_ n1_ n2_ n3_ n4_ n5_ n6_ n7_ n8_; (try clear hb); (try clear hb2); (try clear hk); (try clear hi); (try clear ho0)) | ((with_reducible refine gate_callee (f := 42) rfl ?_); refine goesB (some 96) Try.func42 #[.slice A1 l1.length c1] ?_; (with_reducible refine (laws_toIntS.calls kj73 _ _ l1 t318 _ ?side1 ?side2 A112.out).mono ?_); (case side1 => exact cb_ HR1 HB); (case side2 => exact HC1.out); rintro e w126 ⟨v319, rfl, ho0, hb⟩; refine ⟨_, rfl, ?_⟩; have n0_ := Aside0.mk (Kd.R_elder' (by (with_reducible repeat (first | apply Kd.R_alloc | apply Kd.R_drewN | apply Kd.R_drew)); exact HO_278002.out) (Kd.R_base ho0) hb); have n1_ := Aside0.mk (Kd.R_elder' (by (with_reducible repeat (first | apply Kd.R_alloc | apply Kd.R_drewN | apply Kd.R_drew)); exact HO_284002.out) (Kd.R_base ho0) hb); have n2_ := Aside0.mk (Kd.R_elder' (by (with_reducible repeat (first | apply Kd.R_alloc | apply Kd.R_drewN | apply Kd.R_drew)); exact HO_294002.out) (Kd.R_base ho0) hb); have n3_ := Aside0.mk (Kd.R_elder' (by (with_reducible repeat (first | apply Kd.R_alloc | apply Kd.R_drewN | apply Kd.R_drew)); exact HO317.out) (Kd.R_base ho0) hb); have n4_ := Aside0.mk (Kd.R_lower (Kd.R_new' (Kd.R_new' (Kd.R_new' (Kd.R_new' ho0 (Kd.R_lt (by (with_reducible repeat (first | apply Kd.R_alloc | apply Kd.R_drewN | apply Kd.R_drew)); exact HO_278002.out))) (Kd.R_lt (by (with_reducible repeat (first | apply Kd.R_alloc | apply Kd.R_drewN | apply Kd.R_drew)); exact HO_284002.out))) (Kd.R_lt (by (with_reducible repeat (first | apply Kd.R_alloc | apply Kd.R_drewN | apply Kd.R_drew)); exact HO_294002.out))) (Kd.R_lt (by (with_reducible repeat (first | apply Kd.R_alloc | apply Kd.R_drewN | apply Kd.R_drew)); exact HO317.out))) (below_size bw_)); have n5_ := bb_ BK261 hb; have n6_ := bb_ BK277 hb; have n7_ := bb_ BK283 hb; have n8_ := bb_ BK293 hb; have n9_ := Aside0.mk (below_step bw_ hb); clear HO_278002; clear HO_284002; clear HO_294002; clear HO317; clear BK261; clear BK277; clear BK283; clear BK293; clear HB; have HO_278002 := n0_; have HO_284002 := n1_; have HO_294002 := n2_; have HO317 := n3_; have HO320 := n4_; have BK261 := n5_; have BK277 := n6_; have BK283 := n7_; have BK293 := n8_; have HB := n9_; clear n0_ n1_ n2_ n3_ n4_ n5_ n6_ n7_ n8_ n9_; (try clear hb); (try clear hb2); (try clear hk); (try clear hi); (try clear ho0); obtain ⟨Ao127, co127, eo127⟩ := Kd.R_slice HO317.out; subst eo127; obtain ⟨Ao128, co128, eo128⟩ := Kd.R_slice HO320.out; subst eo128) | ((with_reducible refine gate_callee (f := 43) rfl ?_); refine goesB (some 97) Try.func43 #[.agg #[.int .i64 t313, .int .i64 t314, .slice Ao127 t315.length co127], .slice Ao128 t318.length co128] ?_; (with_reducible refine (impl_PutRing.calls kj73 t313 t314 _ _ t315 _ _ t318 t321 t322 t323 t326 _ ?side1 ?side2 ?side3 ?side4 A113.out).mono ?_); (case side1 => repeat (first | exact (Kd.R_reads' HO317.out).2.2 | (with_reducible refine Kd.C_alloc ?_ _) | (with_reducible refine Kd.C_drewN ?_ _) | (with_reducible refine Kd.C_drew ?_))); (case side2 => exact (Kd.R_reads' HO317.out).2.1); (case side3 => repeat (first | exact (Kd.R_reads' HO320.out).2.2 | (with_reducible refine Kd.C_alloc ?_ _) | (with_reducible refine Kd.C_drewN ?_ _) | (with_reducible refine Kd.C_drew ?_))); (case side4 => exact (Kd.R_reads' HO320.out).2.1); rintro e w129 ⟨v324, rfl, ho0, hb⟩; refine ⟨_, rfl, ?_⟩; have n0_ := Aside0.mk (Kd.R_elder' (by (with_reducible repeat (first | apply Kd.R_alloc | apply Kd.R_drewN | apply Kd.R_drew)); exact HO_278002.out) (Kd.R_base ho0) hb); have n1_ := Aside0.mk (Kd.R_elder' (by (with_reducible repeat (first | apply Kd.R_alloc | apply Kd.R_drewN | apply Kd.R_drew)); exact HO_284002.out) (Kd.R_base ho0) hb); have n2_ := Aside0.mk (Kd.R_elder' (by (with_reducible repeat (first | apply Kd.R_alloc | apply Kd.R_drewN | apply Kd.R_drew)); exact HO_294002.out) (Kd.R_base ho0) hb); have n3_ := Aside0.mk (Kd.R_elder' (by (with_reducible repeat (first | apply Kd.R_alloc | apply Kd.R_drewN | apply Kd.R_drew)); exact HO317.out) (Kd.R_base ho0) hb); have n4_ := Aside0.mk (Kd.R_elder' (by (with_reducible repeat (first | apply Kd.R_alloc | apply Kd.R_drewN | apply Kd.R_drew)); exact HO320.out) (Kd.R_base ho0) hb); have n5_ := Aside0.mk (Kd.R_lower (Kd.R_new' (Kd.R_new' (Kd.R_new' (Kd.R_new' (Kd.R_new' ho0 (Kd.R_lt (by (with_reducible repeat (first | apply Kd.R_alloc | apply Kd.R_drewN | apply Kd.R_drew)); exact HO_278002.out))) (Kd.R_lt (by (with_reducible repeat (first | apply Kd.R_alloc | apply Kd.R_drewN | apply Kd.R_drew)); exact HO_284002.out))) (Kd.R_lt (by (with_reducible repeat (first | apply Kd.R_alloc | apply Kd.R_drewN | apply Kd.R_drew)); exact HO_294002.out))) (Kd.R_lt (by (with_reducible repeat (first | apply Kd.R_alloc | apply Kd.R_drewN | apply Kd.R_drew)); exact HO317.out))) (Kd.R_lt (by (with_reducible repeat (first | apply Kd.R_alloc | apply Kd.R_drewN | apply Kd.R_drew)); exact HO320.out))) (below_size bw_)); have n6_ := bb_ BK261 hb; have n7_ := bb_ BK277 hb; have n8_ := bb_ BK283 hb; have n9_ := bb_ BK293 hb; have n10_ := Aside0.mk (below_step bw_ hb); clear HO_278002; clear HO_284002; clear HO_294002; clear HO317; clear HO320; clear BK261; clear BK277; clear BK283; clear BK293; clear HB; have HO_278002 := n0_; have HO_284002 := n1_; have HO_294002 := n2_; have HO317 := n3_; have HO320 := n4_; have HO325 := n5_; have BK261 := n6_; have BK277 := n7_; have BK283 := n8_; have BK293 := n9_; have HB := n10_; clear n0_ n1_ n2_ n3_ n4_ n5_ n6_ n7_ n8_ n9_ n10_; (try clear hb); (try clear hb2); (try clear hk); (try clear hi); (try clear ho0)) | (refine box_ (N := 15) (cs := #[.int .i64 0, .int .i64 0, .slice none 0 0]) (t := 26) ?_; intro gb327 hg w130 hbox hb; have n0_ := Aside0.mk (Kd.R_below (by (with_reducible repeat (first | apply Kd.R_alloc | apply Kd.R_drewN | apply Kd.R_drew)); exact HO_278002.out) hb); have n1_ := Aside0.mk (Kd.R_below (by (with_reducible repeat (first | apply Kd.R_alloc | apply Kd.R_drewN | apply Kd.R_drew)); exact HO_284002.out) hb); have n2_ := Aside0.mk (Kd.R_below (by (with_reducible repeat (first | apply Kd.R_alloc | apply Kd.R_drewN | apply Kd.R_drew)); exact HO_294002.out) hb); have n3_ := Aside0.mk (Kd.R_below (by (with_reducible repeat (first | apply Kd.R_alloc | apply Kd.R_drewN | apply Kd.R_drew)); exact HO317.out) hb); have n4_ := Aside0.mk (Kd.R_below (by (with_reducible repeat (first | apply Kd.R_alloc | apply Kd.R_drewN | apply Kd.R_drew)); exact HO320.out) hb); have n5_ := Aside0.mk (Kd.R_below (by (with_reducible repeat (first | apply Kd.R_alloc | apply Kd.R_drewN | apply Kd.R_drew)); exact HO325.out) hb); have n6_ := bb_ BK261 hb; have n7_ := bb_ BK277 hb; have n8_ := bb_ BK283 hb; have n9_ := bb_ BK293 hb; have n10_ := Aside0.mk (below_step bw_ hb); have n11_ := Aside0.mk (hbox); have n12_ := gz_ w hg; have n13_ := gz_ w hg; have n14_ := ne_ hg BK261; have n15_ := en_ hg BK261; have n16_ := ne_ hg BK277; have n17_ := en_ hg BK277; have n18_ := ne_ hg BK283; have n19_ := en_ hg BK283; have n20_ := ne_ hg BK293; have n21_ := en_ hg BK293; clear HO_278002; clear HO_284002; clear HO_294002; clear HO317; clear HO320; clear HO325; clear BK261; clear BK277; clear BK283; clear BK293; clear HB; have HO_278002 := n0_; have HO_284002 := n1_; have HO_294002 := n2_; have HO317 := n3_; have HO320 := n4_; have HO325 := n5_; have BK261 := n6_; have BK277 := n7_; have BK283 := n8_; have BK293 := n9_; have HB := n10_; have BK327 := n11_; have GW327 := n12_; have GE327 := n13_; have NB261_327 := n14_; have NB327_261 := n15_; have NB277_327 := n16_; have NB327_277 := n17_; have NB283_327 := n18_; have NB327_283 := n19_; have NB293_327 := n20_; have NB327_293 := n21_; clear n0_ n1_ n2_ n3_ n4_ n5_ n6_ n7_ n8_ n9_ n10_ n11_ n12_ n13_ n14_ n15_ n16_ n17_ n18_ n19_ n20_ n21_; clear hb hbox hg; have hnb131 := NB327_261.out; have hnc131 := NB261_327.out; have hnb132 := NB327_277.out; have hnc132 := NB277_327.out; have hnb133 := NB327_283.out; have hnc133 := NB283_327.out; have hnb134 := NB327_293.out; have hnc134 := NB293_327.out; obtain ⟨hcz135_0, hcz135_1, hcz135_2, hfz135_0, hfz135_1, hfz135_2⟩ := bc3_ BK327; obtain ⟨Ao136, co136, eo136⟩ := Kd.R_slice HO325.out; subst eo136))
             (try simp only [Act.put, List.setIfInBounds_toArray, List.set_cons_zero, List.set_cons_succ])
             go_cut [108] (fun v108 wc => ∃ (kq : Nat) (x108_113 : Bool), v108 = .bool x108_113 ∧ Aside0 (laws_FnExactPutRing.j2 kq t310 x108_113 t287 t288 t311 = some r) ∧ Aside0 (kq ≤ kj73) ∧ Aside0 (Kd.R (Kd.int .i64) 3 wc w.heap.size (fun k_ => some k_ ≠ ((.slice Ao36 t306.length co36) : Value).ownBlock ∧ some k_ ≠ ((.slice Ao46 t289.length co46) : Value).ownBlock ∧ some k_ ≠ ((.slice Ao136 t323.length co136) : Value).ownBlock) (.slice Ao29 t273.length co29) t273) ∧ Aside0 (Kd.R (Kd.int .i64) 3 wc w.heap.size (fun k_ => some k_ ≠ ((.slice Ao29 t273.length co29) : Value).ownBlock ∧ some k_ ≠ ((.slice Ao46 t289.length co46) : Value).ownBlock ∧ some k_ ≠ ((.slice Ao136 t323.length co136) : Value).ownBlock) (.slice Ao36 t306.length co36) t306) ∧ Aside0 (Kd.R (Kd.int .i64) 3 wc w.heap.size (fun k_ => some k_ ≠ ((.slice Ao29 t273.length co29) : Value).ownBlock ∧ some k_ ≠ ((.slice Ao36 t306.length co36) : Value).ownBlock ∧ some k_ ≠ ((.slice Ao136 t323.length co136) : Value).ownBlock) (.slice Ao46 t289.length co46) t311) ∧ Aside0 (Kd.R (Kd.int .i64) 3 wc w.heap.size (fun k_ => some k_ ≠ ((.slice Ao29 t273.length co29) : Value).ownBlock ∧ some k_ ≠ ((.slice Ao36 t306.length co36) : Value).ownBlock ∧ some k_ ≠ ((.slice Ao46 t289.length co46) : Value).ownBlock) (.slice Ao136 t323.length co136) t323) ∧ Aside0 (wc.heap[gb261]? = some (.cells #[.int .i64 a0_0, .int .i64 a0_1, (.slice A0_2 l0_2.length c0_2)] 24 (0, 0))) ∧ Aside0 (wc.heap[gb277]? = some (.cells #[.int .i64 t271, .int .i64 t272, (.slice Ao29 t273.length co29)] 26 (0, 0))) ∧ Aside0 (wc.heap[gb283]? = some (.cells #[.int .i64 t278, .int .i64 t279, (.slice Ao36 t306.length co36)] 26 (0, 0))) ∧ Aside0 (wc.heap[gb293]? = some (.cells #[.int .i64 t287, .int .i64 t288, (.slice Ao46 t289.length co46)] 26 (0, 0))) ∧ Aside0 (wc.heap[gb327]? = some (.cells #[.int .i64 t321, .int .i64 t322, (.slice Ao136 t323.length co136)] 26 (0, 0))) ∧ Aside0 (Below w.heap.size w wc))
             case first =>
              have H := HC114.out
              clear HC114
              replace H := Option.bind_eq_some_iff.mp H
              obtain ⟨t328, A1370, H⟩ := H
              replace H : (if t328 = true then (laws_FnExactPutRing.j2 kj73 t310 (t326 != t276) t287 t288 t311) else (laws_FnExactPutRing.j2 kj73 t310 true t287 t288 t311)) = some r := H
              have A137 := Aside0.mk A1370
              clear A1370
              by_cases c138 : t328 = true
              ·subst c138
               have H1 : (laws_FnExactPutRing.j2 kj73 t310 (t326 != t276) t287 t288 t311) = some r := by rw [if_pos rfl] at H; exact H
               clear H
               have H := H1
               clear H1
               have H' := Aside0.mk H
               clear H
               have hnb139 := NB327_261.out
               have hnc139 := NB261_327.out
               have hnb140 := NB327_277.out
               have hnc140 := NB277_327.out
               have hnb141 := NB327_283.out
               have hnc141 := NB283_327.out
               have hnb142 := NB327_293.out
               have hnc142 := NB293_327.out
               obtain ⟨hcz143_0, hcz143_1, hcz143_2, hfz143_0, hfz143_1, hfz143_2⟩ := bc3_ BK327
               have hnb144 := NB277_261.out
               have hnc144 := NB261_277.out
               have hnb145 := NB277_283.out
               have hnc145 := NB283_277.out
               have hnb146 := NB277_293.out
               have hnc146 := NB293_277.out
               obtain ⟨hcz147_0, hcz147_1, hcz147_2, hfz147_0, hfz147_1, hfz147_2⟩ := bc3_ BK277
               go_wp2_with (first | ((with_reducible refine gate_callee (f := 19) rfl ?_); refine goesB (some 102) Try.func19 #[.agg #[.int .i64 t321, .int .i64 t322, .slice Ao136 t323.length co136], .agg #[.int .i64 t271, .int .i64 t272, .slice Ao29 t273.length co29]] ?_; (with_reducible refine (laws_eqChart.calls kj73 t321 t322 _ _ t323 t271 t272 _ _ t273 true _ ?side1 ?side2 ?side3 ?side4 A137.out).mono ?_); (case side1 => refine (Kd.R_reads' (e := 3) (base := w.heap.size) (ok := fun k_ => (((((True ∧ some k_ ≠ (.slice Ao29 t273.length co29 : Value).ownBlock) ∧ some k_ ≠ (.slice Ao36 t306.length co36 : Value).ownBlock) ∧ some k_ ≠ (.slice Ao46 t289.length co46 : Value).ownBlock) ∧ some k_ ≠ (.slice Ao127 t315.length co127 : Value).ownBlock) ∧ some k_ ≠ (.slice Ao128 t318.length co128 : Value).ownBlock)) (n := t323.length) (c := co136) ?_).2.2; exact (by exact rf_ (Kd.R_types HO325.out BK327.out (by decide)) (fun _ h_ => h_.1))); (case side2 => exact (Kd.R_reads' HO325.out).2.1); (case side3 => refine (Kd.R_reads' (e := 3) (base := w.heap.size) (ok := fun k_ => ((((some k_ ≠ (.slice Ao36 t306.length co36 : Value).ownBlock ∧ some k_ ≠ (.slice Ao46 t289.length co46 : Value).ownBlock) ∧ some k_ ≠ (.slice Ao127 t315.length co127 : Value).ownBlock) ∧ some k_ ≠ (.slice Ao128 t318.length co128 : Value).ownBlock) ∧ some k_ ≠ (.slice Ao136 t323.length co136 : Value).ownBlock)) (n := t273.length) (c := co29) ?_).2.2; exact (by exact rf_ (Kd.R_types HO_278002.out BK327.out (by decide)) (fun _ h_ => h_.1))); (case side4 => exact (Kd.R_reads' HO_278002.out).2.1); rintro e w148 ⟨rfl, hb⟩; refine ⟨_, rfl, ?_⟩; replace HO_278002 := Aside0.mk (Kd.R_below (by exact rf_ (Kd.R_types HO_278002.out BK327.out (by decide)) (fun _ h_ => h_.1)) hb); replace HO_284002 := Aside0.mk (Kd.R_below (by exact rf_ (Kd.R_types HO_284002.out BK327.out (by decide)) (fun _ h_ => h_.1)) hb); replace HO_294002 := Aside0.mk (Kd.R_below (by exact rf_ (Kd.R_types HO_294002.out BK327.out (by decide)) (fun _ h_ => h_.1)) hb); replace HO317 := Aside0.mk (Kd.R_below (by exact rf_ (Kd.R_types HO317.out BK327.out (by decide)) (fun _ h_ => h_.1)) hb); replace HO320 := Aside0.mk (Kd.R_below (by exact rf_ (Kd.R_types HO320.out BK327.out (by decide)) (fun _ h_ => h_.1)) hb); replace HO325 := Aside0.mk (Kd.R_below (by exact rf_ (Kd.R_types HO325.out BK327.out (by decide)) (fun _ h_ => h_.1)) hb); replace BK261 := bb_ BK261 hb; replace BK277 := bb_ BK277 hb; replace BK283 := bb_ BK283 hb; replace BK293 := bb_ BK293 hb; replace BK327 := Aside0.mk (blk_below (g := gb327) (o := .cells #[.int .i64 t321, .int .i64 t322, .slice Ao136 t323.length co136] 26 (0, 0)) (bq_ BK327) hb); replace HB := Aside0.mk (below_step bw_ hb); (try clear hb); (try clear hb2); (try clear hk); (try clear hi)))
               go_meet
               case rel => exact ⟨_, ((t326 != t276)), (by first | rfl | (simp; done) | (simp [*]; done)), H', ⟨by have := HJ15.out; have := HJ73.out; first | omega | exact Nat.le_refl _⟩, ⟨by (try simp only [hl284002_73]); (with_reducible repeat (first | apply Kd.R_alloc | apply Kd.R_drewN | apply Kd.R_drew)); exact Kd.R_mono HO_278002.out (fun _ hk => ⟨hk.1.1.1.1, ⟨hk.1.1.1.2, hk.2⟩⟩)⟩, ⟨by (try simp only [hl284002_73]); (with_reducible repeat (first | apply Kd.R_alloc | apply Kd.R_drewN | apply Kd.R_drew)); exact Kd.R_mono HO_284002.out (fun _ hk => ⟨hk.1.1.1.1, ⟨hk.1.1.1.2, hk.2⟩⟩)⟩, ⟨by (try simp only [hl284002_73]); (with_reducible repeat (first | apply Kd.R_alloc | apply Kd.R_drewN | apply Kd.R_drew)); exact Kd.R_mono HO_294002.out (fun _ hk => ⟨hk.1.1.1.1, ⟨hk.1.1.1.2, hk.2⟩⟩)⟩, ⟨by (try simp only [hl284002_73]); (with_reducible repeat (first | apply Kd.R_alloc | apply Kd.R_drewN | apply Kd.R_drew)); exact Kd.R_mono HO325.out (fun _ hk => ⟨hk.1.1.1.1.2, ⟨hk.1.1.1.2, hk.1.1.2⟩⟩)⟩, ⟨by (try simp only [hl284002_73]); (with_reducible repeat (first | refine blk_drewN ?_ _ | refine blk_drew ?_ | refine blk_alloc ?_ _)); exact BK261.out⟩, ⟨by (try simp only [hl284002_73]); (with_reducible repeat (first | refine blk_drewN ?_ _ | refine blk_drew ?_ | refine blk_alloc ?_ _)); exact BK277.out⟩, ⟨by (try simp only [hl284002_73]); (with_reducible repeat (first | refine blk_drewN ?_ _ | refine blk_drew ?_ | refine blk_alloc ?_ _)); exact BK283.out⟩, ⟨by (try simp only [hl284002_73]); (with_reducible repeat (first | refine blk_drewN ?_ _ | refine blk_drew ?_ | refine blk_alloc ?_ _)); exact BK293.out⟩, ⟨by (try simp only [hl284002_73]); (with_reducible repeat (first | refine blk_drewN ?_ _ | refine blk_drew ?_ | refine blk_alloc ?_ _)); exact BK327.out⟩, ⟨bw_⟩⟩
              ·replace c138 := Bool.eq_false_iff.mpr c138
               subst c138
               have H1 : (laws_FnExactPutRing.j2 kj73 t310 true t287 t288 t311) = some r := by rw [if_neg (show ¬ (false = true) by decide)] at H; exact H
               clear H
               have H := H1
               clear H1
               have H' := Aside0.mk H
               clear H
               have hnb149 := NB327_261.out
               have hnc149 := NB261_327.out
               have hnb150 := NB327_277.out
               have hnc150 := NB277_327.out
               have hnb151 := NB327_283.out
               have hnc151 := NB283_327.out
               have hnb152 := NB327_293.out
               have hnc152 := NB293_327.out
               obtain ⟨hcz153_0, hcz153_1, hcz153_2, hfz153_0, hfz153_1, hfz153_2⟩ := bc3_ BK327
               have hnb154 := NB277_261.out
               have hnc154 := NB261_277.out
               have hnb155 := NB277_283.out
               have hnc155 := NB283_277.out
               have hnb156 := NB277_293.out
               have hnc156 := NB293_277.out
               obtain ⟨hcz157_0, hcz157_1, hcz157_2, hfz157_0, hfz157_1, hfz157_2⟩ := bc3_ BK277
               go_wp2_with (first | ((with_reducible refine gate_callee (f := 19) rfl ?_); refine goesB (some 102) Try.func19 #[.agg #[.int .i64 t321, .int .i64 t322, .slice Ao136 t323.length co136], .agg #[.int .i64 t271, .int .i64 t272, .slice Ao29 t273.length co29]] ?_; (with_reducible refine (laws_eqChart.calls kj73 t321 t322 _ _ t323 t271 t272 _ _ t273 false _ ?side1 ?side2 ?side3 ?side4 A137.out).mono ?_); (case side1 => refine (Kd.R_reads' (e := 3) (base := w.heap.size) (ok := fun k_ => (((((True ∧ some k_ ≠ (.slice Ao29 t273.length co29 : Value).ownBlock) ∧ some k_ ≠ (.slice Ao36 t306.length co36 : Value).ownBlock) ∧ some k_ ≠ (.slice Ao46 t289.length co46 : Value).ownBlock) ∧ some k_ ≠ (.slice Ao127 t315.length co127 : Value).ownBlock) ∧ some k_ ≠ (.slice Ao128 t318.length co128 : Value).ownBlock)) (n := t323.length) (c := co136) ?_).2.2; exact (by exact rf_ (Kd.R_types HO325.out BK327.out (by decide)) (fun _ h_ => h_.1))); (case side2 => exact (Kd.R_reads' HO325.out).2.1); (case side3 => refine (Kd.R_reads' (e := 3) (base := w.heap.size) (ok := fun k_ => ((((some k_ ≠ (.slice Ao36 t306.length co36 : Value).ownBlock ∧ some k_ ≠ (.slice Ao46 t289.length co46 : Value).ownBlock) ∧ some k_ ≠ (.slice Ao127 t315.length co127 : Value).ownBlock) ∧ some k_ ≠ (.slice Ao128 t318.length co128 : Value).ownBlock) ∧ some k_ ≠ (.slice Ao136 t323.length co136 : Value).ownBlock)) (n := t273.length) (c := co29) ?_).2.2; exact (by exact rf_ (Kd.R_types HO_278002.out BK327.out (by decide)) (fun _ h_ => h_.1))); (case side4 => exact (Kd.R_reads' HO_278002.out).2.1); rintro e w158 ⟨rfl, hb⟩; refine ⟨_, rfl, ?_⟩; replace HO_278002 := Aside0.mk (Kd.R_below (by exact rf_ (Kd.R_types HO_278002.out BK327.out (by decide)) (fun _ h_ => h_.1)) hb); replace HO_284002 := Aside0.mk (Kd.R_below (by exact rf_ (Kd.R_types HO_284002.out BK327.out (by decide)) (fun _ h_ => h_.1)) hb); replace HO_294002 := Aside0.mk (Kd.R_below (by exact rf_ (Kd.R_types HO_294002.out BK327.out (by decide)) (fun _ h_ => h_.1)) hb); replace HO317 := Aside0.mk (Kd.R_below (by exact rf_ (Kd.R_types HO317.out BK327.out (by decide)) (fun _ h_ => h_.1)) hb); replace HO320 := Aside0.mk (Kd.R_below (by exact rf_ (Kd.R_types HO320.out BK327.out (by decide)) (fun _ h_ => h_.1)) hb); replace HO325 := Aside0.mk (Kd.R_below (by exact rf_ (Kd.R_types HO325.out BK327.out (by decide)) (fun _ h_ => h_.1)) hb); replace BK261 := bb_ BK261 hb; replace BK277 := bb_ BK277 hb; replace BK283 := bb_ BK283 hb; replace BK293 := bb_ BK293 hb; replace BK327 := Aside0.mk (blk_below (g := gb327) (o := .cells #[.int .i64 t321, .int .i64 t322, .slice Ao136 t323.length co136] 26 (0, 0)) (bq_ BK327) hb); replace HB := Aside0.mk (below_step bw_ hb); (try clear hb); (try clear hb2); (try clear hk); (try clear hi)))
               go_meet
               case rel => exact ⟨_, (true), (by first | rfl | (simp; done) | (simp [*]; done)), H', ⟨by have := HJ15.out; have := HJ73.out; first | omega | exact Nat.le_refl _⟩, ⟨by (try simp only [hl284002_73]); (with_reducible repeat (first | apply Kd.R_alloc | apply Kd.R_drewN | apply Kd.R_drew)); exact Kd.R_mono HO_278002.out (fun _ hk => ⟨hk.1.1.1.1, ⟨hk.1.1.1.2, hk.2⟩⟩)⟩, ⟨by (try simp only [hl284002_73]); (with_reducible repeat (first | apply Kd.R_alloc | apply Kd.R_drewN | apply Kd.R_drew)); exact Kd.R_mono HO_284002.out (fun _ hk => ⟨hk.1.1.1.1, ⟨hk.1.1.1.2, hk.2⟩⟩)⟩, ⟨by (try simp only [hl284002_73]); (with_reducible repeat (first | apply Kd.R_alloc | apply Kd.R_drewN | apply Kd.R_drew)); exact Kd.R_mono HO_294002.out (fun _ hk => ⟨hk.1.1.1.1, ⟨hk.1.1.1.2, hk.2⟩⟩)⟩, ⟨by (try simp only [hl284002_73]); (with_reducible repeat (first | apply Kd.R_alloc | apply Kd.R_drewN | apply Kd.R_drew)); exact Kd.R_mono HO325.out (fun _ hk => ⟨hk.1.1.1.1.2, ⟨hk.1.1.1.2, hk.1.1.2⟩⟩)⟩, ⟨by (try simp only [hl284002_73]); (with_reducible repeat (first | refine blk_drewN ?_ _ | refine blk_drew ?_ | refine blk_alloc ?_ _)); exact BK261.out⟩, ⟨by (try simp only [hl284002_73]); (with_reducible repeat (first | refine blk_drewN ?_ _ | refine blk_drew ?_ | refine blk_alloc ?_ _)); exact BK277.out⟩, ⟨by (try simp only [hl284002_73]); (with_reducible repeat (first | refine blk_drewN ?_ _ | refine blk_drew ?_ | refine blk_alloc ?_ _)); exact BK283.out⟩, ⟨by (try simp only [hl284002_73]); (with_reducible repeat (first | refine blk_drewN ?_ _ | refine blk_drew ?_ | refine blk_alloc ?_ _)); exact BK293.out⟩, ⟨by (try simp only [hl284002_73]); (with_reducible repeat (first | refine blk_drewN ?_ _ | refine blk_drew ?_ | refine blk_alloc ?_ _)); exact BK327.out⟩, ⟨bw_⟩⟩
             case rest =>
              clear HC114
              try clear c1
              try clear c2
              try clear p2
              try clear c3
              try clear c3b0
              try clear c3b1
              try clear c4
              try clear c5
              try clear c6
              try clear c6b0
              try clear c7
              try clear c8
              try clear c9
              try clear c10
              try clear c11
              try clear c12
              try clear c13
              try clear c14
              try clear c15
              try clear c17
              try clear c19
              try clear c20
              try clear c21
              try clear c27
              try clear c33
              try clear c34
              try clear c41
              try clear c42
              try clear c43
              try clear c44
              try clear c45
              try clear c48
              try clear c49
              try clear c50
              try clear c51
              try clear c53
              try clear c54
              try clear c57
              try clear c58
              try clear c59
              try clear c61
              try clear c62
              try clear c65
              try clear c68
              try clear c71
              try clear c81
              try clear c82
              try clear c83
              try clear c87
              try clear c87b0
              try clear c89
              try clear c90
              try clear c91
              try clear c92
              try clear c94
              try clear c95
              try clear c98
              try clear c99
              try clear c100
              try clear c102
              try clear c103
              try clear c106
              try clear c109
              try clear c109b0
              try clear c110
              try clear c110b0
              try clear c110b1
              try clear c115
              try clear c116
              try clear c117
              try clear c122
              try clear c123
              try clear c131
              try clear c132
              try clear c133
              try clear c134
              try clear c138
              try clear c139
              try clear c140
              try clear c141
              try clear c142
              try clear c144
              try clear c145
              try clear c146
              try clear c149
              try clear c150
              try clear c151
              try clear c152
              try clear c154
              try clear c155
              try clear c156
              try clear hcz101_0
              try clear hcz101_1
              try clear hcz101_2
              try clear hcz104_0
              try clear hcz104_1
              try clear hcz104_2
              try clear hcz118_0
              try clear hcz118_1
              try clear hcz118_2
              try clear hcz120_0
              try clear hcz120_1
              try clear hcz120_2
              try clear hcz124_0
              try clear hcz124_1
              try clear hcz124_2
              try clear hcz135_0
              try clear hcz135_1
              try clear hcz135_2
              try clear hcz143_0
              try clear hcz143_1
              try clear hcz143_2
              try clear hcz147_0
              try clear hcz147_1
              try clear hcz147_2
              try clear hcz153_0
              try clear hcz153_1
              try clear hcz153_2
              try clear hcz157_0
              try clear hcz157_1
              try clear hcz157_2
              try clear hcz18_0
              try clear hcz18_1
              try clear hcz18_2
              try clear hcz20_0
              try clear hcz20_1
              try clear hcz20_2
              try clear hcz28_0
              try clear hcz28_1
              try clear hcz28_2
              try clear hcz30_0
              try clear hcz30_1
              try clear hcz30_2
              try clear hcz35_0
              try clear hcz35_1
              try clear hcz35_2
              try clear hcz38_0
              try clear hcz38_1
              try clear hcz38_2
              try clear hcz45_0
              try clear hcz45_1
              try clear hcz45_2
              try clear hcz52_0
              try clear hcz52_1
              try clear hcz52_2
              try clear hcz55_0
              try clear hcz55_1
              try clear hcz55_2
              try clear hcz60_0
              try clear hcz60_1
              try clear hcz60_2
              try clear hcz63_0
              try clear hcz63_1
              try clear hcz63_2
              try clear hcz84_0
              try clear hcz84_1
              try clear hcz84_2
              try clear hcz8_0
              try clear hcz8_1
              try clear hcz8_2
              try clear hcz93_0
              try clear hcz93_1
              try clear hcz93_2
              try clear hcz96_0
              try clear hcz96_1
              try clear hcz96_2
              try clear hfz101_0
              try clear hfz101_1
              try clear hfz101_2
              try clear hfz104_0
              try clear hfz104_1
              try clear hfz104_2
              try clear hfz118_0
              try clear hfz118_1
              try clear hfz118_2
              try clear hfz120_0
              try clear hfz120_1
              try clear hfz120_2
              try clear hfz124_0
              try clear hfz124_1
              try clear hfz124_2
              try clear hfz135_0
              try clear hfz135_1
              try clear hfz135_2
              try clear hfz143_0
              try clear hfz143_1
              try clear hfz143_2
              try clear hfz147_0
              try clear hfz147_1
              try clear hfz147_2
              try clear hfz153_0
              try clear hfz153_1
              try clear hfz153_2
              try clear hfz157_0
              try clear hfz157_1
              try clear hfz157_2
              try clear hfz18_0
              try clear hfz18_1
              try clear hfz18_2
              try clear hfz20_0
              try clear hfz20_1
              try clear hfz20_2
              try clear hfz28_0
              try clear hfz28_1
              try clear hfz28_2
              try clear hfz30_0
              try clear hfz30_1
              try clear hfz30_2
              try clear hfz35_0
              try clear hfz35_1
              try clear hfz35_2
              try clear hfz38_0
              try clear hfz38_1
              try clear hfz38_2
              try clear hfz45_0
              try clear hfz45_1
              try clear hfz45_2
              try clear hfz52_0
              try clear hfz52_1
              try clear hfz52_2
              try clear hfz55_0
              try clear hfz55_1
              try clear hfz55_2
              try clear hfz60_0
              try clear hfz60_1
              try clear hfz60_2
              try clear hfz63_0
              try clear hfz63_1
              try clear hfz63_2
              try clear hfz84_0
              try clear hfz84_1
              try clear hfz84_2
              try clear hfz8_0
              try clear hfz8_1
              try clear hfz8_2
              try clear hfz93_0
              try clear hfz93_1
              try clear hfz93_2
              try clear hfz96_0
              try clear hfz96_1
              try clear hfz96_2
              try clear p2
              obtain ⟨kq, x108_113, rfl, HA, HJ113, HO_278002, HO_284002, HO_294002, HO_328002, BK261, BK277, BK283, BK293, BK327, HB⟩ := hcut
              have hl294002_113 := (Kd.R_reads' HO_294002.out).1
              rw [hl294002_113] at HO_294002
              (try simp only [hl294002_113])
              (try simp only [hl294002_113] at BK261)
              (try simp only [hl294002_113] at BK277)
              (try simp only [hl294002_113] at BK283)
              (try simp only [hl294002_113] at BK293)
              (try simp only [hl294002_113] at BK327)
              (try simp only [hl294002_113] at HO_278002)
              (try simp only [hl294002_113] at HO_284002)
              (try simp only [hl294002_113] at HO_328002)
              cases kq with
              | zero => exact absurd HA.out (by simp [laws_FnExactPutRing.j2])
              | succ kj113 =>
               have H := HA.out
               clear HA
               simp only [laws_FnExactPutRing.j2] at H
               by_cases c159 : x108_113 = true
               ·subst c159
                have H1 : (some false) = some r := by rw [if_pos rfl] at H; exact H
                clear H
                have H := H1
                clear H1
                exact absurd (H.trans (congrArg some HRT.out)) (by simp)
               ·replace c159 := Bool.eq_false_iff.mpr c159
                subst c159
                have H1 : ((laws_heldChart.f kj113 t287 t288 t311 1).bind fun t329 => (if t329 < 0 then (some false) else (if t329 = t310 then (some true) else (some false)))) = some r := by rw [if_neg (show ¬ (false = true) by decide)] at H; exact H
                clear H
                have H := H1
                clear H1
                replace H := Option.bind_eq_some_iff.mp H
                obtain ⟨t329, A1600, H⟩ := H
                replace H : (if t329 < 0 then (some false) else (if t329 = t310 then (some true) else (some false))) = some r := H
                have A160 := Aside0.mk A1600
                clear A1600
                by_cases c161 : t329 < 0
                ·rw [if_pos c161] at H
                 have c161b0 : decide (t329 < 0) = true := decide_eq_true c161
                 clear c161
                 exact absurd (H.trans (congrArg some HRT.out)) (by simp)
                ·rw [if_neg c161] at H
                 have c161b0 : decide (t329 < 0) = false := decide_eq_false c161
                 clear c161
                 by_cases c162 : t329 = t310
                 ·rw [if_pos c162] at H
                  have c162b0 : (t329 == t310) = true := beq_iff_eq.mpr c162
                  have c162b1 : (t329 != t310) = false := bne_eq_false_iff_eq.mpr c162
                  clear c162
                  obtain rfl := Option.some.inj H
                  have hnb163 := NB293_261.out
                  have hnc163 := NB261_293.out
                  have hnb164 := NB293_277.out
                  have hnc164 := NB277_293.out
                  have hnb165 := NB293_283.out
                  have hnc165 := NB283_293.out
                  have hnb166 := NB293_327.out
                  have hnc166 := NB327_293.out
                  obtain ⟨hcz167_0, hcz167_1, hcz167_2, hfz167_0, hfz167_1, hfz167_2⟩ := bc3_ BK293
                  go_wp2_with (first | ((with_reducible refine gate_callee (f := 21) rfl ?_); refine goesB (some 111) Try.func21 #[.agg #[.int .i64 t287, .int .i64 t288, .slice Ao46 t311.length co46], .int .i64 1] ?_; (with_reducible refine (laws_heldChart.calls kj113 t287 t288 _ _ t311 1 t329 _ ?side1 ?side2 A160.out).mono ?_); (case side1 => repeat (first | exact (Kd.R_reads' HO_294002.out).2.2 | (with_reducible refine Kd.C_alloc ?_ _) | (with_reducible refine Kd.C_drewN ?_ _) | (with_reducible refine Kd.C_drew ?_))); (case side2 => exact (Kd.R_reads' HO_294002.out).2.1); rintro e w168 ⟨rfl, hb⟩; refine ⟨_, rfl, ?_⟩; have n0_ := Aside0.mk (Kd.R_below (by (with_reducible repeat (first | apply Kd.R_alloc | apply Kd.R_drewN | apply Kd.R_drew)); exact HO_278002.out) hb); have n1_ := Aside0.mk (Kd.R_below (by (with_reducible repeat (first | apply Kd.R_alloc | apply Kd.R_drewN | apply Kd.R_drew)); exact HO_284002.out) hb); have n2_ := Aside0.mk (Kd.R_below (by (with_reducible repeat (first | apply Kd.R_alloc | apply Kd.R_drewN | apply Kd.R_drew)); exact HO_294002.out) hb); have n3_ := Aside0.mk (Kd.R_below (by (with_reducible repeat (first | apply Kd.R_alloc | apply Kd.R_drewN | apply Kd.R_drew)); exact HO_328002.out) hb); have n4_ := bb_ BK261 hb; have n5_ := bb_ BK277 hb; have n6_ := bb_ BK283 hb; have n7_ := bb_ BK293 hb; have n8_ := bb_ BK327 hb; have n9_ := Aside0.mk (below_step bw_ hb); clear HO_278002; clear HO_284002; clear HO_294002; clear HO_328002; clear BK261; clear BK277; clear BK283; clear BK293; clear BK327; clear HB; have HO_278002 := n0_; have HO_284002 := n1_; have HO_294002 := n2_; have HO_328002 := n3_; have BK261 := n4_; have BK277 := n5_; have BK283 := n6_; have BK293 := n7_; have BK327 := n8_; have HB := n9_; clear n0_ n1_ n2_ n3_ n4_ n5_ n6_ n7_ n8_ n9_; (try clear hb); (try clear hb2); (try clear hk); (try clear hi)))
                  go_ret
                  exact ⟨by first | rfl | (simp [errW_none, errW_some] <;> rfl) | (simp [*, errW_none, errW_some] <;> rfl), bw_⟩
                 ·rw [if_neg c162] at H
                  have c162b0 : (t329 == t310) = false := beq_eq_false_iff_ne.mpr c162
                  have c162b1 : (t329 != t310) = true := bne_iff_ne.mpr c162
                  exact absurd (H.trans (congrArg some HRT.out)) (by simp)
            ·rw [if_neg c110] at H
             have c110b0 : (t312 == t310) = false := beq_eq_false_iff_ne.mpr c110
             have c110b1 : (t312 != t310) = true := bne_iff_ne.mpr c110
             exact absurd (H.trans (congrArg some HRT.out)) (by simp)
       ·replace c71 := Bool.eq_false_iff.mpr c71
        subst c71
        have H1 : (some false) = some r := by rw [if_neg (show ¬ (false = true) by decide)] at H; exact H
        clear H
        have H := H1
        clear H1
        exact absurd (H.trans (congrArg some HRT.out)) (by simp)
      ·replace c68 := Bool.eq_false_iff.mpr c68
       subst c68
       have H1 : (some false) = some r := by rw [if_neg (show ¬ (false = true) by decide)] at H; exact H
       clear H
       have H := H1
       clear H1
       exact absurd (H.trans (congrArg some HRT.out)) (by simp)

/-- The pure statement of laws_FnExactPutRing. -/
def laws_FnExactPutRing.Pure : Prop := ∀ (a0_0 : Int) (a0_1 : Int) (l0_2 : List Int) (l1 : List Int), ((Lit.int .i64 a0_0).wf = true) → ((Lit.int .i64 a0_1).wf = true) → (l0_2.length * 8 ≤ 140737488351232) → (∀ y0 ∈ l0_2, (Lit.int .i64 y0).wf = true) → (l1.length * 8 ≤ 140737488351232) → (∀ y0 ∈ l1, (Lit.int .i64 y0).wf = true) → ∃ k, laws_FnExactPutRing.f k a0_0 a0_1 l0_2 l1 = some true

end Go.Proofs.Yteiaakppjcpgcaa.PFnExactPutRing
