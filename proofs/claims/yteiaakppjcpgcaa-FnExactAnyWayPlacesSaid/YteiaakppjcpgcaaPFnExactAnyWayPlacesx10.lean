-- Printed by this session's own program (wip/tool/myprint.py, over the kit's print); Lean checks it.
import Derived.Test.YteiaakppjcpgcaaPFnExactAnyWayPlacesx0
import Derived.Test.YteiaakppjcpgcaaPFnExactAnyWayPlacesx1
import Derived.Test.YteiaakppjcpgcaaPFnExactAnyWayPlacesx5
import Derived.Test.YteiaakppjcpgcaaPFnExactAnyWayPlacesx9
namespace Go.Proofs.Yteiaakppjcpgcaa.PFnExactAnyWayPlaces
open Go.RowKit Go.Proofs.YteiaakppjcpgcaaW.PrintWords Go.Proofs.YteiaakppjcpgcaaW.PrintLast Go.Proofs.YteiaakppjcpgcaaW.PrintMore
attribute [local go_sem] max2_int min2_int max_two min_two max_three min_three max_four min_four   -- for this text's walks alone
set_option linter.unusedVariables false
set_option linter.unusedSimpArgs false

/-! ### laws_FnExactAnyWayPlaces: function 14 -/
def laws_FnExactAnyWayPlaces.j0 : Nat → Bool → Int → Int → List Int → Int → Int → List Int → Int → Int → List Int → Int → Int → List Int → Option (Bool)
  | 0, _, _, _, _, _, _, _, _, _, _, _, _, _ => none
  | k + 1, x47, x429000, x429001, x429002, x430000, x430001, x430002, x450000, x450001, x450002, x456000, x456001, x456002 => if x47 = true then (some false) else ((laws_toChart.f k x429000 x429001 x429002).bind fun bt458 => ((laws_eqChart.f k x450000 x450001 x450002 bt458.1 bt458.2.1 bt458.2.2).bind fun t463 => (if t463 = true then ((laws_toChart.f k x430000 x430001 x430002).bind fun bt464 => ((laws_eqChart.f k x456000 x456001 x456002 bt464.1 bt464.2.1 bt464.2.2).bind fun t469 => (if t469 = true then (some true) else (some false)))) else (some false))))
def laws_FnExactAnyWayPlaces.f (k : Nat) (a0_0 : Int) (a0_1 : Int) (l0_2 : List Int) (a1_0 : Int) (a1_1 : Int) (l1_2 : List Int) : Option (Bool) := (laws_szChart.f a0_0 a0_1 l0_2 1048576).bind fun t430 => (if t430 < 0 then (some true) else ((laws_szChart.f a1_0 a1_1 l1_2 t430).bind fun t431 => (if t431 < 0 then (some true) else ((laws_toChart.f k a0_0 a0_1 l0_2).bind fun bt432 => ((laws_toChart.f k a1_0 a1_1 l1_2).bind fun bt437 => ((spec_AnyWayPlaces.f k bt432.1 bt432.2.1 bt432.2.2 bt437.1 bt437.2.1 bt437.2.2).bind fun bt442 => ((laws_toChart.f k a0_0 a0_1 l0_2).bind fun bt444 => ((laws_toChart.f k a1_0 a1_1 l1_2).bind fun bt450 => ((impl_AnyWayPlaces.f k bt444.1 bt444.2.1 bt444.2.2 bt450.1 bt450.2.1 bt450.2.2).bind fun bt456 => (if bt456.1 = bt442.1 then (laws_FnExactAnyWayPlaces.j0 k (bt456.2 != bt442.2) a0_0 a0_1 l0_2 a1_0 a1_1 l1_2 bt444.1 bt444.2.1 bt444.2.2 bt450.1 bt450.2.1 bt450.2.2) else (laws_FnExactAnyWayPlaces.j0 k true a0_0 a0_1 l0_2 a1_0 a1_1 l1_2 bt444.1 bt444.2.1 bt444.2.2 bt450.1 bt450.2.1 bt450.2.2)))))))))))
theorem laws_FnExactAnyWayPlaces.mono_l : ∀ k, (∀ y0 y1 y2 y3 y4 y5 y6 y7 y8 y9 y10 y11 y12, LeO (laws_FnExactAnyWayPlaces.j0 k y0 y1 y2 y3 y4 y5 y6 y7 y8 y9 y10 y11 y12) (laws_FnExactAnyWayPlaces.j0 (k + 1) y0 y1 y2 y3 y4 y5 y6 y7 y8 y9 y10 y11 y12))
  | 0 => fun _ _ _ _ _ _ _ _ _ _ _ _ _ r h => by simp [laws_FnExactAnyWayPlaces.j0] at h
  | k + 1 => by
    have ih0 := laws_FnExactAnyWayPlaces.mono_l k
    · intro y0 y1 y2 y3 y4 y5 y6 y7 y8 y9 y10 y11 y12
      unfold laws_FnExactAnyWayPlaces.j0
      repeat' first
      | (with_reducible exact ih0 _ _ _ _ _ _ _ _ _ _ _ _ _)
      | (with_reducible exact impl_AnyWayPlaces.mono _ _ _ _ _ _ _)
      | (with_reducible exact laws_eqChart.mono _ _ _ _ _ _ _)
      | (with_reducible exact laws_toChart.mono _ _ _ _)
      | (with_reducible exact spec_AnyWayPlaces.mono _ _ _ _ _ _ _)
      | (with_reducible exact LeO.refl _)
      | (with_reducible exact LeO.none _)
      | (with_reducible refine LeO.ite ?_ ?_)
      | (with_reducible refine LeO.bind ?_ (fun _ => ?_))
      | exact ih0 _ _ _ _ _ _ _ _ _ _ _ _ _
      | exact impl_AnyWayPlaces.mono _ _ _ _ _ _ _
      | exact laws_eqChart.mono _ _ _ _ _ _ _
      | exact laws_toChart.mono _ _ _ _
      | exact spec_AnyWayPlaces.mono _ _ _ _ _ _ _
      | exact LeO.none _
      | refine LeO.ite ?_ ?_
      | refine LeO.bind ?_ (fun _ => ?_)
theorem laws_FnExactAnyWayPlaces.mono : ∀ a0 a1 a2 a3 a4 a5 k, LeO (laws_FnExactAnyWayPlaces.f k a0 a1 a2 a3 a4 a5) (laws_FnExactAnyWayPlaces.f (k + 1) a0 a1 a2 a3 a4 a5) := by
  intro a0 a1 a2 a3 a4 a5 k
  have ih0 := laws_FnExactAnyWayPlaces.mono_l k
  unfold laws_FnExactAnyWayPlaces.f
  repeat' first
      | (with_reducible exact ih0 _ _ _ _ _ _ _ _ _ _ _ _ _)
      | (with_reducible exact impl_AnyWayPlaces.mono _ _ _ _ _ _ _)
      | (with_reducible exact laws_eqChart.mono _ _ _ _ _ _ _)
      | (with_reducible exact laws_toChart.mono _ _ _ _)
      | (with_reducible exact spec_AnyWayPlaces.mono _ _ _ _ _ _ _)
      | (with_reducible exact LeO.refl _)
      | (with_reducible exact LeO.none _)
      | (with_reducible refine LeO.ite ?_ ?_)
      | (with_reducible refine LeO.bind ?_ (fun _ => ?_))
      | exact ih0 _ _ _ _ _ _ _ _ _ _ _ _ _
      | exact impl_AnyWayPlaces.mono _ _ _ _ _ _ _
      | exact laws_eqChart.mono _ _ _ _ _ _ _
      | exact laws_toChart.mono _ _ _ _
      | exact spec_AnyWayPlaces.mono _ _ _ _ _ _ _
      | exact LeO.none _
      | refine LeO.ite ?_ ?_
      | refine LeO.bind ?_ (fun _ => ?_)
def laws_FnExactAnyWayPlaces.T8 : Bool × List (List Nat × List Nat) := (true, [([], []), ([0], [0]), ([], []), ([2, 1], [2]), ([1, 3, 3], [1, 3]), ([4], [4]), ([5], [5]), ([5], [5]), ([6, 4, 0, 1, 2, 3, 4, 5, 6], [6]), ([7, 8, 0, 1, 2, 3, 4, 5, 6, 7, 8], [7])])
def laws_FnExactAnyWayPlaces.B8 : List Nat := [0, 1, 0, 7, 15, 31, 63, 63, 127, 511]
theorem laws_FnExactAnyWayPlaces.tab8 : rtab .any (opsOf Try.f14 8) = laws_FnExactAnyWayPlaces.T8 := by kernel_rfl
theorem laws_FnExactAnyWayPlaces.bits8 : waitsOk laws_FnExactAnyWayPlaces.T8.2 laws_FnExactAnyWayPlaces.B8 = true := by kernel_rfl
set_option maxHeartbeats 8000000 in
set_option maxRecDepth 100000 in
theorem laws_FnExactAnyWayPlaces.calls (k : Nat) (a0_0 : Int) (a0_1 : Int) (A0_2 : Option Addr) (c0_2 : Nat) (l0_2 : List Int) (a1_0 : Int) (a1_1 : Int) (A1_2 : Option Addr) (c1_2 : Nat) (l1_2 : List Int) (w : World) (hr0_2 : Kd.C (Kd.int .i64) w A0_2 l0_2.length l0_2) (hc0_2 : l0_2.length ≤ c0_2) (hr1_2 : Kd.C (Kd.int .i64) w A1_2 l1_2.length l1_2) (hc1_2 : l1_2.length ≤ c1_2) (h : laws_FnExactAnyWayPlaces.f k a0_0 a0_1 l0_2 a1_0 a1_1 l1_2 = some true) :
  Calls Try.prog 14 #[.agg #[.int .i64 a0_0, .int .i64 a0_1, .slice A0_2 l0_2.length c0_2], .agg #[.int .i64 a1_0, .int .i64 a1_1, .slice A1_2 l1_2.length c1_2]] w fun e w' => e = .returned (.bool true) ∧ Below w.heap.size w w' := by
 obtain ⟨r, hrt_⟩ : ∃ r : Bool, true = r := ⟨true, rfl⟩
 rw [hrt_] at h ⊢
 have HRT := Aside0.mk hrt_.symm
 clear hrt_
 have hu24 := Try.underlying24
 have hu26 := Try.underlying26
 have HR0_2 := Aside0.mk hr0_2
 have HC0_2 := Aside0.mk hc0_2
 clear hr0_2 hc0_2
 have HR1_2 := Aside0.mk hr1_2
 have HC1_2 := Aside0.mk hc1_2
 clear hr1_2 hc1_2
 have HB := Aside0.mk (Below.refl w.heap.size w)
 have H : ((laws_szChart.f a0_0 a0_1 l0_2 1048576).bind fun t430 => (if t430 < 0 then (some true) else ((laws_szChart.f a1_0 a1_1 l1_2 t430).bind fun t431 => (if t431 < 0 then (some true) else ((laws_toChart.f k a0_0 a0_1 l0_2).bind fun bt432 => ((laws_toChart.f k a1_0 a1_1 l1_2).bind fun bt437 => ((spec_AnyWayPlaces.f k bt432.1 bt432.2.1 bt432.2.2 bt437.1 bt437.2.1 bt437.2.2).bind fun bt442 => ((laws_toChart.f k a0_0 a0_1 l0_2).bind fun bt444 => ((laws_toChart.f k a1_0 a1_1 l1_2).bind fun bt450 => ((impl_AnyWayPlaces.f k bt444.1 bt444.2.1 bt444.2.2 bt450.1 bt450.2.1 bt450.2.2).bind fun bt456 => (if bt456.1 = bt442.1 then (laws_FnExactAnyWayPlaces.j0 k (bt456.2 != bt442.2) a0_0 a0_1 l0_2 a1_0 a1_1 l1_2 bt444.1 bt444.2.1 bt444.2.2 bt450.1 bt450.2.1 bt450.2.2) else (laws_FnExactAnyWayPlaces.j0 k true a0_0 a0_1 l0_2 a1_0 a1_1 l1_2 bt444.1 bt444.2.1 bt444.2.2 bt450.1 bt450.2.1 bt450.2.2)))))))))))) = some r := h
 clear h
 replace H := Option.bind_eq_some_iff.mp H
 obtain ⟨t430, A30, H⟩ := H
 replace H : (if t430 < 0 then (some true) else ((laws_szChart.f a1_0 a1_1 l1_2 t430).bind fun t431 => (if t431 < 0 then (some true) else ((laws_toChart.f k a0_0 a0_1 l0_2).bind fun bt432 => ((laws_toChart.f k a1_0 a1_1 l1_2).bind fun bt437 => ((spec_AnyWayPlaces.f k bt432.1 bt432.2.1 bt432.2.2 bt437.1 bt437.2.1 bt437.2.2).bind fun bt442 => ((laws_toChart.f k a0_0 a0_1 l0_2).bind fun bt444 => ((laws_toChart.f k a1_0 a1_1 l1_2).bind fun bt450 => ((impl_AnyWayPlaces.f k bt444.1 bt444.2.1 bt444.2.2 bt450.1 bt450.2.1 bt450.2.2).bind fun bt456 => (if bt456.1 = bt442.1 then (laws_FnExactAnyWayPlaces.j0 k (bt456.2 != bt442.2) a0_0 a0_1 l0_2 a1_0 a1_1 l1_2 bt444.1 bt444.2.1 bt444.2.2 bt450.1 bt450.2.1 bt450.2.2) else (laws_FnExactAnyWayPlaces.j0 k true a0_0 a0_1 l0_2 a1_0 a1_1 l1_2 bt444.1 bt444.2.1 bt444.2.2 bt450.1 bt450.2.1 bt450.2.2))))))))))) = some r := H
 have A3 := Aside0.mk A30
 clear A30
 by_cases c4 : t430 < 0
 ·rw [if_pos c4] at H
  have c4b0 : decide (t430 < 0) = true := decide_eq_true c4
  clear c4
  obtain rfl := Option.some.inj H
  go_enter Try.func14, Try.ntmps14
  go_wp2_with (first | ((with_reducible refine gate_dst (N := 2) rfl ?_); refine box_ (N := 2) (cs := #[.int .i64 a0_0, .int .i64 a0_1, .slice A0_2 l0_2.length c0_2]) (t := 24) ?_; intro gb428 hg w5 hbox hb; have BK428 := Aside0.mk (hbox); have GW428 := gz_ w hg; have GE428 := gz_ w hg; replace HB := Aside0.mk (below_step (bw_ w) hb); clear hb hbox hg) | ((with_reducible refine gate_dst (N := 3) rfl ?_); refine box_ (N := 3) (cs := #[.int .i64 a1_0, .int .i64 a1_1, .slice A1_2 l1_2.length c1_2]) (t := 24) ?_; intro gb429 hg w6 hbox hb; have n0_ := bb_ BK428 hb; have n1_ := Aside0.mk (below_step (bw_ w) hb); have n2_ := Aside0.mk (hbox); have n3_ := gz_ w hg; have n4_ := gz_ w hg; have n5_ := ne_ hg BK428; have n6_ := en_ hg BK428; clear BK428; clear HB; have BK428 := n0_; have HB := n1_; have BK429 := n2_; have GW429 := n3_; have GE429 := n4_; have NB428_429 := n5_; have NB429_428 := n6_; clear n0_ n1_ n2_ n3_ n4_ n5_ n6_; clear hb hbox hg; have hnb7 := NB428_429.out; have hnc7 := NB429_428.out; obtain ⟨hcz8_0, hcz8_1, hcz8_2, hfz8_0, hfz8_1, hfz8_2⟩ := bc3_ (w := w6) BK428) | ((with_reducible refine gate_callee (f := 15) rfl ?_); refine goesB (some 14) Try.func15 #[.agg #[.int .i64 a0_0, .int .i64 a0_1, .slice A0_2 l0_2.length c0_2], .int .i64 1048576] ?_; (with_reducible refine (laws_szChart.calls a0_0 a0_1 _ _ l0_2 1048576 t430 _ ?side1 ?side2 A3.out).mono ?_); (case side1 => exact cb_ HR0_2 HB); (case side2 => exact HC0_2.out); rintro e w9 ⟨rfl, hb⟩; refine ⟨_, rfl, ?_⟩; replace BK428 := bb_ BK428 hb; replace BK429 := bb_ BK429 hb; replace HB := Aside0.mk (below_step (bw_ w) hb); (try clear hb); (try clear hb2); (try clear hk); (try clear hi)))
  go_ret
  exact ⟨by first | rfl | (simp [errW_none, errW_some] <;> rfl) | (simp [*, errW_none, errW_some] <;> rfl), (bw_ w)⟩
 ·rw [if_neg c4] at H
  have c4b0 : decide (t430 < 0) = false := decide_eq_false c4
  clear c4
  replace H := Option.bind_eq_some_iff.mp H
  obtain ⟨t431, A100, H⟩ := H
  replace H : (if t431 < 0 then (some true) else ((laws_toChart.f k a0_0 a0_1 l0_2).bind fun bt432 => ((laws_toChart.f k a1_0 a1_1 l1_2).bind fun bt437 => ((spec_AnyWayPlaces.f k bt432.1 bt432.2.1 bt432.2.2 bt437.1 bt437.2.1 bt437.2.2).bind fun bt442 => ((laws_toChart.f k a0_0 a0_1 l0_2).bind fun bt444 => ((laws_toChart.f k a1_0 a1_1 l1_2).bind fun bt450 => ((impl_AnyWayPlaces.f k bt444.1 bt444.2.1 bt444.2.2 bt450.1 bt450.2.1 bt450.2.2).bind fun bt456 => (if bt456.1 = bt442.1 then (laws_FnExactAnyWayPlaces.j0 k (bt456.2 != bt442.2) a0_0 a0_1 l0_2 a1_0 a1_1 l1_2 bt444.1 bt444.2.1 bt444.2.2 bt450.1 bt450.2.1 bt450.2.2) else (laws_FnExactAnyWayPlaces.j0 k true a0_0 a0_1 l0_2 a1_0 a1_1 l1_2 bt444.1 bt444.2.1 bt444.2.2 bt450.1 bt450.2.1 bt450.2.2))))))))) = some r := H
  have A10 := Aside0.mk A100
  clear A100
  by_cases c11 : t431 < 0
  ·rw [if_pos c11] at H
   have c11b0 : decide (t431 < 0) = true := decide_eq_true c11
   clear c11
   obtain rfl := Option.some.inj H
   go_enter Try.func14, Try.ntmps14
   go_wp2_with (first | ((with_reducible refine gate_dst (N := 2) rfl ?_); refine box_ (N := 2) (cs := #[.int .i64 a0_0, .int .i64 a0_1, .slice A0_2 l0_2.length c0_2]) (t := 24) ?_; intro gb428 hg w12 hbox hb; have BK428 := Aside0.mk (hbox); have GW428 := gz_ w hg; have GE428 := gz_ w hg; replace HB := Aside0.mk (below_step (bw_ w) hb); clear hb hbox hg) | ((with_reducible refine gate_dst (N := 3) rfl ?_); refine box_ (N := 3) (cs := #[.int .i64 a1_0, .int .i64 a1_1, .slice A1_2 l1_2.length c1_2]) (t := 24) ?_; intro gb429 hg w13 hbox hb; have n0_ := bb_ BK428 hb; have n1_ := Aside0.mk (below_step (bw_ w) hb); have n2_ := Aside0.mk (hbox); have n3_ := gz_ w hg; have n4_ := gz_ w hg; have n5_ := ne_ hg BK428; have n6_ := en_ hg BK428; clear BK428; clear HB; have BK428 := n0_; have HB := n1_; have BK429 := n2_; have GW429 := n3_; have GE429 := n4_; have NB428_429 := n5_; have NB429_428 := n6_; clear n0_ n1_ n2_ n3_ n4_ n5_ n6_; clear hb hbox hg; have hnb14 := NB428_429.out; have hnc14 := NB429_428.out; obtain ⟨hcz15_0, hcz15_1, hcz15_2, hfz15_0, hfz15_1, hfz15_2⟩ := bc3_ (w := w13) BK428) | ((with_reducible refine gate_callee (f := 15) rfl ?_); refine goesB (some 14) Try.func15 #[.agg #[.int .i64 a0_0, .int .i64 a0_1, .slice A0_2 l0_2.length c0_2], .int .i64 1048576] ?_; (with_reducible refine (laws_szChart.calls a0_0 a0_1 _ _ l0_2 1048576 t430 _ ?side1 ?side2 A3.out).mono ?_); (case side1 => exact cb_ HR0_2 HB); (case side2 => exact HC0_2.out); rintro e w16 ⟨rfl, hb⟩; refine ⟨_, rfl, ?_⟩; replace BK428 := bb_ BK428 hb; replace BK429 := bb_ BK429 hb; replace HB := Aside0.mk (below_step (bw_ w) hb); (try clear hb); (try clear hb2); (try clear hk); (try clear hi); obtain ⟨hcz17_0, hcz17_1, hcz17_2, hfz17_0, hfz17_1, hfz17_2⟩ := bc3_ (w := w16) BK429) | ((with_reducible refine gate_callee (f := 15) rfl ?_); refine goesB (some 19) Try.func15 #[.agg #[.int .i64 a1_0, .int .i64 a1_1, .slice A1_2 l1_2.length c1_2], .int .i64 t430] ?_; (with_reducible refine (laws_szChart.calls a1_0 a1_1 _ _ l1_2 t430 t431 _ ?side1 ?side2 A10.out).mono ?_); (case side1 => exact cb_ HR1_2 HB); (case side2 => exact HC1_2.out); rintro e w18 ⟨rfl, hb⟩; refine ⟨_, rfl, ?_⟩; replace BK428 := bb_ BK428 hb; replace BK429 := bb_ BK429 hb; replace HB := Aside0.mk (below_step (bw_ w) hb); (try clear hb); (try clear hb2); (try clear hk); (try clear hi)))
   go_ret
   exact ⟨by first | rfl | (simp [errW_none, errW_some] <;> rfl) | (simp [*, errW_none, errW_some] <;> rfl), (bw_ w)⟩
  ·rw [if_neg c11] at H
   have c11b0 : decide (t431 < 0) = false := decide_eq_false c11
   clear c11
   replace H := Option.bind_eq_some_iff.mp H
   obtain ⟨⟨t432, t433, t434⟩, A190, H⟩ := H
   replace H : ((laws_toChart.f k a1_0 a1_1 l1_2).bind fun bt437 => ((spec_AnyWayPlaces.f k t432 t433 t434 bt437.1 bt437.2.1 bt437.2.2).bind fun bt442 => ((laws_toChart.f k a0_0 a0_1 l0_2).bind fun bt444 => ((laws_toChart.f k a1_0 a1_1 l1_2).bind fun bt450 => ((impl_AnyWayPlaces.f k bt444.1 bt444.2.1 bt444.2.2 bt450.1 bt450.2.1 bt450.2.2).bind fun bt456 => (if bt456.1 = bt442.1 then (laws_FnExactAnyWayPlaces.j0 k (bt456.2 != bt442.2) a0_0 a0_1 l0_2 a1_0 a1_1 l1_2 bt444.1 bt444.2.1 bt444.2.2 bt450.1 bt450.2.1 bt450.2.2) else (laws_FnExactAnyWayPlaces.j0 k true a0_0 a0_1 l0_2 a1_0 a1_1 l1_2 bt444.1 bt444.2.1 bt444.2.2 bt450.1 bt450.2.1 bt450.2.2))))))) = some r := H
   have A19 := Aside0.mk A190
   clear A190
   replace H := Option.bind_eq_some_iff.mp H
   obtain ⟨⟨t437, t438, t439⟩, A200, H⟩ := H
   replace H : ((spec_AnyWayPlaces.f k t432 t433 t434 t437 t438 t439).bind fun bt442 => ((laws_toChart.f k a0_0 a0_1 l0_2).bind fun bt444 => ((laws_toChart.f k a1_0 a1_1 l1_2).bind fun bt450 => ((impl_AnyWayPlaces.f k bt444.1 bt444.2.1 bt444.2.2 bt450.1 bt450.2.1 bt450.2.2).bind fun bt456 => (if bt456.1 = bt442.1 then (laws_FnExactAnyWayPlaces.j0 k (bt456.2 != bt442.2) a0_0 a0_1 l0_2 a1_0 a1_1 l1_2 bt444.1 bt444.2.1 bt444.2.2 bt450.1 bt450.2.1 bt450.2.2) else (laws_FnExactAnyWayPlaces.j0 k true a0_0 a0_1 l0_2 a1_0 a1_1 l1_2 bt444.1 bt444.2.1 bt444.2.2 bt450.1 bt450.2.1 bt450.2.2)))))) = some r := H
   have A20 := Aside0.mk A200
   clear A200
   replace H := Option.bind_eq_some_iff.mp H
   obtain ⟨⟨t442, t443⟩, A210, H⟩ := H
   replace H : ((laws_toChart.f k a0_0 a0_1 l0_2).bind fun bt444 => ((laws_toChart.f k a1_0 a1_1 l1_2).bind fun bt450 => ((impl_AnyWayPlaces.f k bt444.1 bt444.2.1 bt444.2.2 bt450.1 bt450.2.1 bt450.2.2).bind fun bt456 => (if bt456.1 = t442 then (laws_FnExactAnyWayPlaces.j0 k (bt456.2 != t443) a0_0 a0_1 l0_2 a1_0 a1_1 l1_2 bt444.1 bt444.2.1 bt444.2.2 bt450.1 bt450.2.1 bt450.2.2) else (laws_FnExactAnyWayPlaces.j0 k true a0_0 a0_1 l0_2 a1_0 a1_1 l1_2 bt444.1 bt444.2.1 bt444.2.2 bt450.1 bt450.2.1 bt450.2.2))))) = some r := H
   have A21 := Aside0.mk A210
   clear A210
   replace H := Option.bind_eq_some_iff.mp H
   obtain ⟨⟨t444, t445, t446⟩, A220, H⟩ := H
   replace H : ((laws_toChart.f k a1_0 a1_1 l1_2).bind fun bt450 => ((impl_AnyWayPlaces.f k t444 t445 t446 bt450.1 bt450.2.1 bt450.2.2).bind fun bt456 => (if bt456.1 = t442 then (laws_FnExactAnyWayPlaces.j0 k (bt456.2 != t443) a0_0 a0_1 l0_2 a1_0 a1_1 l1_2 t444 t445 t446 bt450.1 bt450.2.1 bt450.2.2) else (laws_FnExactAnyWayPlaces.j0 k true a0_0 a0_1 l0_2 a1_0 a1_1 l1_2 t444 t445 t446 bt450.1 bt450.2.1 bt450.2.2)))) = some r := H
   have A22 := Aside0.mk A220
   clear A220
   replace H := Option.bind_eq_some_iff.mp H
   obtain ⟨⟨t450, t451, t452⟩, A230, H⟩ := H
   replace H : ((impl_AnyWayPlaces.f k t444 t445 t446 t450 t451 t452).bind fun bt456 => (if bt456.1 = t442 then (laws_FnExactAnyWayPlaces.j0 k (bt456.2 != t443) a0_0 a0_1 l0_2 a1_0 a1_1 l1_2 t444 t445 t446 t450 t451 t452) else (laws_FnExactAnyWayPlaces.j0 k true a0_0 a0_1 l0_2 a1_0 a1_1 l1_2 t444 t445 t446 t450 t451 t452))) = some r := H
   have A23 := Aside0.mk A230
   clear A230
   replace H := Option.bind_eq_some_iff.mp H
   obtain ⟨⟨t456, t457⟩, A240, H⟩ := H
   replace H : (if t456 = t442 then (laws_FnExactAnyWayPlaces.j0 k (t457 != t443) a0_0 a0_1 l0_2 a1_0 a1_1 l1_2 t444 t445 t446 t450 t451 t452) else (laws_FnExactAnyWayPlaces.j0 k true a0_0 a0_1 l0_2 a1_0 a1_1 l1_2 t444 t445 t446 t450 t451 t452)) = some r := H
   have A24 := Aside0.mk A240
   clear A240
   have HC25 := Aside0.mk H
   clear H
   go_enter Try.func14, Try.ntmps14
   try go_wp2_with (first | ((with_reducible refine gate_dst (N := 2) rfl ?_); refine box_ (N := 2) (cs := #[.int .i64 a0_0, .int .i64 a0_1, .slice A0_2 l0_2.length c0_2]) (t := 24) ?_; intro gb428 hg w26 hbox hb; have BK428 := Aside0.mk (hbox); have GW428 := gz_ w hg; have GE428 := gz_ w hg; replace HB := Aside0.mk (below_step (bw_ w) hb); clear hb hbox hg) | ((with_reducible refine gate_dst (N := 3) rfl ?_); refine box_ (N := 3) (cs := #[.int .i64 a1_0, .int .i64 a1_1, .slice A1_2 l1_2.length c1_2]) (t := 24) ?_; intro gb429 hg w27 hbox hb; have n0_ := bb_ BK428 hb; have n1_ := Aside0.mk (below_step (bw_ w) hb); have n2_ := Aside0.mk (hbox); have n3_ := gz_ w hg; have n4_ := gz_ w hg; have n5_ := ne_ hg BK428; have n6_ := en_ hg BK428; clear BK428; clear HB; have BK428 := n0_; have HB := n1_; have BK429 := n2_; have GW429 := n3_; have GE429 := n4_; have NB428_429 := n5_; have NB429_428 := n6_; clear n0_ n1_ n2_ n3_ n4_ n5_ n6_; clear hb hbox hg; have hnb28 := NB428_429.out; have hnc28 := NB429_428.out; obtain ⟨hcz29_0, hcz29_1, hcz29_2, hfz29_0, hfz29_1, hfz29_2⟩ := bc3_ (w := w27) BK428) | ((with_reducible refine gate_callee (f := 15) rfl ?_); refine goesB (some 14) Try.func15 #[.agg #[.int .i64 a0_0, .int .i64 a0_1, .slice A0_2 l0_2.length c0_2], .int .i64 1048576] ?_; (with_reducible refine (laws_szChart.calls a0_0 a0_1 _ _ l0_2 1048576 t430 _ ?side1 ?side2 A3.out).mono ?_); (case side1 => exact cb_ HR0_2 HB); (case side2 => exact HC0_2.out); rintro e w30 ⟨rfl, hb⟩; refine ⟨_, rfl, ?_⟩; replace BK428 := bb_ BK428 hb; replace BK429 := bb_ BK429 hb; replace HB := Aside0.mk (below_step (bw_ w) hb); (try clear hb); (try clear hb2); (try clear hk); (try clear hi); obtain ⟨hcz31_0, hcz31_1, hcz31_2, hfz31_0, hfz31_1, hfz31_2⟩ := bc3_ (w := w30) BK429) | ((with_reducible refine gate_callee (f := 15) rfl ?_); refine goesB (some 19) Try.func15 #[.agg #[.int .i64 a1_0, .int .i64 a1_1, .slice A1_2 l1_2.length c1_2], .int .i64 t430] ?_; (with_reducible refine (laws_szChart.calls a1_0 a1_1 _ _ l1_2 t430 t431 _ ?side1 ?side2 A10.out).mono ?_); (case side1 => exact cb_ HR1_2 HB); (case side2 => exact HC1_2.out); rintro e w32 ⟨rfl, hb⟩; refine ⟨_, rfl, ?_⟩; replace BK428 := bb_ BK428 hb; replace BK429 := bb_ BK429 hb; replace HB := Aside0.mk (below_step (bw_ w) hb); (try clear hb); (try clear hb2); (try clear hk); (try clear hi)))
   replace BK428 := Aside0.mk (blk_drew BK428.out)
   replace BK429 := Aside0.mk (blk_drew BK429.out)
   replace HB := Aside0.mk (below_drew1 HB.out)
   refine start_ (n := 10) (S := fun w' => w'.cell? ⟨gb428, 0, none⟩ = some (.int .i64 a0_0) ∧ w'.cell? ⟨gb428, 1, none⟩ = some (.int .i64 a0_1) ∧ w'.cell? ⟨gb428, 2, none⟩ = some (.slice A0_2 l0_2.length c0_2) ∧ w'.cell? ⟨gb429, 0, none⟩ = some (.int .i64 a1_0) ∧ w'.cell? ⟨gb429, 1, none⟩ = some (.int .i64 a1_1) ∧ w'.cell? ⟨gb429, 2, none⟩ = some (.slice A1_2 l1_2.length c1_2)) (ds := []) #[false, false, false, false, false, false, false, false, false, false] (by kernel_rfl) rfl rfl ⟨bc_ BK428 0, bc_ BK428 1, bc_ BK428 2, bc_ BK429 0, bc_ BK429 1, bc_ BK429 2⟩ (fun hHeld => ?_); refine with_tabW laws_FnExactAnyWayPlaces.tab8 laws_FnExactAnyWayPlaces.bits8 (fun HT_ HW_ => ?_)
   generalize w32.drew = w33 at BK428 BK429 HB hHeld ⊢
   refine takeA (N := some 23) 0 HT_ HW_ hHeld ?_
   refine takeA (N := some 25) 2 HT_ HW_ hHeld ?_
   refine oneA (N := some 24) 1 HT_ (fun K hK => ?_)
   refine goesA Try.func17 #[.agg #[.int .i64 a0_0, .int .i64 a0_1, .slice A0_2 l0_2.length c0_2]] ?_
   with_reducible refine (laws_toChart.calls k a0_0 a0_1 _ _ l0_2 t432 t433 t434 _ ?side1 ?side2 A19.out).mono ?_
   (case side1 => exact cb_ HR0_2 HB)
   (case side2 => exact HC0_2.out)
   rintro e w34 ⟨v435, rfl, ho0, hb⟩
   refine ⟨_, rfl, ?_⟩
   have HO436 := Aside0.mk (Kd.R_lower ho0 (below_size (bw_ w)))
   replace BK428 := bb_ BK428 hb
   replace BK429 := bb_ BK429 hb
   replace HB := Aside0.mk (below_step (bw_ w) hb)
   (try clear hb)
   (try clear hb2)
   (try clear hk)
   (try clear hi)
   (try clear ho0)
   refine hK.out _ _ ⟨bc_ BK428 0, bc_ BK428 1, bc_ BK428 2, bc_ BK429 0, bc_ BK429 1, bc_ BK429 2⟩ (fun hHeld => ?_)
   clear hK K
   refine normA (N := some 24) ?_
   refine oneA (N := some 26) 3 HT_ (fun K hK => ?_)
   refine goesA Try.func17 #[.agg #[.int .i64 a1_0, .int .i64 a1_1, .slice A1_2 l1_2.length c1_2]] ?_
   with_reducible refine (laws_toChart.calls k a1_0 a1_1 _ _ l1_2 t437 t438 t439 _ ?side1 ?side2 A20.out).mono ?_
   (case side1 => exact cb_ HR1_2 HB)
   (case side2 => exact HC1_2.out)
   rintro e w35 ⟨v440, rfl, ho0, hb⟩
   refine ⟨_, rfl, ?_⟩
   have n0_ := Aside0.mk (Kd.R_elder' (ra_ HO436) (Kd.R_base ho0) hb)
   have n1_ := Aside0.mk (Kd.R_lower (Kd.R_new' ho0 (Kd.R_lt (ra_ HO436))) (below_size (bw_ w)))
   have n2_ := bb_ BK428 hb
   have n3_ := bb_ BK429 hb
   have n4_ := Aside0.mk (below_step (bw_ w) hb)
   clear HO436
   clear BK428
   clear BK429
   clear HB
   have HO436 := n0_
   have HO441 := n1_
   have BK428 := n2_
   have BK429 := n3_
   have HB := n4_
   clear n0_ n1_ n2_ n3_ n4_
   (try clear hb)
   (try clear hb2)
   (try clear hk)
   (try clear hi)
   (try clear ho0)
   obtain ⟨Ao36, co36, eo36⟩ := Kd.R_slice HO436.out
   (first | subst eo36 | (injection eo36 with f1_ f2_ f3_; have f4_ := f1_.symm; have f5_ := f3_.symm; clear f1_ f2_ f3_; subst f4_; subst f5_))
   obtain ⟨Ao37, co37, eo37⟩ := Kd.R_slice HO441.out
   (first | subst eo37 | (injection eo37 with f1_ f2_ f3_; have f4_ := f1_.symm; have f5_ := f3_.symm; clear f1_ f2_ f3_; subst f4_; subst f5_))
   refine hK.out _ _ ⟨bc_ BK428 0, bc_ BK428 1, bc_ BK428 2, bc_ BK429 0, bc_ BK429 1, bc_ BK429 2⟩ (fun hHeld => ?_)
   clear hK K
   refine normA (N := some 26) ?_
   refine oneA (N := some 27) 4 HT_ (fun K hK => ?_)
   refine goesA Try.func51 #[.agg #[.int .i64 t432, .int .i64 t433, .slice Ao36 t434.length co36], .agg #[.int .i64 t437, .int .i64 t438, .slice Ao37 t439.length co37]] ?_
   with_reducible refine (spec_AnyWayPlaces.calls k t432 t433 _ _ t434 t437 t438 _ _ t439 t442 t443 _ ?side1 ?side2 ?side3 ?side4 A21.out).mono ?_
   (case side1 => exact co_ (Kd.R_reads' HO436.out).2.2)
   (case side2 => exact (Kd.R_reads' HO436.out).2.1)
   (case side3 => exact co_ (Kd.R_reads' HO441.out).2.2)
   (case side4 => exact (Kd.R_reads' HO441.out).2.1)
   rintro e w38 ⟨rfl, hb⟩
   refine ⟨_, rfl, ?_⟩
   replace HO436 := Aside0.mk (Kd.R_below (ra_ HO436) hb)
   replace HO441 := Aside0.mk (Kd.R_below (ra_ HO441) hb)
   replace BK428 := bb_ BK428 hb
   replace BK429 := bb_ BK429 hb
   replace HB := Aside0.mk (below_step (bw_ w) hb)
   (try clear hb)
   (try clear hb2)
   (try clear hk)
   (try clear hi)
   refine hK.out _ _ ⟨bc_ BK428 0, bc_ BK428 1, bc_ BK428 2, bc_ BK429 0, bc_ BK429 1, bc_ BK429 2⟩ (fun hHeld => ?_)
   clear hK K
   refine normA (N := some 27) ?_
   refine pureA (N := some 22) 5 HT_ ?_
   refine pureA (N := some 28) 6 HT_ ?_
   refine pureA (N := some 29) 7 HT_ ?_
   refine pureA (N := some 6) 8 HT_ ?_
   refine pureA (N := some 7) 9 HT_ ?_
   refine done_ (done_of HT_.out (by kernel_rfl)) ?_
   obtain ⟨hcz39_0, hcz39_1, hcz39_2, hfz39_0, hfz39_1, hfz39_2⟩ := bc3_ (w := w38) BK428
   go_upto_region 12 with (first | ((with_reducible refine gate_callee (f := 17) rfl ?_); refine goesB (some 31) Try.func17 #[.agg #[.int .i64 a0_0, .int .i64 a0_1, .slice A0_2 l0_2.length c0_2]] ?_; (with_reducible refine (laws_toChart.calls k a0_0 a0_1 _ _ l0_2 t444 t445 t446 _ ?side1 ?side2 A22.out).mono ?_); (case side1 => exact cb_ HR0_2 HB); (case side2 => exact HC0_2.out); rintro e w40 ⟨v447, rfl, ho0, hb⟩; refine ⟨_, rfl, ?_⟩; have n0_ := Aside0.mk (Kd.R_elder' (ra_ HO436) (Kd.R_base ho0) hb); have n1_ := Aside0.mk (Kd.R_elder' (ra_ HO441) (Kd.R_base ho0) hb); have n2_ := Aside0.mk (Kd.R_lower (Kd.R_new' (Kd.R_new' ho0 (Kd.R_lt (ra_ HO436))) (Kd.R_lt (ra_ HO441))) (below_size (bw_ w))); have n3_ := bb_ BK428 hb; have n4_ := bb_ BK429 hb; have n5_ := Aside0.mk (below_step (bw_ w) hb); clear HO436; clear HO441; clear BK428; clear BK429; clear HB; have HO436 := n0_; have HO441 := n1_; have HO448 := n2_; have BK428 := n3_; have BK429 := n4_; have HB := n5_; clear n0_ n1_ n2_ n3_ n4_ n5_; (try clear hb); (try clear hb2); (try clear hk); (try clear hi); (try clear ho0)) | ((with_reducible refine gate_dst (N := 8) rfl ?_); refine box_ (N := 8) (cs := #[.int .i64 0, .int .i64 0, .slice none 0 0]) (t := 26) ?_; intro gb449 hg w41 hbox hb; have n0_ := Aside0.mk (Kd.R_below (ra_ HO436) hb); have n1_ := Aside0.mk (Kd.R_below (ra_ HO441) hb); have n2_ := Aside0.mk (Kd.R_below (ra_ HO448) hb); have n3_ := bb_ BK428 hb; have n4_ := bb_ BK429 hb; have n5_ := Aside0.mk (below_step (bw_ w) hb); have n6_ := Aside0.mk (hbox); have n7_ := gz_ w hg; have n8_ := gz_ w hg; have n9_ := ne_ hg BK428; have n10_ := en_ hg BK428; have n11_ := ne_ hg BK429; have n12_ := en_ hg BK429; clear HO436; clear HO441; clear HO448; clear BK428; clear BK429; clear HB; have HO436 := n0_; have HO441 := n1_; have HO448 := n2_; have BK428 := n3_; have BK429 := n4_; have HB := n5_; have BK449 := n6_; have GW449 := n7_; have GE449 := n8_; have NB428_449 := n9_; have NB449_428 := n10_; have NB429_449 := n11_; have NB449_429 := n12_; clear n0_ n1_ n2_ n3_ n4_ n5_ n6_ n7_ n8_ n9_ n10_ n11_ n12_; clear hb hbox hg; have hnb42 := NB449_428.out; have hnc42 := NB428_449.out; have hnb43 := NB449_429.out; have hnc43 := NB429_449.out; obtain ⟨hcz44_0, hcz44_1, hcz44_2, hfz44_0, hfz44_1, hfz44_2⟩ := bc3_ (w := w41) BK449; obtain ⟨Ao45, co45, eo45⟩ := Kd.R_slice HO448.out; subst eo45; obtain ⟨hcz46_0, hcz46_1, hcz46_2, hfz46_0, hfz46_1, hfz46_2⟩ := bc3_ (w := w41) BK429) | ((with_reducible refine gate_callee (f := 17) rfl ?_); refine goesB (some 33) Try.func17 #[.agg #[.int .i64 a1_0, .int .i64 a1_1, .slice A1_2 l1_2.length c1_2]] ?_; (with_reducible refine (laws_toChart.calls k a1_0 a1_1 _ _ l1_2 t450 t451 t452 _ ?side1 ?side2 A23.out).mono ?_); (case side1 => exact Kd.C_below HR1_2.out (bw_ w)); (case side2 => exact HC1_2.out); rintro e w47 ⟨v453, rfl, ho0, hb⟩; refine ⟨_, rfl, ?_⟩; have n0_ := Aside0.mk (Kd.R_elder' (by exact rf_ (Kd.R_types HO436.out BK449.out (by decide)) (fun _ h_ => h_.1)) (Kd.R_base ho0) hb); have n1_ := Aside0.mk (Kd.R_elder' (by exact rf_ (Kd.R_types HO441.out BK449.out (by decide)) (fun _ h_ => h_.1)) (Kd.R_base ho0) hb); have n2_ := Aside0.mk (Kd.R_elder' (by exact rf_ (Kd.R_types HO448.out BK449.out (by decide)) (fun _ h_ => h_.1)) (Kd.R_base ho0) hb); have n3_ := Aside0.mk (Kd.R_lower (Kd.R_new' (Kd.R_new' (Kd.R_new' ho0 (Kd.R_lt (by exact rf_ (Kd.R_types HO436.out BK449.out (by decide)) (fun _ h_ => h_.1)))) (Kd.R_lt (by exact rf_ (Kd.R_types HO441.out BK449.out (by decide)) (fun _ h_ => h_.1)))) (Kd.R_lt (by exact rf_ (Kd.R_types HO448.out BK449.out (by decide)) (fun _ h_ => h_.1)))) (below_size (bw_ w))); have n4_ := bb_ BK428 hb; have n5_ := bb_ BK429 hb; have n6_ := Aside0.mk (blk_below (g := gb449) (o := .cells #[.int .i64 t444, .int .i64 t445, .slice Ao45 t446.length co45] 26 (0, 0)) (bq_ BK449) hb); have n7_ := Aside0.mk (below_step (bw_ w) hb); clear HO436; clear HO441; clear HO448; clear BK428; clear BK429; clear BK449; clear HB; have HO436 := n0_; have HO441 := n1_; have HO448 := n2_; have HO454 := n3_; have BK428 := n4_; have BK429 := n5_; have BK449 := n6_; have HB := n7_; clear n0_ n1_ n2_ n3_ n4_ n5_ n6_ n7_; (try clear hb); (try clear hb2); (try clear hk); (try clear hi); (try clear ho0)) | ((with_reducible refine gate_dst (N := 9) rfl ?_); refine box_ (N := 9) (cs := #[.int .i64 0, .int .i64 0, .slice none 0 0]) (t := 26) ?_; intro gb455 hg w48 hbox hb; have n0_ := Aside0.mk (Kd.R_below (ra_ HO436) hb); have n1_ := Aside0.mk (Kd.R_below (ra_ HO441) hb); have n2_ := Aside0.mk (Kd.R_below (ra_ HO448) hb); have n3_ := Aside0.mk (Kd.R_below (ra_ HO454) hb); have n4_ := bb_ BK428 hb; have n5_ := bb_ BK429 hb; have n6_ := bb_ BK449 hb; have n7_ := Aside0.mk (below_step (bw_ w) hb); have n8_ := Aside0.mk (hbox); have n9_ := gz_ w hg; have n10_ := gz_ w hg; have n11_ := ne_ hg BK428; have n12_ := en_ hg BK428; have n13_ := ne_ hg BK429; have n14_ := en_ hg BK429; have n15_ := ne_ hg BK449; have n16_ := en_ hg BK449; clear HO436; clear HO441; clear HO448; clear HO454; clear BK428; clear BK429; clear BK449; clear HB; have HO436 := n0_; have HO441 := n1_; have HO448 := n2_; have HO454 := n3_; have BK428 := n4_; have BK429 := n5_; have BK449 := n6_; have HB := n7_; have BK455 := n8_; have GW455 := n9_; have GE455 := n10_; have NB428_455 := n11_; have NB455_428 := n12_; have NB429_455 := n13_; have NB455_429 := n14_; have NB449_455 := n15_; have NB455_449 := n16_; clear n0_ n1_ n2_ n3_ n4_ n5_ n6_ n7_ n8_ n9_ n10_ n11_ n12_ n13_ n14_ n15_ n16_; clear hb hbox hg; have hnb49 := NB455_428.out; have hnc49 := NB428_455.out; have hnb50 := NB455_429.out; have hnc50 := NB429_455.out; have hnb51 := NB455_449.out; have hnc51 := NB449_455.out; obtain ⟨hcz52_0, hcz52_1, hcz52_2, hfz52_0, hfz52_1, hfz52_2⟩ := bc3_ (w := w48) BK455; obtain ⟨Ao53, co53, eo53⟩ := Kd.R_slice HO454.out; subst eo53; obtain ⟨hcz54_0, hcz54_1, hcz54_2, hfz54_0, hfz54_1, hfz54_2⟩ := bc3_ (w := w48) BK449) | ((with_reducible refine gate_callee (f := 52) rfl ?_); refine goesB (some 37) Try.func52 #[.agg #[.int .i64 t444, .int .i64 t445, .slice Ao45 t446.length co45], .agg #[.int .i64 t450, .int .i64 t451, .slice Ao53 t452.length co53]] ?_; (with_reducible refine (impl_AnyWayPlaces.calls k t444 t445 _ _ t446 t450 t451 _ _ t452 t456 t457 _ ?side1 ?side2 ?side3 ?side4 A24.out).mono ?_); (case side1 => refine (Kd.R_reads' (e := 3) (base := w.heap.size) (ok := fun k_ => (((True ∧ some k_ ≠ (.slice Ao36 t434.length co36 : Value).ownBlock) ∧ some k_ ≠ (.slice Ao37 t439.length co37 : Value).ownBlock) ∧ some k_ ≠ (.slice Ao53 t452.length co53 : Value).ownBlock)) (n := t446.length) (c := co45) ?_).2.2; exact (by exact rf_ (Kd.R_types HO448.out BK455.out (by decide)) (fun _ h_ => h_.1))); (case side2 => exact (Kd.R_reads' HO448.out).2.1); (case side3 => refine (Kd.R_reads' (e := 3) (base := w.heap.size) (ok := fun k_ => (((True ∧ some k_ ≠ (.slice Ao36 t434.length co36 : Value).ownBlock) ∧ some k_ ≠ (.slice Ao37 t439.length co37 : Value).ownBlock) ∧ some k_ ≠ (.slice Ao45 t446.length co45 : Value).ownBlock)) (n := t452.length) (c := co53) ?_).2.2; exact (by exact rf_ (Kd.R_types HO454.out BK455.out (by decide)) (fun _ h_ => h_.1))); (case side4 => exact (Kd.R_reads' HO454.out).2.1); rintro e w55 ⟨rfl, hb⟩; refine ⟨_, rfl, ?_⟩; replace HO436 := Aside0.mk (Kd.R_below (by exact rf_ (Kd.R_types HO436.out BK455.out (by decide)) (fun _ h_ => h_.1)) hb); replace HO441 := Aside0.mk (Kd.R_below (by exact rf_ (Kd.R_types HO441.out BK455.out (by decide)) (fun _ h_ => h_.1)) hb); replace HO448 := Aside0.mk (Kd.R_below (by exact rf_ (Kd.R_types HO448.out BK455.out (by decide)) (fun _ h_ => h_.1)) hb); replace HO454 := Aside0.mk (Kd.R_below (by exact rf_ (Kd.R_types HO454.out BK455.out (by decide)) (fun _ h_ => h_.1)) hb); replace BK428 := bb_ BK428 hb; replace BK429 := bb_ BK429 hb; replace BK449 := bb_ BK449 hb; replace BK455 := Aside0.mk (blk_below (g := gb455) (o := .cells #[.int .i64 t450, .int .i64 t451, .slice Ao53 t452.length co53] 26 (0, 0)) (bq_ BK455) hb); replace HB := Aside0.mk (below_step (bw_ w) hb); (try clear hb); (try clear hb2); (try clear hk); (try clear hi)))
   (try simp only [Act.put, List.setIfInBounds_toArray, List.set_cons_zero, List.set_cons_succ])
   go_cut [47] (fun v47 wc => ∃ (kq : Nat) (x47_24 : Bool), v47 = .bool x47_24 ∧ Aside0 (laws_FnExactAnyWayPlaces.j0 kq x47_24 a0_0 a0_1 l0_2 a1_0 a1_1 l1_2 t444 t445 t446 t450 t451 t452 = some r) ∧ Aside0 (kq ≤ k) ∧ Aside0 (Kd.R (Kd.int .i64) 3 wc w.heap.size (fun k_ => some k_ ≠ ((.slice Ao53 t452.length co53) : Value).ownBlock) (.slice Ao45 t446.length co45) t446) ∧ Aside0 (Kd.R (Kd.int .i64) 3 wc w.heap.size (fun k_ => some k_ ≠ ((.slice Ao45 t446.length co45) : Value).ownBlock) (.slice Ao53 t452.length co53) t452) ∧ Aside0 (wc.heap[gb428]? = some (.cells #[.int .i64 a0_0, .int .i64 a0_1, (.slice A0_2 l0_2.length c0_2)] 24 (0, 0))) ∧ Aside0 (wc.heap[gb429]? = some (.cells #[.int .i64 a1_0, .int .i64 a1_1, (.slice A1_2 l1_2.length c1_2)] 24 (0, 0))) ∧ Aside0 (wc.heap[gb449]? = some (.cells #[.int .i64 t444, .int .i64 t445, (.slice Ao45 t446.length co45)] 26 (0, 0))) ∧ Aside0 (wc.heap[gb455]? = some (.cells #[.int .i64 t450, .int .i64 t451, (.slice Ao53 t452.length co53)] 26 (0, 0))) ∧ Aside0 (Below w.heap.size w wc))
   case first =>
    have H := HC25.out
    clear HC25
    by_cases c56 : t456 = t442
    ·rw [if_pos c56] at H
     have c56b0 : (t456 == t442) = true := beq_iff_eq.mpr c56
     have c56b1 : (t456 != t442) = false := bne_eq_false_iff_eq.mpr c56
     clear c56
     (first | rw [c56b0] | (simp only [i64_w, i32_w]; rw [c56b0]) | skip)
     have H' := Aside0.mk H
     clear H
     go_wp2
     go_meet
     case rel => exact ⟨_, ((t457 != t443)), (by first | rfl | (simp; done) | (simp [*]; done)), H', ⟨by first | omega | exact Nat.le_refl _⟩, ⟨by exact rf_ HO448.out (fun _ hk => hk.2)⟩, ⟨by exact rf_ HO454.out (fun _ hk => hk.2)⟩, ⟨bk_ BK428⟩, ⟨bk_ BK429⟩, ⟨bk_ BK449⟩, ⟨bk_ BK455⟩, ⟨(bw_ w)⟩⟩
    ·rw [if_neg c56] at H
     have c56b0 : (t456 == t442) = false := beq_eq_false_iff_ne.mpr c56
     have c56b1 : (t456 != t442) = true := bne_iff_ne.mpr c56
     (first | rw [c56b0] | (simp only [i64_w, i32_w]; rw [c56b0]) | skip)
     have H' := Aside0.mk H
     clear H
     go_wp2
     go_meet
     case rel => exact ⟨_, (true), (by first | rfl | (simp; done) | (simp [*]; done)), H', ⟨by first | omega | exact Nat.le_refl _⟩, ⟨by exact rf_ HO448.out (fun _ hk => hk.2)⟩, ⟨by exact rf_ HO454.out (fun _ hk => hk.2)⟩, ⟨bk_ BK428⟩, ⟨bk_ BK429⟩, ⟨bk_ BK449⟩, ⟨bk_ BK455⟩, ⟨(bw_ w)⟩⟩
   case rest =>
    clear HC25
    try clear c1
    try clear c2
    try clear p2
    try clear c4
    try clear c4b0
    try clear c5
    try clear c7
    try clear c11
    try clear c11b0
    try clear c14
    try clear c15
    try clear c17
    try clear c28
    try clear c42
    try clear c43
    try clear c49
    try clear c50
    try clear c51
    try clear c52
    try clear c56
    try clear c56b0
    try clear c56b1
    try clear hcz15_0
    try clear hcz15_1
    try clear hcz15_2
    try clear hcz17_0
    try clear hcz17_1
    try clear hcz17_2
    try clear hcz29_0
    try clear hcz29_1
    try clear hcz29_2
    try clear hcz31_0
    try clear hcz31_1
    try clear hcz31_2
    try clear hcz39_0
    try clear hcz39_1
    try clear hcz39_2
    try clear hcz44_0
    try clear hcz44_1
    try clear hcz44_2
    try clear hcz46_0
    try clear hcz46_1
    try clear hcz46_2
    try clear hcz52_0
    try clear hcz52_1
    try clear hcz52_2
    try clear hcz54_0
    try clear hcz54_1
    try clear hcz54_2
    try clear hcz8_0
    try clear hcz8_1
    try clear hcz8_2
    try clear hfz15_0
    try clear hfz15_1
    try clear hfz15_2
    try clear hfz17_0
    try clear hfz17_1
    try clear hfz17_2
    try clear hfz29_0
    try clear hfz29_1
    try clear hfz29_2
    try clear hfz31_0
    try clear hfz31_1
    try clear hfz31_2
    try clear hfz39_0
    try clear hfz39_1
    try clear hfz39_2
    try clear hfz44_0
    try clear hfz44_1
    try clear hfz44_2
    try clear hfz46_0
    try clear hfz46_1
    try clear hfz46_2
    try clear hfz52_0
    try clear hfz52_1
    try clear hfz52_2
    try clear hfz54_0
    try clear hfz54_1
    try clear hfz54_2
    try clear hfz8_0
    try clear hfz8_1
    try clear hfz8_2
    obtain ⟨kq, x47_24, rfl, HA, HJ24, HO_450002, HO_456002, BK428, BK429, BK449, BK455, HB⟩ := hcut
    cases kq with
    | zero => exact absurd HA.out (by simp [laws_FnExactAnyWayPlaces.j0])
    | succ kj24 =>
     have H := HA.out
     clear HA
     simp only [laws_FnExactAnyWayPlaces.j0] at H
     by_cases c57 : x47_24 = true
     ·subst c57
      have H1 : (some false) = some r := by rw [if_pos rfl] at H; exact H
      clear H
      have H := H1
      clear H1
      exact absurd (H.trans (congrArg some HRT.out)) (by simp)
     ·replace c57 := Bool.eq_false_iff.mpr c57
      subst c57
      have H1 : ((laws_toChart.f kj24 a0_0 a0_1 l0_2).bind fun bt458 => ((laws_eqChart.f kj24 t444 t445 t446 bt458.1 bt458.2.1 bt458.2.2).bind fun t463 => (if t463 = true then ((laws_toChart.f kj24 a1_0 a1_1 l1_2).bind fun bt464 => ((laws_eqChart.f kj24 t450 t451 t452 bt464.1 bt464.2.1 bt464.2.2).bind fun t469 => (if t469 = true then (some true) else (some false)))) else (some false)))) = some r := by rw [if_neg (show ¬ (false = true) by decide)] at H; exact H
      clear H
      have H := H1
      clear H1
      replace H := Option.bind_eq_some_iff.mp H
      obtain ⟨⟨t458, t459, t460⟩, A580, H⟩ := H
      replace H : ((laws_eqChart.f kj24 t444 t445 t446 t458 t459 t460).bind fun t463 => (if t463 = true then ((laws_toChart.f kj24 a1_0 a1_1 l1_2).bind fun bt464 => ((laws_eqChart.f kj24 t450 t451 t452 bt464.1 bt464.2.1 bt464.2.2).bind fun t469 => (if t469 = true then (some true) else (some false)))) else (some false))) = some r := H
      have A58 := Aside0.mk A580
      clear A580
      replace H := Option.bind_eq_some_iff.mp H
      obtain ⟨t463, A590, H⟩ := H
      replace H : (if t463 = true then ((laws_toChart.f kj24 a1_0 a1_1 l1_2).bind fun bt464 => ((laws_eqChart.f kj24 t450 t451 t452 bt464.1 bt464.2.1 bt464.2.2).bind fun t469 => (if t469 = true then (some true) else (some false)))) else (some false)) = some r := H
      have A59 := Aside0.mk A590
      clear A590
      by_cases c60 : t463 = true
      ·subst c60
       have H1 : ((laws_toChart.f kj24 a1_0 a1_1 l1_2).bind fun bt464 => ((laws_eqChart.f kj24 t450 t451 t452 bt464.1 bt464.2.1 bt464.2.2).bind fun t469 => (if t469 = true then (some true) else (some false)))) = some r := by rw [if_pos rfl] at H; exact H
       clear H
       have H := H1
       clear H1
       replace H := Option.bind_eq_some_iff.mp H
       obtain ⟨⟨t464, t465, t466⟩, A610, H⟩ := H
       replace H : ((laws_eqChart.f kj24 t450 t451 t452 t464 t465 t466).bind fun t469 => (if t469 = true then (some true) else (some false))) = some r := H
       have A61 := Aside0.mk A610
       clear A610
       replace H := Option.bind_eq_some_iff.mp H
       obtain ⟨t469, A620, H⟩ := H
       replace H : (if t469 = true then (some true) else (some false)) = some r := H
       have A62 := Aside0.mk A620
       clear A620
       by_cases c63 : t469 = true
       ·subst c63
        have H1 : (some true) = some r := by rw [if_pos rfl] at H; exact H
        clear H
        have H := H1
        clear H1
        obtain rfl := Option.some.inj H
        try go_wp2
        replace HO_450002 := Aside0.mk (Kd.R_drew HO_450002.out)
        replace HO_456002 := Aside0.mk (Kd.R_drew HO_456002.out)
        replace BK428 := Aside0.mk (blk_drew BK428.out)
        replace BK429 := Aside0.mk (blk_drew BK429.out)
        replace BK449 := Aside0.mk (blk_drew BK449.out)
        replace BK455 := Aside0.mk (blk_drew BK455.out)
        replace HB := Aside0.mk (below_drew1 HB.out)
        refine start_ (n := 5) (S := fun w' => w'.cell? ⟨gb449, 0, none⟩ = some (.int .i64 t444) ∧ w'.cell? ⟨gb449, 1, none⟩ = some (.int .i64 t445) ∧ w'.cell? ⟨gb449, 2, none⟩ = some (.slice Ao45 t446.length co45) ∧ w'.cell? ⟨gb428, 0, none⟩ = some (.int .i64 a0_0) ∧ w'.cell? ⟨gb428, 1, none⟩ = some (.int .i64 a0_1) ∧ w'.cell? ⟨gb428, 2, none⟩ = some (.slice A0_2 l0_2.length c0_2)) (ds := []) #[false, false, false, false, false] (by kernel_rfl) rfl rfl ⟨bc_ BK449 0, bc_ BK449 1, bc_ BK449 2, bc_ BK428 0, bc_ BK428 1, bc_ BK428 2⟩ (fun hHeld => ?_)
        generalize wc.drew = w64 at HO_450002 HO_456002 BK428 BK429 BK449 BK455 HB hHeld ⊢
        refine take_ (i := 0) (N := some 48) (v := ?_) (a' := ?_) #[true, false, false, false, false] rfl rfl (by kernel_rfl) (fun _ _ _ h => h) (Or.inl ⟨by rfl, ?_⟩) hHeld ?_ ?_
        rotate_left
        ·rintro w' ⟨s0, s1, s2, s3, s4, s5⟩
         go_simp
         with_reducible rfl
        rotate_left
        ·simp only [Act.put, List.setIfInBounds_toArray, List.set_cons_zero, List.set_cons_succ, i64_w, i32_w]
         rfl
        refine take_ (i := 1) (N := some 49) (v := ?_) (a' := ?_) #[true, true, false, false, false] rfl rfl (by kernel_rfl) (fun _ _ _ h => h) (Or.inl ⟨by rfl, ?_⟩) hHeld ?_ ?_
        rotate_left
        ·rintro w' ⟨s0, s1, s2, s3, s4, s5⟩
         go_simp
         with_reducible rfl
        rotate_left
        ·simp only [Act.put, List.setIfInBounds_toArray, List.set_cons_zero, List.set_cons_succ, i64_w, i32_w]
         rfl
        refine one_ (i := 2) (N := some 50) #[true, true, true, false, false] rfl rfl (by kernel_rfl) (by decide) (fun K hK => ?_)
        refine goesA Try.func17 #[.agg #[.int .i64 a0_0, .int .i64 a0_1, .slice A0_2 l0_2.length c0_2]] ?_
        with_reducible refine (laws_toChart.calls kj24 a0_0 a0_1 _ _ l0_2 t458 t459 t460 _ ?side1 ?side2 A58.out).mono ?_
        (case side1 => exact cb_ HR0_2 HB)
        (case side2 => exact HC0_2.out)
        rintro e w65 ⟨v461, rfl, ho0, hb⟩
        refine ⟨_, rfl, ?_⟩
        have n0_ := Aside0.mk (Kd.R_elder' (ra_ HO_450002) (Kd.R_base ho0) hb)
        have n1_ := Aside0.mk (Kd.R_elder' (ra_ HO_456002) (Kd.R_base ho0) hb)
        have n2_ := Aside0.mk (Kd.R_lower (Kd.R_new' (Kd.R_new' ho0 (Kd.R_lt (ra_ HO_450002))) (Kd.R_lt (ra_ HO_456002))) (below_size (bw_ w)))
        have n3_ := bb_ BK428 hb
        have n4_ := bb_ BK429 hb
        have n5_ := bb_ BK449 hb
        have n6_ := bb_ BK455 hb
        have n7_ := Aside0.mk (below_step (bw_ w) hb)
        clear HO_450002
        clear HO_456002
        clear BK428
        clear BK429
        clear BK449
        clear BK455
        clear HB
        have HO_450002 := n0_
        have HO_456002 := n1_
        have HO462 := n2_
        have BK428 := n3_
        have BK429 := n4_
        have BK449 := n5_
        have BK455 := n6_
        have HB := n7_
        clear n0_ n1_ n2_ n3_ n4_ n5_ n6_ n7_
        (try clear hb)
        (try clear hb2)
        (try clear hk)
        (try clear hi)
        (try clear ho0)
        obtain ⟨Ao66, co66, eo66⟩ := Kd.R_slice HO462.out
        (first | subst eo66 | (injection eo66 with f1_ f2_ f3_; have f4_ := f1_.symm; have f5_ := f3_.symm; clear f1_ f2_ f3_; subst f4_; subst f5_))
        refine hK.out _ _ ⟨bc_ BK449 0, bc_ BK449 1, bc_ BK449 2, bc_ BK428 0, bc_ BK428 1, bc_ BK428 2⟩ (fun hHeld => ?_)
        clear hK K
        refine normA (N := some 50) ?_
        refine one_ (i := 3) (N := some 51) #[true, true, true, true, false] rfl rfl (by kernel_rfl) (by decide) (fun K hK => ?_)
        refine goesA Try.func19 #[.agg #[.int .i64 t444, .int .i64 t445, .slice Ao45 t446.length co45], .agg #[.int .i64 t458, .int .i64 t459, .slice Ao66 t460.length co66]] ?_
        with_reducible refine (laws_eqChart.calls kj24 t444 t445 _ _ t446 t458 t459 _ _ t460 true _ ?side1 ?side2 ?side3 ?side4 A59.out).mono ?_
        (case side1 => exact co_ (Kd.R_reads' HO_450002.out).2.2)
        (case side2 => exact (Kd.R_reads' HO_450002.out).2.1)
        (case side3 => exact co_ (Kd.R_reads' HO462.out).2.2)
        (case side4 => exact (Kd.R_reads' HO462.out).2.1)
        rintro e w67 ⟨rfl, hb⟩
        refine ⟨_, rfl, ?_⟩
        replace HO_450002 := Aside0.mk (Kd.R_below (ra_ HO_450002) hb)
        replace HO_456002 := Aside0.mk (Kd.R_below (ra_ HO_456002) hb)
        replace HO462 := Aside0.mk (Kd.R_below (ra_ HO462) hb)
        replace BK428 := bb_ BK428 hb
        replace BK429 := bb_ BK429 hb
        replace BK449 := bb_ BK449 hb
        replace BK455 := bb_ BK455 hb
        replace HB := Aside0.mk (below_step (bw_ w) hb)
        (try clear hb)
        (try clear hb2)
        (try clear hk)
        (try clear hi)
        refine hK.out _ _ ⟨bc_ BK449 0, bc_ BK449 1, bc_ BK449 2, bc_ BK428 0, bc_ BK428 1, bc_ BK428 2⟩ (fun hHeld => ?_)
        clear hK K
        refine normA (N := some 51) ?_
        refine pureK (N := some 52) 4 ?_
        refine done_ (by kernel_rfl) ?_
        try go_wp2
        replace HO_450002 := Aside0.mk (Kd.R_drew HO_450002.out)
        replace HO_456002 := Aside0.mk (Kd.R_drew HO_456002.out)
        replace HO462 := Aside0.mk (Kd.R_drew HO462.out)
        replace BK428 := Aside0.mk (blk_drew BK428.out)
        replace BK429 := Aside0.mk (blk_drew BK429.out)
        replace BK449 := Aside0.mk (blk_drew BK449.out)
        replace BK455 := Aside0.mk (blk_drew BK455.out)
        replace HB := Aside0.mk (below_drew1 HB.out)
        refine start_ (n := 5) (S := fun w' => w'.cell? ⟨gb455, 0, none⟩ = some (.int .i64 t450) ∧ w'.cell? ⟨gb455, 1, none⟩ = some (.int .i64 t451) ∧ w'.cell? ⟨gb455, 2, none⟩ = some (.slice Ao53 t452.length co53) ∧ w'.cell? ⟨gb429, 0, none⟩ = some (.int .i64 a1_0) ∧ w'.cell? ⟨gb429, 1, none⟩ = some (.int .i64 a1_1) ∧ w'.cell? ⟨gb429, 2, none⟩ = some (.slice A1_2 l1_2.length c1_2)) (ds := []) #[false, false, false, false, false] (by kernel_rfl) rfl rfl ⟨bc_ BK455 0, bc_ BK455 1, bc_ BK455 2, bc_ BK429 0, bc_ BK429 1, bc_ BK429 2⟩ (fun hHeld => ?_)
        generalize w67.drew = w68 at HO_450002 HO_456002 HO462 BK428 BK429 BK449 BK455 HB hHeld ⊢
        refine take_ (i := 0) (N := some 53) (v := ?_) (a' := ?_) #[true, false, false, false, false] rfl rfl (by kernel_rfl) (fun _ _ _ h => h) (Or.inl ⟨by rfl, ?_⟩) hHeld ?_ ?_
        rotate_left
        ·rintro w' ⟨s0, s1, s2, s3, s4, s5⟩
         go_simp
         with_reducible rfl
        rotate_left
        ·simp only [Act.put, List.setIfInBounds_toArray, List.set_cons_zero, List.set_cons_succ, i64_w, i32_w]
         rfl
        refine take_ (i := 1) (N := some 54) (v := ?_) (a' := ?_) #[true, true, false, false, false] rfl rfl (by kernel_rfl) (fun _ _ _ h => h) (Or.inl ⟨by rfl, ?_⟩) hHeld ?_ ?_
        rotate_left
        ·rintro w' ⟨s0, s1, s2, s3, s4, s5⟩
         go_simp
         with_reducible rfl
        rotate_left
        ·simp only [Act.put, List.setIfInBounds_toArray, List.set_cons_zero, List.set_cons_succ, i64_w, i32_w]
         rfl
        refine one_ (i := 2) (N := some 55) #[true, true, true, false, false] rfl rfl (by kernel_rfl) (by decide) (fun K hK => ?_)
        refine goesA Try.func17 #[.agg #[.int .i64 a1_0, .int .i64 a1_1, .slice A1_2 l1_2.length c1_2]] ?_
        with_reducible refine (laws_toChart.calls kj24 a1_0 a1_1 _ _ l1_2 t464 t465 t466 _ ?side1 ?side2 A61.out).mono ?_
        (case side1 => exact cb_ HR1_2 HB)
        (case side2 => exact HC1_2.out)
        rintro e w69 ⟨v467, rfl, ho0, hb⟩
        refine ⟨_, rfl, ?_⟩
        have n0_ := Aside0.mk (Kd.R_elder' (ra_ HO_450002) (Kd.R_base ho0) hb)
        have n1_ := Aside0.mk (Kd.R_elder' (ra_ HO_456002) (Kd.R_base ho0) hb)
        have n2_ := Aside0.mk (Kd.R_elder' (ra_ HO462) (Kd.R_base ho0) hb)
        have n3_ := Aside0.mk (Kd.R_lower (Kd.R_new' (Kd.R_new' (Kd.R_new' ho0 (Kd.R_lt (ra_ HO_450002))) (Kd.R_lt (ra_ HO_456002))) (Kd.R_lt (ra_ HO462))) (below_size (bw_ w)))
        have n4_ := bb_ BK428 hb
        have n5_ := bb_ BK429 hb
        have n6_ := bb_ BK449 hb
        have n7_ := bb_ BK455 hb
        have n8_ := Aside0.mk (below_step (bw_ w) hb)
        clear HO_450002
        clear HO_456002
        clear HO462
        clear BK428
        clear BK429
        clear BK449
        clear BK455
        clear HB
        have HO_450002 := n0_
        have HO_456002 := n1_
        have HO462 := n2_
        have HO468 := n3_
        have BK428 := n4_
        have BK429 := n5_
        have BK449 := n6_
        have BK455 := n7_
        have HB := n8_
        clear n0_ n1_ n2_ n3_ n4_ n5_ n6_ n7_ n8_
        (try clear hb)
        (try clear hb2)
        (try clear hk)
        (try clear hi)
        (try clear ho0)
        obtain ⟨Ao70, co70, eo70⟩ := Kd.R_slice HO468.out
        (first | subst eo70 | (injection eo70 with f1_ f2_ f3_; have f4_ := f1_.symm; have f5_ := f3_.symm; clear f1_ f2_ f3_; subst f4_; subst f5_))
        refine hK.out _ _ ⟨bc_ BK455 0, bc_ BK455 1, bc_ BK455 2, bc_ BK429 0, bc_ BK429 1, bc_ BK429 2⟩ (fun hHeld => ?_)
        clear hK K
        refine normA (N := some 55) ?_
        refine one_ (i := 3) (N := some 56) #[true, true, true, true, false] rfl rfl (by kernel_rfl) (by decide) (fun K hK => ?_)
        refine goesA Try.func19 #[.agg #[.int .i64 t450, .int .i64 t451, .slice Ao53 t452.length co53], .agg #[.int .i64 t464, .int .i64 t465, .slice Ao70 t466.length co70]] ?_
        with_reducible refine (laws_eqChart.calls kj24 t450 t451 _ _ t452 t464 t465 _ _ t466 true _ ?side1 ?side2 ?side3 ?side4 A62.out).mono ?_
        (case side1 => exact co_ (Kd.R_reads' HO_456002.out).2.2)
        (case side2 => exact (Kd.R_reads' HO_456002.out).2.1)
        (case side3 => exact co_ (Kd.R_reads' HO468.out).2.2)
        (case side4 => exact (Kd.R_reads' HO468.out).2.1)
        rintro e w71 ⟨rfl, hb⟩
        refine ⟨_, rfl, ?_⟩
        replace HO_450002 := Aside0.mk (Kd.R_below (ra_ HO_450002) hb)
        replace HO_456002 := Aside0.mk (Kd.R_below (ra_ HO_456002) hb)
        replace HO462 := Aside0.mk (Kd.R_below (ra_ HO462) hb)
        replace HO468 := Aside0.mk (Kd.R_below (ra_ HO468) hb)
        replace BK428 := bb_ BK428 hb
        replace BK429 := bb_ BK429 hb
        replace BK449 := bb_ BK449 hb
        replace BK455 := bb_ BK455 hb
        replace HB := Aside0.mk (below_step (bw_ w) hb)
        (try clear hb)
        (try clear hb2)
        (try clear hk)
        (try clear hi)
        refine hK.out _ _ ⟨bc_ BK455 0, bc_ BK455 1, bc_ BK455 2, bc_ BK429 0, bc_ BK429 1, bc_ BK429 2⟩ (fun hHeld => ?_)
        clear hK K
        refine normA (N := some 56) ?_
        refine pureK (N := some 57) 4 ?_
        refine done_ (by kernel_rfl) ?_
        try go_wp2
        go_ret
        exact ⟨by first | rfl | (simp [errW_none, errW_some] <;> rfl) | (simp [*, errW_none, errW_some] <;> rfl), (bw_ w)⟩
       ·replace c63 := Bool.eq_false_iff.mpr c63
        subst c63
        have H1 : (some false) = some r := by rw [if_neg (show ¬ (false = true) by decide)] at H; exact H
        clear H
        have H := H1
        clear H1
        exact absurd (H.trans (congrArg some HRT.out)) (by simp)
      ·replace c60 := Bool.eq_false_iff.mpr c60
       subst c60
       have H1 : (some false) = some r := by rw [if_neg (show ¬ (false = true) by decide)] at H; exact H
       clear H
       have H := H1
       clear H1
       exact absurd (H.trans (congrArg some HRT.out)) (by simp)

/-- The pure statement of laws_FnExactAnyWayPlaces. -/
def laws_FnExactAnyWayPlaces.Pure : Prop := ∀ (a0_0 : Int) (a0_1 : Int) (l0_2 : List Int) (a1_0 : Int) (a1_1 : Int) (l1_2 : List Int), ((Lit.int .i64 a0_0).wf = true) → ((Lit.int .i64 a0_1).wf = true) → (l0_2.length * 8 ≤ 140737488351232) → (∀ y0 ∈ l0_2, (Lit.int .i64 y0).wf = true) → ((Lit.int .i64 a1_0).wf = true) → ((Lit.int .i64 a1_1).wf = true) → (l1_2.length * 8 ≤ 140737488351232) → (∀ y0 ∈ l1_2, (Lit.int .i64 y0).wf = true) → ∃ k, laws_FnExactAnyWayPlaces.f k a0_0 a0_1 l0_2 a1_0 a1_1 l1_2 = some true

end Go.Proofs.Yteiaakppjcpgcaa.PFnExactAnyWayPlaces
