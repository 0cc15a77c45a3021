-- Printed by this session's own program (wip/tool/myprint.py, over the kit's print); Lean checks it.
import Derived.Test.YtijmljaemalgmaaPFnExactFewestChangesx0
import Derived.Test.YtijmljaemalgmaaPFnExactFewestChangesx1
import Derived.Test.YtijmljaemalgmaaPFnExactFewestChangesx5
import Derived.Test.YtijmljaemalgmaaPFnExactFewestChangesx8
namespace Go.Proofs.Ytijmljaemalgmaa.PFnExactFewestChanges
open Go.RowKit Go.Proofs.YtijmljaemalgmaaW.PrintWords Go.Proofs.YtijmljaemalgmaaW.PrintLast Go.Proofs.YtijmljaemalgmaaW.PrintMore
attribute [local go_sem] max2_int min2_int max_two min_two max_three min_three max_four min_four   -- for this text's walks alone
set_option linter.unusedVariables false
set_option linter.unusedSimpArgs false

/-! ### laws_FnExactFewestChanges: function 4 -/
def laws_FnExactFewestChanges.j0 : Nat → Bool → Int → Int → List Int → Int → Int → List Int → Option (Bool)
  | 0, _, _, _, _, _, _, _ => none
  | k + 1, x38, x410000, x410001, x410002, x424000, x424001, x424002 => if x38 = true then (some false) else ((laws_toChart.f k x410000 x410001 x410002).bind fun bt426 => ((laws_eqChart.f k x424000 x424001 x424002 bt426.1 bt426.2.1 bt426.2.2).bind fun t431 => (if t431 = true then (some true) else (some false))))
def laws_FnExactFewestChanges.f (k : Nat) (a0_0 : Int) (a0_1 : Int) (l0_2 : List Int) (a1 : Int) : Option (Bool) := (laws_szChart.f a0_0 a0_1 l0_2 1048576).bind fun t410 => (if t410 < 0 then (some true) else ((laws_toChart.f k a0_0 a0_1 l0_2).bind fun bt411 => ((spec_FewestChanges.f k bt411.1 bt411.2.1 bt411.2.2 a1).bind fun bt416 => ((laws_toChart.f k a0_0 a0_1 l0_2).bind fun bt418 => ((impl_FewestChanges.f k bt418.1 bt418.2.1 bt418.2.2 a1).bind fun bt424 => (if bt424.1 = bt416.1 then (laws_FnExactFewestChanges.j0 k (bt424.2 != bt416.2) a0_0 a0_1 l0_2 bt418.1 bt418.2.1 bt418.2.2) else (laws_FnExactFewestChanges.j0 k true a0_0 a0_1 l0_2 bt418.1 bt418.2.1 bt418.2.2)))))))
theorem laws_FnExactFewestChanges.mono_l : ∀ k, (∀ y0 y1 y2 y3 y4 y5 y6, LeO (laws_FnExactFewestChanges.j0 k y0 y1 y2 y3 y4 y5 y6) (laws_FnExactFewestChanges.j0 (k + 1) y0 y1 y2 y3 y4 y5 y6))
  | 0 => fun _ _ _ _ _ _ _ r h => by simp [laws_FnExactFewestChanges.j0] at h
  | k + 1 => by
    have ih0 := laws_FnExactFewestChanges.mono_l k
    · intro y0 y1 y2 y3 y4 y5 y6
      unfold laws_FnExactFewestChanges.j0
      repeat' first
      | (with_reducible exact ih0 _ _ _ _ _ _ _)
      | (with_reducible exact impl_FewestChanges.mono _ _ _ _ _)
      | (with_reducible exact laws_eqChart.mono _ _ _ _ _ _ _)
      | (with_reducible exact laws_toChart.mono _ _ _ _)
      | (with_reducible exact spec_FewestChanges.mono _ _ _ _ _)
      | (with_reducible exact LeO.refl _)
      | (with_reducible exact LeO.none _)
      | (with_reducible refine LeO.ite ?_ ?_)
      | (with_reducible refine LeO.bind ?_ (fun _ => ?_))
      | exact ih0 _ _ _ _ _ _ _
      | exact impl_FewestChanges.mono _ _ _ _ _
      | exact laws_eqChart.mono _ _ _ _ _ _ _
      | exact laws_toChart.mono _ _ _ _
      | exact spec_FewestChanges.mono _ _ _ _ _
      | exact LeO.none _
      | refine LeO.ite ?_ ?_
      | refine LeO.bind ?_ (fun _ => ?_)
theorem laws_FnExactFewestChanges.mono : ∀ a0 a1 a2 a3 k, LeO (laws_FnExactFewestChanges.f k a0 a1 a2 a3) (laws_FnExactFewestChanges.f (k + 1) a0 a1 a2 a3) := by
  intro a0 a1 a2 a3 k
  have ih0 := laws_FnExactFewestChanges.mono_l k
  unfold laws_FnExactFewestChanges.f
  repeat' first
      | (with_reducible exact ih0 _ _ _ _ _ _ _)
      | (with_reducible exact impl_FewestChanges.mono _ _ _ _ _)
      | (with_reducible exact laws_eqChart.mono _ _ _ _ _ _ _)
      | (with_reducible exact laws_toChart.mono _ _ _ _)
      | (with_reducible exact spec_FewestChanges.mono _ _ _ _ _)
      | (with_reducible exact LeO.refl _)
      | (with_reducible exact LeO.none _)
      | (with_reducible refine LeO.ite ?_ ?_)
      | (with_reducible refine LeO.bind ?_ (fun _ => ?_))
      | exact ih0 _ _ _ _ _ _ _
      | exact impl_FewestChanges.mono _ _ _ _ _
      | exact laws_eqChart.mono _ _ _ _ _ _ _
      | exact laws_toChart.mono _ _ _ _
      | exact spec_FewestChanges.mono _ _ _ _ _
      | exact LeO.none _
      | refine LeO.ite ?_ ?_
      | refine LeO.bind ?_ (fun _ => ?_)
set_option maxHeartbeats 8000000 in
set_option maxRecDepth 100000 in
theorem laws_FnExactFewestChanges.calls (k : Nat) (a0_0 : Int) (a0_1 : Int) (A0_2 : Option Addr) (c0_2 : Nat) (l0_2 : List Int) (a1 : Int) (w : World) (hr0_2 : Kd.C (Kd.int .i64) w A0_2 l0_2.length l0_2) (hc0_2 : l0_2.length ≤ c0_2) (h : laws_FnExactFewestChanges.f k a0_0 a0_1 l0_2 a1 = some true) :
  Calls Try.prog 4 #[.agg #[.int .i64 a0_0, .int .i64 a0_1, .slice A0_2 l0_2.length c0_2], .int .i64 a1] w fun e w' => e = .returned (.bool true) ∧ Below w.heap.size w w' := by
 obtain ⟨r, hrt_⟩ : ∃ r : Bool, true = r := ⟨true, rfl⟩
 rw [hrt_] at h ⊢
 have HRT := Aside0.mk hrt_.symm
 clear hrt_
 have hu24 := Try.underlying24
 have hu26 := Try.underlying26
 have HR0_2 := Aside0.mk hr0_2
 have HC0_2 := Aside0.mk hc0_2
 clear hr0_2 hc0_2
 have HB := Aside0.mk (Below.refl w.heap.size w)
 have H : ((laws_szChart.f a0_0 a0_1 l0_2 1048576).bind fun t410 => (if t410 < 0 then (some true) else ((laws_toChart.f k a0_0 a0_1 l0_2).bind fun bt411 => ((spec_FewestChanges.f k bt411.1 bt411.2.1 bt411.2.2 a1).bind fun bt416 => ((laws_toChart.f k a0_0 a0_1 l0_2).bind fun bt418 => ((impl_FewestChanges.f k bt418.1 bt418.2.1 bt418.2.2 a1).bind fun bt424 => (if bt424.1 = bt416.1 then (laws_FnExactFewestChanges.j0 k (bt424.2 != bt416.2) a0_0 a0_1 l0_2 bt418.1 bt418.2.1 bt418.2.2) else (laws_FnExactFewestChanges.j0 k true a0_0 a0_1 l0_2 bt418.1 bt418.2.1 bt418.2.2)))))))) = some r := h
 clear h
 replace H := Option.bind_eq_some_iff.mp H
 obtain ⟨t410, A30, H⟩ := H
 replace H : (if t410 < 0 then (some true) else ((laws_toChart.f k a0_0 a0_1 l0_2).bind fun bt411 => ((spec_FewestChanges.f k bt411.1 bt411.2.1 bt411.2.2 a1).bind fun bt416 => ((laws_toChart.f k a0_0 a0_1 l0_2).bind fun bt418 => ((impl_FewestChanges.f k bt418.1 bt418.2.1 bt418.2.2 a1).bind fun bt424 => (if bt424.1 = bt416.1 then (laws_FnExactFewestChanges.j0 k (bt424.2 != bt416.2) a0_0 a0_1 l0_2 bt418.1 bt418.2.1 bt418.2.2) else (laws_FnExactFewestChanges.j0 k true a0_0 a0_1 l0_2 bt418.1 bt418.2.1 bt418.2.2))))))) = some r := H
 have A3 := Aside0.mk A30
 clear A30
 by_cases c4 : t410 < 0
 ·rw [if_pos c4] at H
  have c4b0 : decide (t410 < 0) = true := decide_eq_true c4
  clear c4
  obtain rfl := Option.some.inj H
  go_enter Try.func4, Try.ntmps4
  go_wp2_with (first | ((with_reducible refine gate_dst (N := 2) rfl ?_); refine box_ (N := 2) (cs := #[.int .i64 a0_0, .int .i64 a0_1, .slice A0_2 l0_2.length c0_2]) (t := 24) ?_; intro gb409 hg w5 hbox hb; have BK409 := Aside0.mk (hbox); have GW409 := gz_ w hg; have GE409 := gz_ w hg; replace HB := Aside0.mk (below_step (bw_ w) hb); clear hb hbox hg; obtain ⟨hcz6_0, hcz6_1, hcz6_2, hfz6_0, hfz6_1, hfz6_2⟩ := bc3_ (w := w5) BK409) | ((with_reducible refine gate_callee (f := 14) rfl ?_); refine goesB (some 13) Try.func14 #[.agg #[.int .i64 a0_0, .int .i64 a0_1, .slice A0_2 l0_2.length c0_2], .int .i64 1048576] ?_; (with_reducible refine (laws_szChart.calls a0_0 a0_1 _ _ l0_2 1048576 t410 _ ?side1 ?side2 A3.out).mono ?_); (case side1 => exact cb_ HR0_2 HB); (case side2 => exact HC0_2.out); rintro e w7 ⟨rfl, hb⟩; refine ⟨_, rfl, ?_⟩; replace BK409 := bb_ BK409 hb; replace HB := Aside0.mk (below_step (bw_ w) hb); (try clear hb); (try clear hb2); (try clear hk); (try clear hi)))
  go_ret
  exact ⟨by first | rfl | (simp [errW_none, errW_some] <;> rfl) | (simp [*, errW_none, errW_some] <;> rfl), (bw_ w)⟩
 ·rw [if_neg c4] at H
  have c4b0 : decide (t410 < 0) = false := decide_eq_false c4
  clear c4
  replace H := Option.bind_eq_some_iff.mp H
  obtain ⟨⟨t411, t412, t413⟩, A80, H⟩ := H
  replace H : ((spec_FewestChanges.f k t411 t412 t413 a1).bind fun bt416 => ((laws_toChart.f k a0_0 a0_1 l0_2).bind fun bt418 => ((impl_FewestChanges.f k bt418.1 bt418.2.1 bt418.2.2 a1).bind fun bt424 => (if bt424.1 = bt416.1 then (laws_FnExactFewestChanges.j0 k (bt424.2 != bt416.2) a0_0 a0_1 l0_2 bt418.1 bt418.2.1 bt418.2.2) else (laws_FnExactFewestChanges.j0 k true a0_0 a0_1 l0_2 bt418.1 bt418.2.1 bt418.2.2))))) = some r := H
  have A8 := Aside0.mk A80
  clear A80
  replace H := Option.bind_eq_some_iff.mp H
  obtain ⟨⟨t416, t417⟩, A90, H⟩ := H
  replace H : ((laws_toChart.f k a0_0 a0_1 l0_2).bind fun bt418 => ((impl_FewestChanges.f k bt418.1 bt418.2.1 bt418.2.2 a1).bind fun bt424 => (if bt424.1 = t416 then (laws_FnExactFewestChanges.j0 k (bt424.2 != t417) a0_0 a0_1 l0_2 bt418.1 bt418.2.1 bt418.2.2) else (laws_FnExactFewestChanges.j0 k true a0_0 a0_1 l0_2 bt418.1 bt418.2.1 bt418.2.2)))) = some r := H
  have A9 := Aside0.mk A90
  clear A90
  replace H := Option.bind_eq_some_iff.mp H
  obtain ⟨⟨t418, t419, t420⟩, A100, H⟩ := H
  replace H : ((impl_FewestChanges.f k t418 t419 t420 a1).bind fun bt424 => (if bt424.1 = t416 then (laws_FnExactFewestChanges.j0 k (bt424.2 != t417) a0_0 a0_1 l0_2 t418 t419 t420) else (laws_FnExactFewestChanges.j0 k true a0_0 a0_1 l0_2 t418 t419 t420))) = some r := H
  have A10 := Aside0.mk A100
  clear A100
  replace H := Option.bind_eq_some_iff.mp H
  obtain ⟨⟨t424, t425⟩, A110, H⟩ := H
  replace H : (if t424 = t416 then (laws_FnExactFewestChanges.j0 k (t425 != t417) a0_0 a0_1 l0_2 t418 t419 t420) else (laws_FnExactFewestChanges.j0 k true a0_0 a0_1 l0_2 t418 t419 t420)) = some r := H
  have A11 := Aside0.mk A110
  clear A110
  have HC12 := Aside0.mk H
  clear H
  go_enter Try.func4, Try.ntmps4
  go_upto_region 8 with (first | ((with_reducible refine gate_dst (N := 2) rfl ?_); refine box_ (N := 2) (cs := #[.int .i64 a0_0, .int .i64 a0_1, .slice A0_2 l0_2.length c0_2]) (t := 24) ?_; intro gb409 hg w13 hbox hb; have BK409 := Aside0.mk (hbox); have GW409 := gz_ w hg; have GE409 := gz_ w hg; replace HB := Aside0.mk (below_step (bw_ w) hb); clear hb hbox hg; obtain ⟨hcz14_0, hcz14_1, hcz14_2, hfz14_0, hfz14_1, hfz14_2⟩ := bc3_ (w := w13) BK409) | ((with_reducible refine gate_callee (f := 14) rfl ?_); refine goesB (some 13) Try.func14 #[.agg #[.int .i64 a0_0, .int .i64 a0_1, .slice A0_2 l0_2.length c0_2], .int .i64 1048576] ?_; (with_reducible refine (laws_szChart.calls a0_0 a0_1 _ _ l0_2 1048576 t410 _ ?side1 ?side2 A3.out).mono ?_); (case side1 => exact cb_ HR0_2 HB); (case side2 => exact HC0_2.out); rintro e w15 ⟨rfl, hb⟩; refine ⟨_, rfl, ?_⟩; replace BK409 := bb_ BK409 hb; replace HB := Aside0.mk (below_step (bw_ w) hb); (try clear hb); (try clear hb2); (try clear hk); (try clear hi); obtain ⟨hcz16_0, hcz16_1, hcz16_2, hfz16_0, hfz16_1, hfz16_2⟩ := bc3_ (w := w15) BK409) | ((with_reducible refine gate_callee (f := 16) rfl ?_); refine goesB (some 18) Try.func16 #[.agg #[.int .i64 a0_0, .int .i64 a0_1, .slice A0_2 l0_2.length c0_2]] ?_; (with_reducible refine (laws_toChart.calls k a0_0 a0_1 _ _ l0_2 t411 t412 t413 _ ?side1 ?side2 A8.out).mono ?_); (case side1 => exact cb_ HR0_2 HB); (case side2 => exact HC0_2.out); rintro e w17 ⟨v414, rfl, ho0, hb⟩; refine ⟨_, rfl, ?_⟩; have HO415 := Aside0.mk (Kd.R_lower ho0 (below_size (bw_ w))); replace BK409 := bb_ BK409 hb; replace HB := Aside0.mk (below_step (bw_ w) hb); (try clear hb); (try clear hb2); (try clear hk); (try clear hi); (try clear ho0); obtain ⟨Ao18, co18, eo18⟩ := Kd.R_slice HO415.out; subst eo18) | ((with_reducible refine gate_callee (f := 21) rfl ?_); refine goesB (some 20) Try.func21 #[.agg #[.int .i64 t411, .int .i64 t412, .slice Ao18 t413.length co18], .int .i64 a1] ?_; (with_reducible refine (spec_FewestChanges.calls k t411 t412 _ _ t413 a1 t416 t417 _ ?side1 ?side2 A9.out).mono ?_); (case side1 => exact co_ (Kd.R_reads' HO415.out).2.2); (case side2 => exact (Kd.R_reads' HO415.out).2.1); rintro e w19 ⟨rfl, hb⟩; refine ⟨_, rfl, ?_⟩; replace HO415 := Aside0.mk (Kd.R_below (ra_ HO415) hb); replace BK409 := bb_ BK409 hb; replace HB := Aside0.mk (below_step (bw_ w) hb); (try clear hb); (try clear hb2); (try clear hk); (try clear hi); obtain ⟨hcz20_0, hcz20_1, hcz20_2, hfz20_0, hfz20_1, hfz20_2⟩ := bc3_ (w := w19) BK409) | ((with_reducible refine gate_callee (f := 16) rfl ?_); refine goesB (some 24) Try.func16 #[.agg #[.int .i64 a0_0, .int .i64 a0_1, .slice A0_2 l0_2.length c0_2]] ?_; (with_reducible refine (laws_toChart.calls k a0_0 a0_1 _ _ l0_2 t418 t419 t420 _ ?side1 ?side2 A10.out).mono ?_); (case side1 => exact cb_ HR0_2 HB); (case side2 => exact HC0_2.out); rintro e w21 ⟨v421, rfl, ho0, hb⟩; refine ⟨_, rfl, ?_⟩; have n0_ := Aside0.mk (Kd.R_elder' (ra_ HO415) (Kd.R_base ho0) hb); have n1_ := Aside0.mk (Kd.R_lower (Kd.R_new' ho0 (Kd.R_lt (ra_ HO415))) (below_size (bw_ w))); have n2_ := bb_ BK409 hb; have n3_ := Aside0.mk (below_step (bw_ w) hb); clear HO415; clear BK409; clear HB; have HO415 := n0_; have HO422 := n1_; have BK409 := n2_; have HB := n3_; clear n0_ n1_ n2_ n3_; (try clear hb); (try clear hb2); (try clear hk); (try clear hi); (try clear ho0)) | ((with_reducible refine gate_dst (N := 8) rfl ?_); refine box_ (N := 8) (cs := #[.int .i64 0, .int .i64 0, .slice none 0 0]) (t := 26) ?_; intro gb423 hg w22 hbox hb; have n0_ := Aside0.mk (Kd.R_below (ra_ HO415) hb); have n1_ := Aside0.mk (Kd.R_below (ra_ HO422) hb); have n2_ := bb_ BK409 hb; have n3_ := Aside0.mk (below_step (bw_ w) hb); have n4_ := Aside0.mk (hbox); have n5_ := gz_ w hg; have n6_ := gz_ w hg; have n7_ := ne_ hg BK409; have n8_ := en_ hg BK409; clear HO415; clear HO422; clear BK409; clear HB; have HO415 := n0_; have HO422 := n1_; have BK409 := n2_; have HB := n3_; have BK423 := n4_; have GW423 := n5_; have GE423 := n6_; have NB409_423 := n7_; have NB423_409 := n8_; clear n0_ n1_ n2_ n3_ n4_ n5_ n6_ n7_ n8_; clear hb hbox hg; have hnb23 := NB423_409.out; have hnc23 := NB409_423.out; obtain ⟨hcz24_0, hcz24_1, hcz24_2, hfz24_0, hfz24_1, hfz24_2⟩ := bc3_ (w := w22) BK423; obtain ⟨Ao25, co25, eo25⟩ := Kd.R_slice HO422.out; subst eo25) | ((with_reducible refine gate_callee (f := 22) rfl ?_); refine goesB (some 28) Try.func22 #[.agg #[.int .i64 t418, .int .i64 t419, .slice Ao25 t420.length co25], .int .i64 a1] ?_; (with_reducible refine (impl_FewestChanges.calls k t418 t419 _ _ t420 a1 t424 t425 _ ?side1 ?side2 A11.out).mono ?_); (case side1 => refine (Kd.R_reads' (e := 3) (base := w.heap.size) (ok := fun k_ => (True ∧ some k_ ≠ (.slice Ao18 t413.length co18 : Value).ownBlock)) (n := t420.length) (c := co25) ?_).2.2; exact (by exact rf_ (Kd.R_types HO422.out BK423.out (by decide)) (fun _ h_ => h_.1))); (case side2 => exact (Kd.R_reads' HO422.out).2.1); rintro e w26 ⟨rfl, hb⟩; refine ⟨_, rfl, ?_⟩; replace HO415 := Aside0.mk (Kd.R_below (by exact rf_ (Kd.R_types HO415.out BK423.out (by decide)) (fun _ h_ => h_.1)) hb); replace HO422 := Aside0.mk (Kd.R_below (by exact rf_ (Kd.R_types HO422.out BK423.out (by decide)) (fun _ h_ => h_.1)) hb); replace BK409 := bb_ BK409 hb; replace BK423 := Aside0.mk (blk_below (g := gb423) (o := .cells #[.int .i64 t418, .int .i64 t419, .slice Ao25 t420.length co25] 26 (0, 0)) (bq_ BK423) hb); replace HB := Aside0.mk (below_step (bw_ w) hb); (try clear hb); (try clear hb2); (try clear hk); (try clear hi)))
  (try simp only [Act.put, List.setIfInBounds_toArray, List.set_cons_zero, List.set_cons_succ])
  go_cut [38] (fun v38 wc => ∃ (kq : Nat) (x38_11 : Bool), v38 = .bool x38_11 ∧ Aside0 (laws_FnExactFewestChanges.j0 kq x38_11 a0_0 a0_1 l0_2 t418 t419 t420 = some r) ∧ Aside0 (kq ≤ k) ∧ Aside0 (Kd.R (Kd.int .i64) 3 wc w.heap.size (fun _ => True) (.slice Ao25 t420.length co25) t420) ∧ Aside0 (wc.heap[gb409]? = some (.cells #[.int .i64 a0_0, .int .i64 a0_1, (.slice A0_2 l0_2.length c0_2)] 24 (0, 0))) ∧ Aside0 (wc.heap[gb423]? = some (.cells #[.int .i64 t418, .int .i64 t419, (.slice Ao25 t420.length co25)] 26 (0, 0))) ∧ Aside0 (Below w.heap.size w wc))
  case first =>
   have H := HC12.out
   clear HC12
   by_cases c27 : t424 = t416
   ·rw [if_pos c27] at H
    have c27b0 : (t424 == t416) = true := beq_iff_eq.mpr c27
    have c27b1 : (t424 != t416) = false := bne_eq_false_iff_eq.mpr c27
    clear c27
    (first | rw [c27b0] | (simp only [i64_w, i32_w]; rw [c27b0]) | skip)
    have H' := Aside0.mk H
    clear H
    go_wp2
    go_meet
    case rel => exact ⟨_, ((t425 != t417)), (by first | rfl | (simp; done) | (simp [*]; done)), H', ⟨by first | omega | exact Nat.le_refl _⟩, ⟨by exact rf_ HO422.out (fun _ hk => trivial)⟩, ⟨bk_ BK409⟩, ⟨bk_ BK423⟩, ⟨(bw_ w)⟩⟩
   ·rw [if_neg c27] at H
    have c27b0 : (t424 == t416) = false := beq_eq_false_iff_ne.mpr c27
    have c27b1 : (t424 != t416) = true := bne_iff_ne.mpr c27
    (first | rw [c27b0] | (simp only [i64_w, i32_w]; rw [c27b0]) | skip)
    have H' := Aside0.mk H
    clear H
    go_wp2
    go_meet
    case rel => exact ⟨_, (true), (by first | rfl | (simp; done) | (simp [*]; done)), H', ⟨by first | omega | exact Nat.le_refl _⟩, ⟨by exact rf_ HO422.out (fun _ hk => trivial)⟩, ⟨bk_ BK409⟩, ⟨bk_ BK423⟩, ⟨(bw_ w)⟩⟩
  case rest =>
   clear HC12
   try clear c1
   try clear c2
   try clear p2
   try clear c4
   try clear c4b0
   try clear c14
   try clear c16
   try clear c21
   try clear c22
   try clear c23
   try clear c27
   try clear c27b0
   try clear c27b1
   try clear hcz14_0
   try clear hcz14_1
   try clear hcz14_2
   try clear hcz16_0
   try clear hcz16_1
   try clear hcz16_2
   try clear hcz20_0
   try clear hcz20_1
   try clear hcz20_2
   try clear hcz24_0
   try clear hcz24_1
   try clear hcz24_2
   try clear hcz6_0
   try clear hcz6_1
   try clear hcz6_2
   try clear hfz14_0
   try clear hfz14_1
   try clear hfz14_2
   try clear hfz16_0
   try clear hfz16_1
   try clear hfz16_2
   try clear hfz20_0
   try clear hfz20_1
   try clear hfz20_2
   try clear hfz24_0
   try clear hfz24_1
   try clear hfz24_2
   try clear hfz6_0
   try clear hfz6_1
   try clear hfz6_2
   obtain ⟨kq, x38_11, rfl, HA, HJ11, HO_424002, BK409, BK423, HB⟩ := hcut
   cases kq with
   | zero => exact absurd HA.out (by simp [laws_FnExactFewestChanges.j0])
   | succ kj11 =>
    have H := HA.out
    clear HA
    simp only [laws_FnExactFewestChanges.j0] at H
    by_cases c28 : x38_11 = true
    ·subst c28
     have H1 : (some false) = some r := by rw [if_pos rfl] at H; exact H
     clear H
     have H := H1
     clear H1
     exact absurd (H.trans (congrArg some HRT.out)) (by simp)
    ·replace c28 := Bool.eq_false_iff.mpr c28
     subst c28
     have H1 : ((laws_toChart.f kj11 a0_0 a0_1 l0_2).bind fun bt426 => ((laws_eqChart.f kj11 t418 t419 t420 bt426.1 bt426.2.1 bt426.2.2).bind fun t431 => (if t431 = true then (some true) else (some false)))) = some r := by rw [if_neg (show ¬ (false = true) by decide)] at H; exact H
     clear H
     have H := H1
     clear H1
     replace H := Option.bind_eq_some_iff.mp H
     obtain ⟨⟨t426, t427, t428⟩, A290, H⟩ := H
     replace H : ((laws_eqChart.f kj11 t418 t419 t420 t426 t427 t428).bind fun t431 => (if t431 = true then (some true) else (some false))) = some r := H
     have A29 := Aside0.mk A290
     clear A290
     replace H := Option.bind_eq_some_iff.mp H
     obtain ⟨t431, A300, H⟩ := H
     replace H : (if t431 = true then (some true) else (some false)) = some r := H
     have A30 := Aside0.mk A300
     clear A300
     by_cases c31 : t431 = true
     ·subst c31
      have H1 : (some true) = some r := by rw [if_pos rfl] at H; exact H
      clear H
      have H := H1
      clear H1
      obtain rfl := Option.some.inj H
      try go_wp2
      replace HO_424002 := Aside0.mk (Kd.R_drew HO_424002.out)
      replace BK409 := Aside0.mk (blk_drew BK409.out)
      replace BK423 := Aside0.mk (blk_drew BK423.out)
      replace HB := Aside0.mk (below_drew1 HB.out)
      refine start_ (n := 5) (S := fun w' => w'.cell? ⟨gb423, 0, none⟩ = some (.int .i64 t418) ∧ w'.cell? ⟨gb423, 1, none⟩ = some (.int .i64 t419) ∧ w'.cell? ⟨gb423, 2, none⟩ = some (.slice Ao25 t420.length co25) ∧ w'.cell? ⟨gb409, 0, none⟩ = some (.int .i64 a0_0) ∧ w'.cell? ⟨gb409, 1, none⟩ = some (.int .i64 a0_1) ∧ w'.cell? ⟨gb409, 2, none⟩ = some (.slice A0_2 l0_2.length c0_2)) (ds := []) #[false, false, false, false, false] (by kernel_rfl) rfl rfl ⟨bc_ BK423 0, bc_ BK423 1, bc_ BK423 2, bc_ BK409 0, bc_ BK409 1, bc_ BK409 2⟩ (fun hHeld => ?_)
      generalize wc.drew = w32 at HO_424002 BK409 BK423 HB hHeld ⊢
      refine take_ (i := 0) (N := some 39) (v := ?_) (a' := ?_) #[true, false, false, false, false] rfl rfl (by kernel_rfl) (fun _ _ _ h => h) (Or.inl ⟨by rfl, ?_⟩) hHeld ?_ ?_
      rotate_left
      ·rintro w' ⟨s0, s1, s2, s3, s4, s5⟩
       go_simp
       with_reducible rfl
      rotate_left
      ·simp only [Act.put, List.setIfInBounds_toArray, List.set_cons_zero, List.set_cons_succ, i64_w, i32_w]
       rfl
      refine take_ (i := 1) (N := some 40) (v := ?_) (a' := ?_) #[true, true, false, false, false] rfl rfl (by kernel_rfl) (fun _ _ _ h => h) (Or.inl ⟨by rfl, ?_⟩) hHeld ?_ ?_
      rotate_left
      ·rintro w' ⟨s0, s1, s2, s3, s4, s5⟩
       go_simp
       with_reducible rfl
      rotate_left
      ·simp only [Act.put, List.setIfInBounds_toArray, List.set_cons_zero, List.set_cons_succ, i64_w, i32_w]
       rfl
      refine one_ (i := 2) (N := some 41) #[true, true, true, false, false] rfl rfl (by kernel_rfl) (by decide) (fun K hK => ?_)
      refine goesA Try.func16 #[.agg #[.int .i64 a0_0, .int .i64 a0_1, .slice A0_2 l0_2.length c0_2]] ?_
      with_reducible refine (laws_toChart.calls kj11 a0_0 a0_1 _ _ l0_2 t426 t427 t428 _ ?side1 ?side2 A29.out).mono ?_
      (case side1 => exact cb_ HR0_2 HB)
      (case side2 => exact HC0_2.out)
      rintro e w33 ⟨v429, rfl, ho0, hb⟩
      refine ⟨_, rfl, ?_⟩
      have n0_ := Aside0.mk (Kd.R_elder' (ra_ HO_424002) (Kd.R_base ho0) hb)
      have n1_ := Aside0.mk (Kd.R_lower (Kd.R_new' ho0 (Kd.R_lt (ra_ HO_424002))) (below_size (bw_ w)))
      have n2_ := bb_ BK409 hb
      have n3_ := bb_ BK423 hb
      have n4_ := Aside0.mk (below_step (bw_ w) hb)
      clear HO_424002
      clear BK409
      clear BK423
      clear HB
      have HO_424002 := n0_
      have HO430 := n1_
      have BK409 := n2_
      have BK423 := n3_
      have HB := n4_
      clear n0_ n1_ n2_ n3_ n4_
      (try clear hb)
      (try clear hb2)
      (try clear hk)
      (try clear hi)
      (try clear ho0)
      obtain ⟨Ao34, co34, eo34⟩ := Kd.R_slice HO430.out
      (first | subst eo34 | (injection eo34 with f1_ f2_ f3_; have f4_ := f1_.symm; have f5_ := f3_.symm; clear f1_ f2_ f3_; subst f4_; subst f5_))
      refine hK.out _ _ ⟨bc_ BK423 0, bc_ BK423 1, bc_ BK423 2, bc_ BK409 0, bc_ BK409 1, bc_ BK409 2⟩ (fun hHeld => ?_)
      clear hK K
      refine normA (N := some 41) ?_
      refine one_ (i := 3) (N := some 42) #[true, true, true, true, false] rfl rfl (by kernel_rfl) (by decide) (fun K hK => ?_)
      refine goesA Try.func18 #[.agg #[.int .i64 t418, .int .i64 t419, .slice Ao25 t420.length co25], .agg #[.int .i64 t426, .int .i64 t427, .slice Ao34 t428.length co34]] ?_
      with_reducible refine (laws_eqChart.calls kj11 t418 t419 _ _ t420 t426 t427 _ _ t428 true _ ?side1 ?side2 ?side3 ?side4 A30.out).mono ?_
      (case side1 => exact co_ (Kd.R_reads' HO_424002.out).2.2)
      (case side2 => exact (Kd.R_reads' HO_424002.out).2.1)
      (case side3 => exact co_ (Kd.R_reads' HO430.out).2.2)
      (case side4 => exact (Kd.R_reads' HO430.out).2.1)
      rintro e w35 ⟨rfl, hb⟩
      refine ⟨_, rfl, ?_⟩
      replace HO_424002 := Aside0.mk (Kd.R_below (ra_ HO_424002) hb)
      replace HO430 := Aside0.mk (Kd.R_below (ra_ HO430) hb)
      replace BK409 := bb_ BK409 hb
      replace BK423 := bb_ BK423 hb
      replace HB := Aside0.mk (below_step (bw_ w) hb)
      (try clear hb)
      (try clear hb2)
      (try clear hk)
      (try clear hi)
      refine hK.out _ _ ⟨bc_ BK423 0, bc_ BK423 1, bc_ BK423 2, bc_ BK409 0, bc_ BK409 1, bc_ BK409 2⟩ (fun hHeld => ?_)
      clear hK K
      refine normA (N := some 42) ?_
      refine pureK (N := some 43) 4 ?_
      refine done_ (by kernel_rfl) ?_
      try go_wp2
      go_ret
      exact ⟨by first | rfl | (simp [errW_none, errW_some] <;> rfl) | (simp [*, errW_none, errW_some] <;> rfl), (bw_ w)⟩
     ·replace c31 := Bool.eq_false_iff.mpr c31
      subst c31
      have H1 : (some false) = some r := by rw [if_neg (show ¬ (false = true) by decide)] at H; exact H
      clear H
      have H := H1
      clear H1
      exact absurd (H.trans (congrArg some HRT.out)) (by simp)

/-- The pure statement of laws_FnExactFewestChanges. -/
def laws_FnExactFewestChanges.Pure : Prop := ∀ (a0_0 : Int) (a0_1 : Int) (l0_2 : List Int) (a1 : Int), ((Lit.int .i64 a0_0).wf = true) → ((Lit.int .i64 a0_1).wf = true) → (l0_2.length * 8 ≤ 140737488351232) → (∀ y0 ∈ l0_2, (Lit.int .i64 y0).wf = true) → ((Lit.int .i64 a1).wf = true) → ∃ k, laws_FnExactFewestChanges.f k a0_0 a0_1 l0_2 a1 = some true

end Go.Proofs.Ytijmljaemalgmaa.PFnExactFewestChanges
