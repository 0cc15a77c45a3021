-- Printed by this session's own program (wip/tool/myprint.py, over the kit's print); Lean checks it.
import Derived.Test.YteiaakppjcpgcaaPFnExactPutRingx0
import Derived.Test.YteiaakppjcpgcaaPFnExactPutRingx3
namespace Go.Proofs.Yteiaakppjcpgcaa.PFnExactPutRing
open Go.RowKit Go.Proofs.YteiaakppjcpgcaaW.PrintWords Go.Proofs.YteiaakppjcpgcaaW.PrintLast Go.Proofs.YteiaakppjcpgcaaW.PrintMore
attribute [local go_sem] max2_int min2_int max_two min_two max_three min_three max_four min_four   -- for this text's walks alone
set_option linter.unusedVariables false
set_option linter.unusedSimpArgs false

/-! ### impl_areAll_int__isColor: function 88 -/
def impl_areAll_int__isColor.f (k : Nat) (l0 : List Int)  : Option (Bool) := (slices_ContainsFunc_int_int__areAll_int_1__isColor.f k l0).bind fun t207 => (some (!t207))
theorem impl_areAll_int__isColor.mono : ∀ a0 k, LeO (impl_areAll_int__isColor.f k a0) (impl_areAll_int__isColor.f (k + 1) a0) := by
  intro a0 k
  unfold impl_areAll_int__isColor.f
  repeat' first
      | (with_reducible exact slices_ContainsFunc_int_int__areAll_int_1__isColor.mono _ _)
      | (with_reducible exact LeO.refl _)
      | (with_reducible exact LeO.none _)
      | (with_reducible refine LeO.ite ?_ ?_)
      | (with_reducible refine LeO.bind ?_ (fun _ => ?_))
      | exact slices_ContainsFunc_int_int__areAll_int_1__isColor.mono _ _
      | exact LeO.none _
      | refine LeO.ite ?_ ?_
      | refine LeO.bind ?_ (fun _ => ?_)
set_option maxHeartbeats 8000000 in
set_option maxRecDepth 100000 in
theorem impl_areAll_int__isColor.calls (k : Nat) (A0 : Option Addr) (c0 : Nat) (l0 : List Int)  (r : Bool) (w : World) (hr0 : Kd.C (Kd.int .i64) w A0 l0.length l0) (hc0 : l0.length ≤ c0) (h : impl_areAll_int__isColor.f k l0 = some r) :
  Calls Try.prog 88 #[.slice A0 l0.length c0, (.func (.func 58) #[] #[])] w fun e w' => e = .returned (.bool r) ∧ Below w.heap.size w w' := by
 have hmf_ : ∀ (f_ : Fn) (a_ b_ : Array Value) (W_ : World), (Instr.makeFunc f_ a_ b_).run Try.prog W_ = .ok (.func f_ a_ b_) W_ := fun _ _ _ _ => rfl
 have HR0 := Aside0.mk hr0
 have HC0 := Aside0.mk hc0
 clear hr0 hc0
 have HB := Aside0.mk (Below.refl w.heap.size w)
 have H : ((slices_ContainsFunc_int_int__areAll_int_1__isColor.f k l0).bind fun t207 => (some (!t207))) = some r := h
 clear h
 replace H := Option.bind_eq_some_iff.mp H
 obtain ⟨t207, A30, H⟩ := H
 replace H : (some (!t207)) = some r := H
 have A3 := Aside0.mk A30
 clear A30
 obtain rfl := Option.some.inj H
 go_enter Try.func88, Try.ntmps88
 go_wp2_with (first | (refine box_ (N := 3) (cs := #[(.func (.func 58) #[] #[])]) (t := 44) ?_; intro gb206 hg w4 hbox hb; have BK206 := Aside0.mk (hbox); have GW206 := gz_ w hg; have GE206 := gz_ w hg; replace HB := Aside0.mk (below_step bw_ hb); clear hb hbox hg) | ((with_reducible refine gate_callee (f := 121) rfl ?_); refine goesB (some 7) Try.func121 #[.slice A0 l0.length c0, (.func (.func 122) #[] #[.pointer (some ⟨gb206, 0, none⟩)])] ?_; (with_reducible refine (slices_ContainsFunc_int_int__areAll_int_1__isColor.calls k _ _ l0 gb206 t207 _ ?side1 ?side2 ?side3 A3.out).mono ?_); (case side1 => exact cb_ HR0 HB); (case side2 => exact HC0.out); (case side3 => (with_reducible repeat (first | refine blk_drewN ?_ _ | refine blk_drew ?_ | refine blk_alloc ?_ _)); exact BK206.out); rintro e w5 ⟨rfl, hb⟩; refine ⟨_, rfl, ?_⟩; replace BK206 := bb_ BK206 hb; replace HB := Aside0.mk (below_step bw_ hb); (try clear hb); (try clear hb2); (try clear hk); (try clear hi)))
 go_ret
 exact ⟨by first | rfl | (simp [errW_none, errW_some] <;> rfl) | (simp [*, errW_none, errW_some] <;> rfl), bw_⟩

/-! ### impl_IsChart: function 57 -/
def impl_IsChart.f (k : Nat) (a0_0 : Int) (a0_1 : Int) (l0_2 : List Int) : Option (Bool) := (impl_isSide.f a0_0).bind fun t209 => (if t209 = true then ((impl_isSide.f a0_1).bind fun t210 => (if t210 = true then (if (l0_2.length : Int) = (wrap64 (a0_0 * a0_1)) then ((impl_areAll_int__isColor.f k l0_2).bind fun t211 => (some t211)) else (some false)) else (some false))) else (some false))
theorem impl_IsChart.mono : ∀ a0 a1 a2 k, LeO (impl_IsChart.f k a0 a1 a2) (impl_IsChart.f (k + 1) a0 a1 a2) := by
  intro a0 a1 a2 k
  unfold impl_IsChart.f
  repeat' first
      | (with_reducible exact impl_areAll_int__isColor.mono _ _)
      | (with_reducible exact LeO.refl _)
      | (with_reducible exact LeO.none _)
      | (with_reducible refine LeO.ite ?_ ?_)
      | (with_reducible refine LeO.bind ?_ (fun _ => ?_))
      | exact impl_areAll_int__isColor.mono _ _
      | exact LeO.none _
      | refine LeO.ite ?_ ?_
      | refine LeO.bind ?_ (fun _ => ?_)
set_option maxHeartbeats 8000000 in
set_option maxRecDepth 100000 in
theorem impl_IsChart.calls (k : Nat) (a0_0 : Int) (a0_1 : Int) (A0_2 : Option Addr) (c0_2 : Nat) (l0_2 : List Int) (r : Bool) (w : World) (hr0_2 : Kd.C (Kd.int .i64) w A0_2 l0_2.length l0_2) (hc0_2 : l0_2.length ≤ c0_2) (h : impl_IsChart.f k a0_0 a0_1 l0_2 = some r) :
  Calls Try.prog 57 #[.agg #[.int .i64 a0_0, .int .i64 a0_1, .slice A0_2 l0_2.length c0_2]] w fun e w' => e = .returned (.bool r) ∧ Below w.heap.size w w' := by
 have hu26 := Try.underlying26
 have HR0_2 := Aside0.mk hr0_2
 have HC0_2 := Aside0.mk hc0_2
 clear hr0_2 hc0_2
 have HB := Aside0.mk (Below.refl w.heap.size w)
 have H : ((impl_isSide.f a0_0).bind fun t209 => (if t209 = true then ((impl_isSide.f a0_1).bind fun t210 => (if t210 = true then (if (l0_2.length : Int) = (wrap64 (a0_0 * a0_1)) then ((impl_areAll_int__isColor.f k l0_2).bind fun t211 => (some t211)) else (some false)) else (some false))) else (some false))) = some r := h
 clear h
 replace H := Option.bind_eq_some_iff.mp H
 obtain ⟨t209, A20, H⟩ := H
 replace H : (if t209 = true then ((impl_isSide.f a0_1).bind fun t210 => (if t210 = true then (if (l0_2.length : Int) = (wrap64 (a0_0 * a0_1)) then ((impl_areAll_int__isColor.f k l0_2).bind fun t211 => (some t211)) else (some false)) else (some false))) else (some false)) = some r := H
 have A2 := Aside0.mk A20
 clear A20
 by_cases c3 : t209 = true
 ·subst c3
  have H1 : ((impl_isSide.f a0_1).bind fun t210 => (if t210 = true then (if (l0_2.length : Int) = (wrap64 (a0_0 * a0_1)) then ((impl_areAll_int__isColor.f k l0_2).bind fun t211 => (some t211)) else (some false)) else (some false))) = some r := by rw [if_pos rfl] at H; exact H
  clear H
  have H := H1
  clear H1
  replace H := Option.bind_eq_some_iff.mp H
  obtain ⟨t210, A40, H⟩ := H
  replace H : (if t210 = true then (if (l0_2.length : Int) = (wrap64 (a0_0 * a0_1)) then ((impl_areAll_int__isColor.f k l0_2).bind fun t211 => (some t211)) else (some false)) else (some false)) = some r := H
  have A4 := Aside0.mk A40
  clear A40
  by_cases c5 : t210 = true
  ·subst c5
   have H1 : (if (l0_2.length : Int) = (wrap64 (a0_0 * a0_1)) then ((impl_areAll_int__isColor.f k l0_2).bind fun t211 => (some t211)) else (some false)) = some r := by rw [if_pos rfl] at H; exact H
   clear H
   have H := H1
   clear H1
   by_cases c6 : (l0_2.length : Int) = (wrap64 (a0_0 * a0_1))
   ·rw [if_pos c6] at H
    have c6b0 : ((l0_2.length : Int) == (wrap64 (a0_0 * a0_1))) = true := beq_iff_eq.mpr c6
    have c6b1 : ((l0_2.length : Int) != (wrap64 (a0_0 * a0_1))) = false := bne_eq_false_iff_eq.mpr c6
    clear c6
    replace H := Option.bind_eq_some_iff.mp H
    obtain ⟨t211, A70, H⟩ := H
    replace H : (some t211) = some r := H
    have A7 := Aside0.mk A70
    clear A70
    obtain rfl := Option.some.inj H
    go_enter Try.func57, Try.ntmps57
    go_wp2_with (first | ((with_reducible refine gate_dst (N := 1) rfl ?_); (try (refine gate_guard (by rfl) ?_; dsimp only)); refine box_event ?hg (N := 1) ?hd (cs := #[.int .i64 a0_0, .int .i64 a0_1, .slice A0_2 l0_2.length c0_2]) (t := 26) ?hr ?_; (case hd => rfl); (case hg => rfl); (case hr => first | (go_simp; done) | (go_simp; rfl)); intro gb208 hg w8 hbox hb; have BK208 := Aside0.mk (hbox); have GW208 := gz_ w hg; have GE208 := gz_ w hg; replace HB := Aside0.mk (below_step bw_ hb); clear hb hbox hg; obtain ⟨hcz9_0, hcz9_1, hcz9_2, hfz9_0, hfz9_1, hfz9_2⟩ := bc3_ BK208) | ((with_reducible refine gate_callee (f := 93) rfl ?_); refine goesB (some 5) Try.func93 #[.int .i64 a0_0] ?_; (with_reducible refine (impl_isSide.calls a0_0 true _ A2.out).mono ?_); rintro e w' ⟨rfl, ⟨nd, rfl⟩⟩; refine ⟨_, rfl, ?_⟩) | (go_at_call 93; (with_reducible refine (impl_isSide.calls a0_1 true _ A4.out).mono ?_); rintro e w' ⟨rfl, ⟨nd, rfl⟩⟩) | (go_at_call 88; (with_reducible refine (impl_areAll_int__isColor.calls k _ _ l0_2  t211 _ ?side1 ?side2 A7.out).mono ?_); (case side1 => repeat (first | exact (Kd.C_below HR0_2.out bw_) | (with_reducible refine Kd.C_alloc ?_ _) | (with_reducible refine Kd.C_drewN ?_ _) | (with_reducible refine Kd.C_drew ?_))); (case side2 => exact HC0_2.out); rintro e w10 ⟨rfl, hb⟩; replace BK208 := bb_ BK208 hb; replace HB := Aside0.mk (below_step bw_ hb); (try clear hb); (try clear hb2); (try clear hk); (try clear hi)))
    go_ret
    exact ⟨by first | rfl | (simp [errW_none, errW_some] <;> rfl) | (simp [*, errW_none, errW_some] <;> rfl), bw_⟩
   ·rw [if_neg c6] at H
    have c6b0 : ((l0_2.length : Int) == (wrap64 (a0_0 * a0_1))) = false := beq_eq_false_iff_ne.mpr c6
    have c6b1 : ((l0_2.length : Int) != (wrap64 (a0_0 * a0_1))) = true := bne_iff_ne.mpr c6
    obtain rfl := Option.some.inj H
    go_enter Try.func57, Try.ntmps57
    go_wp2_with (first | ((with_reducible refine gate_dst (N := 1) rfl ?_); (try (refine gate_guard (by rfl) ?_; dsimp only)); refine box_event ?hg (N := 1) ?hd (cs := #[.int .i64 a0_0, .int .i64 a0_1, .slice A0_2 l0_2.length c0_2]) (t := 26) ?hr ?_; (case hd => rfl); (case hg => rfl); (case hr => first | (go_simp; done) | (go_simp; rfl)); intro gb208 hg w11 hbox hb; have BK208 := Aside0.mk (hbox); have GW208 := gz_ w hg; have GE208 := gz_ w hg; replace HB := Aside0.mk (below_step bw_ hb); clear hb hbox hg; obtain ⟨hcz12_0, hcz12_1, hcz12_2, hfz12_0, hfz12_1, hfz12_2⟩ := bc3_ BK208) | ((with_reducible refine gate_callee (f := 93) rfl ?_); refine goesB (some 5) Try.func93 #[.int .i64 a0_0] ?_; (with_reducible refine (impl_isSide.calls a0_0 true _ A2.out).mono ?_); rintro e w' ⟨rfl, ⟨nd, rfl⟩⟩; refine ⟨_, rfl, ?_⟩) | (go_at_call 93; (with_reducible refine (impl_isSide.calls a0_1 true _ A4.out).mono ?_); rintro e w' ⟨rfl, ⟨nd, rfl⟩⟩))
    go_ret
    exact ⟨by first | rfl | (simp [errW_none, errW_some] <;> rfl) | (simp [*, errW_none, errW_some] <;> rfl), bw_⟩
  ·replace c5 := Bool.eq_false_iff.mpr c5
   subst c5
   have H1 : (some false) = some r := by rw [if_neg (show ¬ (false = true) by decide)] at H; exact H
   clear H
   have H := H1
   clear H1
   obtain rfl := Option.some.inj H
   go_enter Try.func57, Try.ntmps57
   go_wp2_with (first | ((with_reducible refine gate_dst (N := 1) rfl ?_); (try (refine gate_guard (by rfl) ?_; dsimp only)); refine box_event ?hg (N := 1) ?hd (cs := #[.int .i64 a0_0, .int .i64 a0_1, .slice A0_2 l0_2.length c0_2]) (t := 26) ?hr ?_; (case hd => rfl); (case hg => rfl); (case hr => first | (go_simp; done) | (go_simp; rfl)); intro gb208 hg w13 hbox hb; have BK208 := Aside0.mk (hbox); have GW208 := gz_ w hg; have GE208 := gz_ w hg; replace HB := Aside0.mk (below_step bw_ hb); clear hb hbox hg; obtain ⟨hcz14_0, hcz14_1, hcz14_2, hfz14_0, hfz14_1, hfz14_2⟩ := bc3_ BK208) | ((with_reducible refine gate_callee (f := 93) rfl ?_); refine goesB (some 5) Try.func93 #[.int .i64 a0_0] ?_; (with_reducible refine (impl_isSide.calls a0_0 true _ A2.out).mono ?_); rintro e w' ⟨rfl, ⟨nd, rfl⟩⟩; refine ⟨_, rfl, ?_⟩) | (go_at_call 93; (with_reducible refine (impl_isSide.calls a0_1 false _ A4.out).mono ?_); rintro e w' ⟨rfl, ⟨nd, rfl⟩⟩))
   go_ret
   exact ⟨by first | rfl | (simp [errW_none, errW_some] <;> rfl) | (simp [*, errW_none, errW_some] <;> rfl), bw_⟩
 ·replace c3 := Bool.eq_false_iff.mpr c3
  subst c3
  have H1 : (some false) = some r := by rw [if_neg (show ¬ (false = true) by decide)] at H; exact H
  clear H
  have H := H1
  clear H1
  obtain rfl := Option.some.inj H
  go_enter Try.func57, Try.ntmps57
  go_wp2_with (first | ((with_reducible refine gate_dst (N := 1) rfl ?_); (try (refine gate_guard (by rfl) ?_; dsimp only)); refine box_event ?hg (N := 1) ?hd (cs := #[.int .i64 a0_0, .int .i64 a0_1, .slice A0_2 l0_2.length c0_2]) (t := 26) ?hr ?_; (case hd => rfl); (case hg => rfl); (case hr => first | (go_simp; done) | (go_simp; rfl)); intro gb208 hg w15 hbox hb; have BK208 := Aside0.mk (hbox); have GW208 := gz_ w hg; have GE208 := gz_ w hg; replace HB := Aside0.mk (below_step bw_ hb); clear hb hbox hg; obtain ⟨hcz16_0, hcz16_1, hcz16_2, hfz16_0, hfz16_1, hfz16_2⟩ := bc3_ BK208) | ((with_reducible refine gate_callee (f := 93) rfl ?_); refine goesB (some 5) Try.func93 #[.int .i64 a0_0] ?_; (with_reducible refine (impl_isSide.calls a0_0 false _ A2.out).mono ?_); rintro e w' ⟨rfl, ⟨nd, rfl⟩⟩; refine ⟨_, rfl, ?_⟩))
  go_ret
  exact ⟨by first | rfl | (simp [errW_none, errW_some] <;> rfl) | (simp [*, errW_none, errW_some] <;> rfl), bw_⟩

/-! ### impl_isRingSide: function 120 -/
def impl_isRingSide.f (a0 : Int) : Option (Bool) := (impl_in.f a0 2 8).bind fun t212 => (some t212)
set_option maxHeartbeats 8000000 in
set_option maxRecDepth 100000 in
theorem impl_isRingSide.calls (a0 : Int) (r : Bool) (w : World) (h : impl_isRingSide.f a0 = some r) :
  Calls Try.prog 120 #[.int .i64 a0] w fun e w' => e = .returned (.bool r) ∧ Drawn0 w w' := by
 have H : ((impl_in.f a0 2 8).bind fun t212 => (some t212)) = some r := h
 clear h
 replace H := Option.bind_eq_some_iff.mp H
 obtain ⟨t212, A20, H⟩ := H
 replace H : (some t212) = some r := H
 have A2 := Aside0.mk A20
 clear A20
 obtain rfl := Option.some.inj H
 go_enter Try.func120, Try.ntmps120
 go_wp2_with (first | ((with_reducible refine gate_callee (f := 67) rfl ?_); refine goesB (some 4) Try.func67 #[.int .i64 a0, .int .i64 2, .int .i64 8] ?_; (with_reducible refine (impl_in.calls a0 2 8 t212 _ A2.out).mono ?_); rintro e w' ⟨rfl, ⟨nd, rfl⟩⟩; refine ⟨_, rfl, ?_⟩))
 go_ret
 exact ⟨by first | rfl | (simp; done) | (simp [*]; done), by repeat (first | exact Drawn0.refl _ | apply Drawn0.step)⟩

/-! ### impl_hasRing: function 86 -/
def impl_hasRing.f (k : Nat) (a0_0 : Int) (a0_1 : Int) (l0_2 : List Int) : Option (Bool) := (impl_IsChart.f k a0_0 a0_1 l0_2).bind fun t214 => (if t214 = true then ((impl_isRingSide.f a0_0).bind fun t215 => (if t215 = true then ((impl_isRingSide.f a0_1).bind fun t216 => (some t216)) else (some false))) else (some false))
theorem impl_hasRing.mono : ∀ a0 a1 a2 k, LeO (impl_hasRing.f k a0 a1 a2) (impl_hasRing.f (k + 1) a0 a1 a2) := by
  intro a0 a1 a2 k
  unfold impl_hasRing.f
  repeat' first
      | (with_reducible exact impl_IsChart.mono _ _ _ _)
      | (with_reducible exact LeO.refl _)
      | (with_reducible exact LeO.none _)
      | (with_reducible refine LeO.ite ?_ ?_)
      | (with_reducible refine LeO.bind ?_ (fun _ => ?_))
      | exact impl_IsChart.mono _ _ _ _
      | exact LeO.none _
      | refine LeO.ite ?_ ?_
      | refine LeO.bind ?_ (fun _ => ?_)
set_option maxHeartbeats 8000000 in
set_option maxRecDepth 100000 in
theorem impl_hasRing.calls (k : Nat) (a0_0 : Int) (a0_1 : Int) (A0_2 : Option Addr) (c0_2 : Nat) (l0_2 : List Int) (r : Bool) (w : World) (hr0_2 : Kd.C (Kd.int .i64) w A0_2 l0_2.length l0_2) (hc0_2 : l0_2.length ≤ c0_2) (h : impl_hasRing.f k a0_0 a0_1 l0_2 = some r) :
  Calls Try.prog 86 #[.agg #[.int .i64 a0_0, .int .i64 a0_1, .slice A0_2 l0_2.length c0_2]] w fun e w' => e = .returned (.bool r) ∧ Below w.heap.size w w' := by
 have hu26 := Try.underlying26
 have HR0_2 := Aside0.mk hr0_2
 have HC0_2 := Aside0.mk hc0_2
 clear hr0_2 hc0_2
 have HB := Aside0.mk (Below.refl w.heap.size w)
 have H : ((impl_IsChart.f k a0_0 a0_1 l0_2).bind fun t214 => (if t214 = true then ((impl_isRingSide.f a0_0).bind fun t215 => (if t215 = true then ((impl_isRingSide.f a0_1).bind fun t216 => (some t216)) else (some false))) else (some false))) = some r := h
 clear h
 replace H := Option.bind_eq_some_iff.mp H
 obtain ⟨t214, A20, H⟩ := H
 replace H : (if t214 = true then ((impl_isRingSide.f a0_0).bind fun t215 => (if t215 = true then ((impl_isRingSide.f a0_1).bind fun t216 => (some t216)) else (some false))) else (some false)) = some r := H
 have A2 := Aside0.mk A20
 clear A20
 by_cases c3 : t214 = true
 ·subst c3
  have H1 : ((impl_isRingSide.f a0_0).bind fun t215 => (if t215 = true then ((impl_isRingSide.f a0_1).bind fun t216 => (some t216)) else (some false))) = some r := by rw [if_pos rfl] at H; exact H
  clear H
  have H := H1
  clear H1
  replace H := Option.bind_eq_some_iff.mp H
  obtain ⟨t215, A40, H⟩ := H
  replace H : (if t215 = true then ((impl_isRingSide.f a0_1).bind fun t216 => (some t216)) else (some false)) = some r := H
  have A4 := Aside0.mk A40
  clear A40
  by_cases c5 : t215 = true
  ·subst c5
   have H1 : ((impl_isRingSide.f a0_1).bind fun t216 => (some t216)) = some r := by rw [if_pos rfl] at H; exact H
   clear H
   have H := H1
   clear H1
   replace H := Option.bind_eq_some_iff.mp H
   obtain ⟨t216, A60, H⟩ := H
   replace H : (some t216) = some r := H
   have A6 := Aside0.mk A60
   clear A60
   obtain rfl := Option.some.inj H
   go_enter Try.func86, Try.ntmps86
   go_wp2_with (first | (refine box_ (N := 1) (cs := #[.int .i64 a0_0, .int .i64 a0_1, .slice A0_2 l0_2.length c0_2]) (t := 26) ?_; intro gb213 hg w7 hbox hb; have BK213 := Aside0.mk (hbox); have GW213 := gz_ w hg; have GE213 := gz_ w hg; replace HB := Aside0.mk (below_step bw_ hb); clear hb hbox hg; obtain ⟨hcz8_0, hcz8_1, hcz8_2, hfz8_0, hfz8_1, hfz8_2⟩ := bc3_ BK213) | ((with_reducible refine gate_callee (f := 57) rfl ?_); refine goesB (some 4) Try.func57 #[.agg #[.int .i64 a0_0, .int .i64 a0_1, .slice A0_2 l0_2.length c0_2]] ?_; (with_reducible refine (impl_IsChart.calls k a0_0 a0_1 _ _ l0_2 true _ ?side1 ?side2 A2.out).mono ?_); (case side1 => exact cb_ HR0_2 HB); (case side2 => exact HC0_2.out); rintro e w9 ⟨rfl, hb⟩; refine ⟨_, rfl, ?_⟩; replace BK213 := bb_ BK213 hb; replace HB := Aside0.mk (below_step bw_ hb); (try clear hb); (try clear hb2); (try clear hk); (try clear hi); obtain ⟨hcz10_0, hcz10_1, hcz10_2, hfz10_0, hfz10_1, hfz10_2⟩ := bc3_ BK213) | (go_at_call 120; (with_reducible refine (impl_isRingSide.calls a0_0 true _ A4.out).mono ?_); rintro e w' ⟨rfl, ⟨nd, rfl⟩⟩) | (go_at_call 120; (with_reducible refine (impl_isRingSide.calls a0_1 t216 _ A6.out).mono ?_); rintro e w' ⟨rfl, ⟨nd, rfl⟩⟩))
   go_ret
   exact ⟨by first | rfl | (simp [errW_none, errW_some] <;> rfl) | (simp [*, errW_none, errW_some] <;> rfl), bw_⟩
  ·replace c5 := Bool.eq_false_iff.mpr c5
   subst c5
   have H1 : (some false) = some r := by rw [if_neg (show ¬ (false = true) by decide)] at H; exact H
   clear H
   have H := H1
   clear H1
   obtain rfl := Option.some.inj H
   go_enter Try.func86, Try.ntmps86
   go_wp2_with (first | (refine box_ (N := 1) (cs := #[.int .i64 a0_0, .int .i64 a0_1, .slice A0_2 l0_2.length c0_2]) (t := 26) ?_; intro gb213 hg w11 hbox hb; have BK213 := Aside0.mk (hbox); have GW213 := gz_ w hg; have GE213 := gz_ w hg; replace HB := Aside0.mk (below_step bw_ hb); clear hb hbox hg; obtain ⟨hcz12_0, hcz12_1, hcz12_2, hfz12_0, hfz12_1, hfz12_2⟩ := bc3_ BK213) | ((with_reducible refine gate_callee (f := 57) rfl ?_); refine goesB (some 4) Try.func57 #[.agg #[.int .i64 a0_0, .int .i64 a0_1, .slice A0_2 l0_2.length c0_2]] ?_; (with_reducible refine (impl_IsChart.calls k a0_0 a0_1 _ _ l0_2 true _ ?side1 ?side2 A2.out).mono ?_); (case side1 => exact cb_ HR0_2 HB); (case side2 => exact HC0_2.out); rintro e w13 ⟨rfl, hb⟩; refine ⟨_, rfl, ?_⟩; replace BK213 := bb_ BK213 hb; replace HB := Aside0.mk (below_step bw_ hb); (try clear hb); (try clear hb2); (try clear hk); (try clear hi); obtain ⟨hcz14_0, hcz14_1, hcz14_2, hfz14_0, hfz14_1, hfz14_2⟩ := bc3_ BK213) | (go_at_call 120; (with_reducible refine (impl_isRingSide.calls a0_0 false _ A4.out).mono ?_); rintro e w' ⟨rfl, ⟨nd, rfl⟩⟩))
   go_ret
   exact ⟨by first | rfl | (simp [errW_none, errW_some] <;> rfl) | (simp [*, errW_none, errW_some] <;> rfl), bw_⟩
 ·replace c3 := Bool.eq_false_iff.mpr c3
  subst c3
  have H1 : (some false) = some r := by rw [if_neg (show ¬ (false = true) by decide)] at H; exact H
  clear H
  have H := H1
  clear H1
  obtain rfl := Option.some.inj H
  go_enter Try.func86, Try.ntmps86
  go_wp2_with (first | (refine box_ (N := 1) (cs := #[.int .i64 a0_0, .int .i64 a0_1, .slice A0_2 l0_2.length c0_2]) (t := 26) ?_; intro gb213 hg w15 hbox hb; have BK213 := Aside0.mk (hbox); have GW213 := gz_ w hg; have GE213 := gz_ w hg; replace HB := Aside0.mk (below_step bw_ hb); clear hb hbox hg; obtain ⟨hcz16_0, hcz16_1, hcz16_2, hfz16_0, hfz16_1, hfz16_2⟩ := bc3_ BK213) | ((with_reducible refine gate_callee (f := 57) rfl ?_); refine goesB (some 4) Try.func57 #[.agg #[.int .i64 a0_0, .int .i64 a0_1, .slice A0_2 l0_2.length c0_2]] ?_; (with_reducible refine (impl_IsChart.calls k a0_0 a0_1 _ _ l0_2 false _ ?side1 ?side2 A2.out).mono ?_); (case side1 => exact cb_ HR0_2 HB); (case side2 => exact HC0_2.out); rintro e w17 ⟨rfl, hb⟩; refine ⟨_, rfl, ?_⟩; replace BK213 := bb_ BK213 hb; replace HB := Aside0.mk (below_step bw_ hb); (try clear hb); (try clear hb2); (try clear hk); (try clear hi)))
  go_ret
  exact ⟨by first | rfl | (simp [errW_none, errW_some] <;> rfl) | (simp [*, errW_none, errW_some] <;> rfl), bw_⟩

/-! ### impl_ringLength: function 87 -/
def impl_ringLength.f (a0 : Int) (a1 : Int) : Option (Int) := some (wrap64 ((wrap64 (2 * (wrap64 (a0 + a1)))) - 4))
set_option maxHeartbeats 8000000 in
set_option maxRecDepth 100000 in
theorem impl_ringLength.calls (a0 : Int) (a1 : Int) (r : Int) (w : World) (h : impl_ringLength.f a0 a1 = some r) :
  Calls Try.prog 87 #[.int .i64 a0, .int .i64 a1] w fun e w' => e = .returned (.int .i64 r) ∧ Drawn0 w w' := by
 have H : (some (wrap64 ((wrap64 (2 * (wrap64 (a0 + a1)))) - 4))) = some r := h
 clear h
 obtain rfl := Option.some.inj H
 go_enter Try.func87, Try.ntmps87
 go_wp2
 go_ret
 exact ⟨by first | rfl | (simp; done) | (simp [*]; done), by repeat (first | exact Drawn0.refl _ | apply Drawn0.step)⟩

/-! ### slices_Clone_int_int: function 103 -/
def slices_Clone_int_int.f (l0 : List Int) : Option (List Int) := if l0.length < 17592186044416 then some l0 else none
set_option maxHeartbeats 8000000 in
set_option maxRecDepth 100000 in
theorem slices_Clone_int_int.calls (A0 : Option Addr) (c0 : Nat) (l0 : List Int) (r : List Int) (w : World) (hr0 : Kd.C (Kd.int .i64) w A0 l0.length l0) (hc0 : l0.length ≤ c0) (h : slices_Clone_int_int.f l0 = some r) :
    Calls Try.prog 103 #[.slice A0 l0.length c0] w fun e w' => ∃ v0_ : Value, e = .returned (v0_) ∧ Kd.R (Kd.int .i64) 3 w' w.heap.size (fun _ => True) v0_ r ∧ Below w.heap.size w w' := by
  unfold slices_Clone_int_int.f at h
  by_cases hl : l0.length < 17592186044416
  · rw [if_pos hl] at h
    obtain rfl := Option.some.inj h
    have LMc2 := Aside0.mk hl
    clear hl h
    have HB := Aside0.mk (Below.refl w.heap.size w)
    cases A0 with
    | none =>
      have he : l0 = [] := by
        cases l0 with
        | nil => rfl
        | cons x xs => obtain ⟨ad, _, e, _⟩ := Kd.C_get hr0 0 0 (by omega) (by simp only [List.length]; omega); cases e
      subst he
      clear hr0 hc0 LMc2
      have heq : ∀ (W : World) (n_ c_ : Nat), (binOp .eql 22 (.slice none n_ c_) (.slice none 0 0)).run Try.prog W = .ok (.bool true) W := fun W n_ c_ => Lib.run_eql_slice_nil W 22 3 none n_ c_ 0 0 Try.underlying22
      go_enter Try.func103, Try.ntmps103
      go_wp2
      go_ret
      exact ⟨_, rfl, Kd.R_nil _ _ _ _ _, by repeat (first | (with_reducible first | exact HB.out | apply below_alloc | apply pw_below_drewN | apply below_drew1) | exact HB.out)⟩
    | some a0 =>
      have heq : ∀ (W : World) (n_ c_ : Nat), (binOp .eql 22 (.slice (some a0) n_ c_) (.slice none 0 0)).run Try.prog W = .ok (.bool false) W := fun W n_ c_ => Lib.run_eql_slice_nil W 22 3 (some a0) n_ c_ 0 0 Try.underlying22
      have HR0 := Aside0.mk hr0
      have HC0 := Aside0.mk hc0
      clear hr0 hc0
      go_enter Try.func103, Try.ntmps103
      go_wp2_with (first | ((with_reducible refine gate_dst (N := 5) rfl ?_); refine Kd.R_lit (Kd.int .i64) _ 3 ?hg (N := 5) ?hd (xs := ([] : List Int)) (inner := []) (ok := fun _ => True) (okp := fun _ => True) ?hr ?hp (fun _ hk => hk) trivial (Below.refl _ _) (Nat.le_refl _) (by simp) ?_; (case hd => rfl); (case hg => rfl); (case hr => first | (go_simp; done) | (go_simp; rfl)); (case hp => exact (Reps.none _ _)); intro v111 w3 ho4 hb hg_ hnew_; clear hg_ hnew_; have n0_ := Aside0.mk (Kd.R_lower ho4 (below_size (by repeat (first | (with_reducible first | exact HB.out | apply below_alloc | apply pw_below_drewN | apply below_drew1) | exact HB.out)))); have n1_ := Aside0.mk (below_step (by repeat (first | (with_reducible first | exact HB.out | apply below_alloc | apply pw_below_drewN | apply below_drew1) | exact HB.out)) hb); clear HB; have HO112 := n0_; have HB := n1_; clear n0_ n1_; clear hb ho4) | ((with_reducible refine gate_builtin (b := .append) (xs := #[.tmp 5, .tmp 6]) rfl ?_); at_builtin; refine Kd.R_append_rows (Kd.int .i64) (w0 := w) w.heap.size rfl (.tmp 5) (.tmp 6) 22 3 (.int .i64 0) 8 rfl Try.underlying22 info3 rfl (by decide) (by omega) v111 [] l0 _ _ _ (fun _ => True) (fun _ => False) rfl rfl ?aO ?aR (fun _ _ h => h) (fun _ h => h.elim) ?aF ?aB ?aS ?aL ?_; (case aR => repeat (first | exact (Kd.C_below HR0.out HB.out) | (with_reducible refine Kd.C_alloc ?_ _) | (with_reducible refine Kd.C_drewN ?_ _) | (with_reducible refine Kd.C_drew ?_))); (case aB => exact (by repeat (first | (with_reducible first | exact HB.out | apply below_alloc | apply pw_below_drewN | apply below_drew1) | exact HB.out))); (case aF => exact (fun _ _ => trivial)); (case aO => exact (by (with_reducible repeat (first | apply Kd.R_alloc | apply Kd.R_drewN | apply Kd.R_drew)); exact HO112.out)); (case aS => exact (below_size (by repeat (first | (with_reducible first | exact HB.out | apply below_alloc | apply pw_below_drewN | apply below_drew1) | exact HB.out)))); (case aL => have := LMc2.out; simp only [List.length_nil]; omega); intro v114 w5 ho hb hg hat; rw [List.nil_append] at ho; have n0_ := Aside0.mk (hb); have n1_ := Aside0.mk (ho); clear HB; clear HO112; have HB := n0_; have HO115 := n1_; clear n0_ n1_; clear ho hb hg hat))
      go_ret
      exact ⟨_, by first | rfl | (simp [errW_none, errW_some] <;> rfl) | (simp [*, errW_none, errW_some] <;> rfl), by (with_reducible repeat (first | apply Kd.R_alloc | apply Kd.R_drewN | apply Kd.R_drew)); exact HO115.out, by repeat (first | (with_reducible first | exact HB.out | apply below_alloc | apply pw_below_drewN | apply below_drew1) | exact HB.out)⟩
  · rw [if_neg hl] at h
    exact absurd h (by simp)

/-! ### impl_Chart_copied: function 59 -/
def impl_Chart_copied.f (a0_0 : Int) (a0_1 : Int) (l0_2 : List Int) : Option (Int × Int × List Int) := (slices_Clone_int_int.f l0_2).bind fun t219 => (some (a0_0, a0_1, t219))
set_option maxHeartbeats 8000000 in
set_option maxRecDepth 100000 in
theorem impl_Chart_copied.calls (a0_0 : Int) (a0_1 : Int) (A0_2 : Option Addr) (c0_2 : Nat) (l0_2 : List Int) (r1 : Int) (r2 : Int) (r3 : List Int) (w : World) (hr0_2 : Kd.C (Kd.int .i64) w A0_2 l0_2.length l0_2) (hc0_2 : l0_2.length ≤ c0_2) (h : impl_Chart_copied.f a0_0 a0_1 l0_2 = some (r1, r2, r3)) :
  Calls Try.prog 59 #[.agg #[.int .i64 a0_0, .int .i64 a0_1, .slice A0_2 l0_2.length c0_2]] w fun e w' => ∃ v2_ : Value, e = .returned (.agg #[.int .i64 r1, .int .i64 r2, v2_]) ∧ Kd.R (Kd.int .i64) 3 w' w.heap.size (fun _ => True) v2_ r3 ∧ Below w.heap.size w w' := by
 have hu26 := Try.underlying26
 have HR0_2 := Aside0.mk hr0_2
 have HC0_2 := Aside0.mk hc0_2
 clear hr0_2 hc0_2
 have HB := Aside0.mk (Below.refl w.heap.size w)
 have H : ((slices_Clone_int_int.f l0_2).bind fun t219 => (some (a0_0, a0_1, t219))) = some (r1, r2, r3) := h
 clear h
 replace H := Option.bind_eq_some_iff.mp H
 obtain ⟨t219, A20, H⟩ := H
 replace H : (some (a0_0, a0_1, t219)) = some (r1, r2, r3) := H
 have A2 := Aside0.mk A20
 clear A20
 simp only [Option.some.injEq, Prod.mk.injEq] at H
 obtain ⟨rfl, rfl, rfl⟩ := H
 go_enter Try.func59, Try.ntmps59
 go_wp2_with (first | (refine box_ (N := 1) (cs := #[.int .i64 a0_0, .int .i64 a0_1, .slice A0_2 l0_2.length c0_2]) (t := 26) ?_; intro gb217 hg w3 hbox hb; have BK217 := Aside0.mk (hbox); have GW217 := gz_ w hg; have GE217 := gz_ w hg; replace HB := Aside0.mk (below_step bw_ hb); clear hb hbox hg) | (refine box_ (N := 2) (cs := #[.int .i64 0, .int .i64 0, .slice none 0 0]) (t := 26) ?_; intro gb218 hg w4 hbox hb; have n0_ := bb_ BK217 hb; have n1_ := Aside0.mk (below_step bw_ hb); have n2_ := Aside0.mk (hbox); have n3_ := gz_ w hg; have n4_ := gz_ w hg; have n5_ := ne_ hg BK217; have n6_ := en_ hg BK217; clear BK217; clear HB; have BK217 := n0_; have HB := n1_; have BK218 := n2_; have GW218 := n3_; have GE218 := n4_; have NB217_218 := n5_; have NB218_217 := n6_; clear n0_ n1_ n2_ n3_ n4_ n5_ n6_; clear hb hbox hg; have hnb5 := NB217_218.out; have hnc5 := NB218_217.out; obtain ⟨hcz6_0, hcz6_1, hcz6_2, hfz6_0, hfz6_1, hfz6_2⟩ := bc3_ BK217) | ((with_reducible refine gate_callee (f := 103) rfl ?_); refine goesB (some 5) Try.func103 #[.slice A0_2 l0_2.length c0_2] ?_; (with_reducible refine (slices_Clone_int_int.calls _ _ l0_2 t219 _ ?side1 ?side2 A2.out).mono ?_); (case side1 => exact cb_ HR0_2 HB); (case side2 => exact HC0_2.out); rintro e w7 ⟨v220, rfl, ho0, hb⟩; refine ⟨_, rfl, ?_⟩; have HO221 := Aside0.mk (Kd.R_lower ho0 (below_size bw_)); replace BK217 := bb_ BK217 hb; replace BK218 := bb_ BK218 hb; replace HB := Aside0.mk (below_step bw_ hb); (try clear hb); (try clear hb2); (try clear hk); (try clear hi); (try clear ho0); obtain ⟨Ao8, co8, eo8⟩ := Kd.R_slice HO221.out; subst eo8; obtain ⟨hcz9_0, hcz9_1, hcz9_2, hfz9_0, hfz9_1, hfz9_2⟩ := bc3_ BK217; obtain ⟨hcz10_0, hcz10_1, hcz10_2, hfz10_0, hfz10_1, hfz10_2⟩ := bc3_ BK218))
 refine bodyPost_ret (results_cell_row rfl _ _ gb218 26 #[.int .i64 a0_0, .int .i64 a0_1, .slice Ao8 t219.length co8] (0, 0) _ rfl (bq_ BK218) Try.underlying26 rfl (by kernel_rfl)) rfl ?_
 exact ⟨_, by first | rfl | (simp [errW_none, errW_some] <;> rfl) | (simp [*, errW_none, errW_some] <;> rfl), by exact rf_ (Kd.R_types (Kd.R_types HO221.out BK217.out (by decide)) BK218.out (by decide)) (fun _ hk => trivial), bw_⟩

/-! ### impl_ringPlaces: function 123 -/
mutual
def impl_ringPlaces.l0 : Nat → Int → Int → List Int → Int → Int → Option (List Int)
  | 0, _, _, _, _, _ => none
  | k + 1, x0, x1, x5, x11, x12 => if x12 < x11 then (if x5.length < 17592186044416 then (impl_ringPlaces.l0 k x0 x1 (x5 ++ [x12]) x11 (wrap64 (x12 + 1))) else (none)) else (impl_ringPlaces.l1 k x0 x1 x5 1)
def impl_ringPlaces.l1 : Nat → Int → Int → List Int → Int → Option (List Int)
  | 0, _, _, _, _ => none
  | k + 1, x0, x1, x5, x7 => if x7 < x1 then (if x5.length < 17592186044416 then (impl_ringPlaces.l1 k x0 x1 (x5 ++ [wrap64 ((wrap64 ((wrap64 (x7 * x0)) + x0)) - 1)]) (wrap64 (x7 + 1))) else (none)) else (impl_ringPlaces.l2 k x0 x1 x5 (wrap64 (x0 - 2)))
def impl_ringPlaces.l2 : Nat → Int → Int → List Int → Int → Option (List Int)
  | 0, _, _, _, _ => none
  | k + 1, x0, x1, x5, x8 => if x8 ≥ 0 then (if x5.length < 17592186044416 then (impl_ringPlaces.l2 k x0 x1 (x5 ++ [wrap64 ((wrap64 ((wrap64 (x1 - 1)) * x0)) + x8)]) (wrap64 (x8 - 1))) else (none)) else (impl_ringPlaces.l3 k x0 x5 (wrap64 (x1 - 2)))
def impl_ringPlaces.l3 : Nat → Int → List Int → Int → Option (List Int)
  | 0, _, _, _ => none
  | k + 1, x0, x5, x9 => if x9 > 0 then (if x5.length < 17592186044416 then (impl_ringPlaces.l3 k x0 (x5 ++ [wrap64 (x9 * x0)]) (wrap64 (x9 - 1))) else (none)) else (some x5)
end
def impl_ringPlaces.f (k : Nat) (a0 : Int) (a1 : Int) : Option (List Int) := impl_ringPlaces.l0 k a0 a1 (([] : List Int)) a0 0
theorem impl_ringPlaces.mono_l : ∀ k, (∀ y0 y1 y2 y3 y4, LeO (impl_ringPlaces.l0 k y0 y1 y2 y3 y4) (impl_ringPlaces.l0 (k + 1) y0 y1 y2 y3 y4)) ∧ (∀ y0 y1 y2 y3, LeO (impl_ringPlaces.l1 k y0 y1 y2 y3) (impl_ringPlaces.l1 (k + 1) y0 y1 y2 y3)) ∧ (∀ y0 y1 y2 y3, LeO (impl_ringPlaces.l2 k y0 y1 y2 y3) (impl_ringPlaces.l2 (k + 1) y0 y1 y2 y3)) ∧ (∀ y0 y1 y2, LeO (impl_ringPlaces.l3 k y0 y1 y2) (impl_ringPlaces.l3 (k + 1) y0 y1 y2))
  | 0 => ⟨fun _ _ _ _ _ r h => by simp [impl_ringPlaces.l0] at h, fun _ _ _ _ r h => by simp [impl_ringPlaces.l1] at h, fun _ _ _ _ r h => by simp [impl_ringPlaces.l2] at h, fun _ _ _ r h => by simp [impl_ringPlaces.l3] at h⟩
  | k + 1 => by
    obtain ⟨ih0, ih1, ih2, ih3⟩ := impl_ringPlaces.mono_l k
    refine ⟨?_, ?_, ?_, ?_⟩
    · intro y0 y1 y2 y3 y4
      unfold impl_ringPlaces.l0
      repeat' first
      | (with_reducible exact ih0 _ _ _ _ _)
      | (with_reducible exact ih1 _ _ _ _)
      | (with_reducible exact ih2 _ _ _ _)
      | (with_reducible exact ih3 _ _ _)
      | (with_reducible exact LeO.refl _)
      | (with_reducible exact LeO.none _)
      | (with_reducible refine LeO.ite ?_ ?_)
      | (with_reducible refine LeO.bind ?_ (fun _ => ?_))
      | exact ih0 _ _ _ _ _
      | exact ih1 _ _ _ _
      | exact ih2 _ _ _ _
      | exact ih3 _ _ _
      | exact LeO.none _
      | refine LeO.ite ?_ ?_
      | refine LeO.bind ?_ (fun _ => ?_)
    · intro y0 y1 y2 y3
      unfold impl_ringPlaces.l1
      repeat' first
      | (with_reducible exact ih0 _ _ _ _ _)
      | (with_reducible exact ih1 _ _ _ _)
      | (with_reducible exact ih2 _ _ _ _)
      | (with_reducible exact ih3 _ _ _)
      | (with_reducible exact LeO.refl _)
      | (with_reducible exact LeO.none _)
      | (with_reducible refine LeO.ite ?_ ?_)
      | (with_reducible refine LeO.bind ?_ (fun _ => ?_))
      | exact ih0 _ _ _ _ _
      | exact ih1 _ _ _ _
      | exact ih2 _ _ _ _
      | exact ih3 _ _ _
      | exact LeO.none _
      | refine LeO.ite ?_ ?_
      | refine LeO.bind ?_ (fun _ => ?_)
    · intro y0 y1 y2 y3
      unfold impl_ringPlaces.l2
      repeat' first
      | (with_reducible exact ih0 _ _ _ _ _)
      | (with_reducible exact ih1 _ _ _ _)
      | (with_reducible exact ih2 _ _ _ _)
      | (with_reducible exact ih3 _ _ _)
      | (with_reducible exact LeO.refl _)
      | (with_reducible exact LeO.none _)
      | (with_reducible refine LeO.ite ?_ ?_)
      | (with_reducible refine LeO.bind ?_ (fun _ => ?_))
      | exact ih0 _ _ _ _ _
      | exact ih1 _ _ _ _
      | exact ih2 _ _ _ _
      | exact ih3 _ _ _
      | exact LeO.none _
      | refine LeO.ite ?_ ?_
      | refine LeO.bind ?_ (fun _ => ?_)
    · intro y0 y1 y2
      unfold impl_ringPlaces.l3
      repeat' first
      | (with_reducible exact ih0 _ _ _ _ _)
      | (with_reducible exact ih1 _ _ _ _)
      | (with_reducible exact ih2 _ _ _ _)
      | (with_reducible exact ih3 _ _ _)
      | (with_reducible exact LeO.refl _)
      | (with_reducible exact LeO.none _)
      | (with_reducible refine LeO.ite ?_ ?_)
      | (with_reducible refine LeO.bind ?_ (fun _ => ?_))
      | exact ih0 _ _ _ _ _
      | exact ih1 _ _ _ _
      | exact ih2 _ _ _ _
      | exact ih3 _ _ _
      | exact LeO.none _
      | refine LeO.ite ?_ ?_
      | refine LeO.bind ?_ (fun _ => ?_)
theorem impl_ringPlaces.mono : ∀ a0 a1 k, LeO (impl_ringPlaces.f k a0 a1) (impl_ringPlaces.f (k + 1) a0 a1) := by
  intro a0 a1 k
  obtain ⟨ih0, ih1, ih2, ih3⟩ := impl_ringPlaces.mono_l k
  unfold impl_ringPlaces.f
  repeat' first
      | (with_reducible exact ih0 _ _ _ _ _)
      | (with_reducible exact ih1 _ _ _ _)
      | (with_reducible exact ih2 _ _ _ _)
      | (with_reducible exact ih3 _ _ _)
      | (with_reducible exact LeO.refl _)
      | (with_reducible exact LeO.none _)
      | (with_reducible refine LeO.ite ?_ ?_)
      | (with_reducible refine LeO.bind ?_ (fun _ => ?_))
      | exact ih0 _ _ _ _ _
      | exact ih1 _ _ _ _
      | exact ih2 _ _ _ _
      | exact ih3 _ _ _
      | exact LeO.none _
      | refine LeO.ite ?_ ?_
      | refine LeO.bind ?_ (fun _ => ?_)
set_option maxHeartbeats 8000000 in
set_option maxRecDepth 100000 in
theorem impl_ringPlaces.calls (k : Nat) (a0 : Int) (a1 : Int) (r : List Int) (w : World) (h : impl_ringPlaces.f k a0 a1 = some r) :
  Calls Try.prog 123 #[.int .i64 a0, .int .i64 a1] w fun e w' => ∃ v0_ : Value, e = .returned (v0_) ∧ Kd.R (Kd.int .i64) 3 w' w.heap.size (fun _ => True) v0_ r ∧ Below w.heap.size w w' := by
 have HB := Aside0.mk (Below.refl w.heap.size w)
 have H : (impl_ringPlaces.l0 k a0 a1 (([] : List Int)) a0 0) = some r := h
 clear h
 obtain ⟨y222, hy222⟩ : ∃ y_ : List Int, y_ = (([] : List Int)) := ⟨_, rfl⟩
 replace H : (impl_ringPlaces.l0 k a0 a1 y222 a0 0) = some r := by first | (rw [hy222]; with_reducible exact H) | (have H2_ := (Option.bind_some _ _).symm.trans H; rw [hy222]; with_reducible exact H2_) | (have H2_ := (Option.bind_some _ _).symm.trans H; with_reducible exact H2_) | with_reducible exact H | (rw [hy222]; exact H) | exact H
 have Ny222 := Aside0.mk hy222
 clear hy222
 have H' := Aside0.mk H
 clear H
 go_enter Try.func123, Try.ntmps123
 go_wp2_with (first | ((with_reducible refine gate_dst (N := 10) rfl ?_); refine Kd.R_lit (Kd.int .i64) _ 3 ?hg (N := 10) ?hd (xs := ([] : List Int)) (inner := []) (ok := fun _ => True) (okp := fun _ => True) ?hr ?hp (fun _ hk => hk) trivial (Below.refl _ _) (Nat.le_refl _) (by simp) ?_; (case hd => rfl); (case hg => rfl); (case hr => first | (go_simp; done) | (go_simp; rfl)); (case hp => exact (Reps.none _ _)); intro v223 w3 ho4 hb hg_ hnew_; clear hg_ hnew_; (first | rw [← Ny222.out] at ho4 | (simp only [Int.reduceToNat] at ho4; rw [← Ny222.out] at ho4)); have HO224 := Aside0.mk (Kd.R_lower ho4 (below_size bw_)); replace HB := Aside0.mk (below_step bw_ hb); clear hb ho4))
 go_loopg [5, 12] k (fun kq v5 v12 w' => ∃ (x5_1 : List Int) (x12_1 : Int), v12 = .int .i64 x12_1 ∧ Aside0 (impl_ringPlaces.l0 kq a0 a1 x5_1 a0 x12_1 = some r) ∧ Aside0 (kq ≤ k) ∧ Aside0 (Kd.R (Kd.int .i64) 3 w' w.heap.size (fun _ => True) v5 x5_1) ∧ Aside0 (Below w.heap.size w w'))
 case atStart => exact ⟨(y222), (0), (by first | rfl | (simp; done) | (simp [*]; done)), H', ⟨Nat.le_refl _⟩, ⟨by (with_reducible repeat (first | apply Kd.R_alloc | apply Kd.R_drewN | apply Kd.R_drew)); exact HO224.out⟩, ⟨bw_⟩⟩
 case round =>
  clear H'
  try clear c1
  try clear p2
  obtain ⟨x5_1, x12_1, rfl, HA, HK1, HO_5, HB⟩ := hrel
  cases gk with
  | zero => exact absurd HA.out (by simp [impl_ringPlaces.l0])
  | succ k1 =>
   have H := HA.out
   clear HA
   simp only [impl_ringPlaces.l0] at H
   by_cases c5 : x12_1 < a0
   ·rw [if_pos c5] at H
    have c5b0 : decide (x12_1 < a0) = true := decide_eq_true c5
    clear c5
    by_cases c6 : x5_1.length < 17592186044416
    ·rw [if_pos c6] at H
     have LMc6 := Aside0.mk c6
     clear c6
     obtain ⟨y225, hy225⟩ : ∃ y_ : List Int, y_ = (x5_1 ++ [x12_1]) := ⟨_, rfl⟩
     replace H : (impl_ringPlaces.l0 k1 a0 a1 y225 a0 (wrap64 (x12_1 + 1))) = some r := by first | (rw [hy225]; with_reducible exact H) | (have H2_ := (Option.bind_some _ _).symm.trans H; rw [hy225]; with_reducible exact H2_) | (have H2_ := (Option.bind_some _ _).symm.trans H; with_reducible exact H2_) | with_reducible exact H | (rw [hy225]; exact H) | exact H
     have Ny225 := Aside0.mk hy225
     clear hy225
     have H' := Aside0.mk H
     clear H
     go_wp2_with (first | ((with_reducible refine gate_builtin (b := .append) (xs := #[.tmp 15, .tmp 17]) rfl ?_); at_builtin; refine Kd.R_append (Kd.int .i64) (w0 := w) w.heap.size rfl (.tmp 15) (.tmp 17) 22 3 (.int .i64 0) 8 rfl Try.underlying22 info3 rfl (by decide) (by omega) u5 x5_1 x12_1 [.int .i64 x12_1] (fun _ => True) (fun _ => False) rfl rfl ?aP (fun _ hk => hk.elim) ?aF ?aO ?aB ?aS ?aL ?_; (case aP => exact rfl); (case aB => exact bw_); (case aF => exact (fun _ _ => trivial)); (case aO => exact (by (with_reducible repeat (first | apply Kd.R_alloc | apply Kd.R_drewN | apply Kd.R_drew)); exact HO_5.out)); (case aS => exact (below_size bw_)); (case aL => have := LMc6.out; omega); intro v226 w7 ho hb hg hat; rw [← Ny225.out] at ho; have HO227 := Aside0.mk (ho); replace HB := Aside0.mk (hb); clear HO_5; clear ho hb hg hat))
     go_roundg k1
     case measure => have := HK1.out; omega
     case rel => exact ⟨(y225), (wrap64 (x12_1 + 1)), (by first | rfl | (simp; done) | (simp [*]; done)), H', ⟨by have := HK1.out; omega⟩, ⟨by (with_reducible repeat (first | apply Kd.R_alloc | apply Kd.R_drewN | apply Kd.R_drew)); exact HO227.out⟩, ⟨bw_⟩⟩
    ·rw [if_neg c6] at H
     exact absurd H (by simp)
   ·rw [if_neg c5] at H
    have c5b0 : decide (x12_1 < a0) = false := decide_eq_false c5
    clear c5
    have H' := Aside0.mk H
    clear H
    go_wp2
    go_loopg [5, 7] k1 (fun kq v5 v7 w' => ∃ (x5_2 : List Int) (x7_2 : Int), v7 = .int .i64 x7_2 ∧ Aside0 (impl_ringPlaces.l1 kq a0 a1 x5_2 x7_2 = some r) ∧ Aside0 (kq ≤ k1) ∧ Aside0 (Kd.R (Kd.int .i64) 3 w' w.heap.size (fun _ => True) v5 x5_2) ∧ Aside0 (Below w.heap.size w w'))
    case atStart => exact ⟨(x5_1), (1), (by first | rfl | (simp; done) | (simp [*]; done)), H', ⟨Nat.le_refl _⟩, ⟨by (with_reducible repeat (first | apply Kd.R_alloc | apply Kd.R_drewN | apply Kd.R_drew)); exact HO_5.out⟩, ⟨bw_⟩⟩
    case round =>
     clear H'
     try clear c1
     try clear p2
     try clear c5
     try clear c5b0
     try clear c6
     try clear p6
     try clear p2
     obtain ⟨x5_2, x7_2, rfl, HA, HK2, HO_5, HB⟩ := hrel
     cases gk with
     | zero => exact absurd HA.out (by simp [impl_ringPlaces.l1])
     | succ k2 =>
      have H := HA.out
      clear HA
      simp only [impl_ringPlaces.l1] at H
      by_cases c8 : x7_2 < a1
      ·rw [if_pos c8] at H
       have c8b0 : decide (x7_2 < a1) = true := decide_eq_true c8
       clear c8
       by_cases c9 : x5_2.length < 17592186044416
       ·rw [if_pos c9] at H
        have LMc9 := Aside0.mk c9
        clear c9
        obtain ⟨y228, hy228⟩ : ∃ y_ : List Int, y_ = (x5_2 ++ [wrap64 ((wrap64 ((wrap64 (x7_2 * a0)) + a0)) - 1)]) := ⟨_, rfl⟩
        replace H : (impl_ringPlaces.l1 k2 a0 a1 y228 (wrap64 (x7_2 + 1))) = some r := by first | (rw [hy228]; with_reducible exact H) | (have H2_ := (Option.bind_some _ _).symm.trans H; rw [hy228]; with_reducible exact H2_) | (have H2_ := (Option.bind_some _ _).symm.trans H; with_reducible exact H2_) | with_reducible exact H | (rw [hy228]; exact H) | exact H
        have Ny228 := Aside0.mk hy228
        clear hy228
        have H' := Aside0.mk H
        clear H
        go_wp2_with (first | ((with_reducible refine gate_builtin (b := .append) (xs := #[.tmp 25, .tmp 32]) rfl ?_); at_builtin; refine Kd.R_append (Kd.int .i64) (w0 := w) w.heap.size rfl (.tmp 25) (.tmp 32) 22 3 (.int .i64 0) 8 rfl Try.underlying22 info3 rfl (by decide) (by omega) u5 x5_2 (wrap64 ((wrap64 ((wrap64 (x7_2 * a0)) + a0)) - 1)) [.int .i64 (wrap64 ((wrap64 ((wrap64 (x7_2 * a0)) + a0)) - 1))] (fun _ => True) (fun _ => False) rfl rfl ?aP (fun _ hk => hk.elim) ?aF ?aO ?aB ?aS ?aL ?_; (case aP => exact rfl); (case aB => exact bw_); (case aF => exact (fun _ _ => trivial)); (case aO => exact (by (with_reducible repeat (first | apply Kd.R_alloc | apply Kd.R_drewN | apply Kd.R_drew)); exact HO_5.out)); (case aS => exact (below_size bw_)); (case aL => have := LMc9.out; omega); intro v229 w10 ho hb hg hat; rw [← Ny228.out] at ho; have HO230 := Aside0.mk (ho); replace HB := Aside0.mk (hb); clear HO_5; clear ho hb hg hat))
        go_roundg k2
        case measure => have := HK1.out; have := HK2.out; omega
        case rel => exact ⟨(y228), (wrap64 (x7_2 + 1)), (by first | rfl | (simp; done) | (simp [*]; done)), H', ⟨by have := HK1.out; have := HK2.out; omega⟩, ⟨by (with_reducible repeat (first | apply Kd.R_alloc | apply Kd.R_drewN | apply Kd.R_drew)); exact HO230.out⟩, ⟨bw_⟩⟩
       ·rw [if_neg c9] at H
        exact absurd H (by simp)
      ·rw [if_neg c8] at H
       have c8b0 : decide (x7_2 < a1) = false := decide_eq_false c8
       clear c8
       have H' := Aside0.mk H
       clear H
       go_wp2
       go_loopg [5, 8] k2 (fun kq v5 v8 w' => ∃ (x5_3 : List Int) (x8_3 : Int), v8 = .int .i64 x8_3 ∧ Aside0 (impl_ringPlaces.l2 kq a0 a1 x5_3 x8_3 = some r) ∧ Aside0 (kq ≤ k2) ∧ Aside0 (Kd.R (Kd.int .i64) 3 w' w.heap.size (fun _ => True) v5 x5_3) ∧ Aside0 (Below w.heap.size w w'))
       case atStart => exact ⟨(x5_2), (wrap64 (a0 - 2)), (by first | rfl | (simp; done) | (simp [*]; done)), H', ⟨Nat.le_refl _⟩, ⟨by (with_reducible repeat (first | apply Kd.R_alloc | apply Kd.R_drewN | apply Kd.R_drew)); exact HO_5.out⟩, ⟨bw_⟩⟩
       case round =>
        clear H'
        try clear c1
        try clear p2
        try clear c5
        try clear c5b0
        try clear c6
        try clear p6
        try clear c8
        try clear c8b0
        try clear c9
        try clear p2
        try clear p6
        obtain ⟨x5_3, x8_3, rfl, HA, HK3, HO_5, HB⟩ := hrel
        cases gk with
        | zero => exact absurd HA.out (by simp [impl_ringPlaces.l2])
        | succ k3 =>
         have H := HA.out
         clear HA
         simp only [impl_ringPlaces.l2] at H
         by_cases c11 : x8_3 ≥ 0
         ·rw [if_pos c11] at H
          have c11b0 : decide (0 ≤ x8_3) = true := decide_eq_true c11
          clear c11
          by_cases c12 : x5_3.length < 17592186044416
          ·rw [if_pos c12] at H
           have LMc12 := Aside0.mk c12
           clear c12
           obtain ⟨y231, hy231⟩ : ∃ y_ : List Int, y_ = (x5_3 ++ [wrap64 ((wrap64 ((wrap64 (a1 - 1)) * a0)) + x8_3)]) := ⟨_, rfl⟩
           replace H : (impl_ringPlaces.l2 k3 a0 a1 y231 (wrap64 (x8_3 - 1))) = some r := by first | (rw [hy231]; with_reducible exact H) | (have H2_ := (Option.bind_some _ _).symm.trans H; rw [hy231]; with_reducible exact H2_) | (have H2_ := (Option.bind_some _ _).symm.trans H; with_reducible exact H2_) | with_reducible exact H | (rw [hy231]; exact H) | exact H
           have Ny231 := Aside0.mk hy231
           clear hy231
           have H' := Aside0.mk H
           clear H
           go_wp2_with (first | ((with_reducible refine gate_builtin (b := .append) (xs := #[.tmp 40, .tmp 47]) rfl ?_); at_builtin; refine Kd.R_append (Kd.int .i64) (w0 := w) w.heap.size rfl (.tmp 40) (.tmp 47) 22 3 (.int .i64 0) 8 rfl Try.underlying22 info3 rfl (by decide) (by omega) u5 x5_3 (wrap64 ((wrap64 ((wrap64 (a1 - 1)) * a0)) + x8_3)) [.int .i64 (wrap64 ((wrap64 ((wrap64 (a1 - 1)) * a0)) + x8_3))] (fun _ => True) (fun _ => False) rfl rfl ?aP (fun _ hk => hk.elim) ?aF ?aO ?aB ?aS ?aL ?_; (case aP => exact rfl); (case aB => exact bw_); (case aF => exact (fun _ _ => trivial)); (case aO => exact (by (with_reducible repeat (first | apply Kd.R_alloc | apply Kd.R_drewN | apply Kd.R_drew)); exact HO_5.out)); (case aS => exact (below_size bw_)); (case aL => have := LMc12.out; omega); intro v232 w13 ho hb hg hat; rw [← Ny231.out] at ho; have HO233 := Aside0.mk (ho); replace HB := Aside0.mk (hb); clear HO_5; clear ho hb hg hat))
           go_roundg k3
           case measure => have := HK1.out; have := HK2.out; have := HK3.out; omega
           case rel => exact ⟨(y231), (wrap64 (x8_3 - 1)), (by first | rfl | (simp; done) | (simp [*]; done)), H', ⟨by have := HK1.out; have := HK2.out; have := HK3.out; omega⟩, ⟨by (with_reducible repeat (first | apply Kd.R_alloc | apply Kd.R_drewN | apply Kd.R_drew)); exact HO233.out⟩, ⟨bw_⟩⟩
          ·rw [if_neg c12] at H
           exact absurd H (by simp)
         ·rw [if_neg c11] at H
          have c11b0 : decide (0 ≤ x8_3) = false := decide_eq_false c11
          clear c11
          have H' := Aside0.mk H
          clear H
          go_wp2
          go_loopg [5, 9] k3 (fun kq v5 v9 w' => ∃ (x5_4 : List Int) (x9_4 : Int), v9 = .int .i64 x9_4 ∧ Aside0 (impl_ringPlaces.l3 kq a0 x5_4 x9_4 = some r) ∧ Aside0 (kq ≤ k3) ∧ Aside0 (Kd.R (Kd.int .i64) 3 w' w.heap.size (fun _ => True) v5 x5_4) ∧ Aside0 (Below w.heap.size w w'))
          case atStart => exact ⟨(x5_3), (wrap64 (a1 - 2)), (by first | rfl | (simp; done) | (simp [*]; done)), H', ⟨Nat.le_refl _⟩, ⟨by (with_reducible repeat (first | apply Kd.R_alloc | apply Kd.R_drewN | apply Kd.R_drew)); exact HO_5.out⟩, ⟨bw_⟩⟩
          case round =>
           clear H'
           try clear c1
           try clear p2
           try clear c5
           try clear c5b0
           try clear c6
           try clear p6
           try clear c8
           try clear c8b0
           try clear c9
           try clear c11
           try clear c11b0
           try clear c12
           try clear p2
           try clear p6
           obtain ⟨x5_4, x9_4, rfl, HA, HK4, HO_5, HB⟩ := hrel
           cases gk with
           | zero => exact absurd HA.out (by simp [impl_ringPlaces.l3])
           | succ k4 =>
            have H := HA.out
            clear HA
            simp only [impl_ringPlaces.l3] at H
            by_cases c14 : x9_4 > 0
            ·rw [if_pos c14] at H
             have c14b0 : decide (0 < x9_4) = true := decide_eq_true c14
             clear c14
             by_cases c15 : x5_4.length < 17592186044416
             ·rw [if_pos c15] at H
              have LMc15 := Aside0.mk c15
              clear c15
              obtain ⟨y234, hy234⟩ : ∃ y_ : List Int, y_ = (x5_4 ++ [wrap64 (x9_4 * a0)]) := ⟨_, rfl⟩
              replace H : (impl_ringPlaces.l3 k4 a0 y234 (wrap64 (x9_4 - 1))) = some r := by first | (rw [hy234]; with_reducible exact H) | (have H2_ := (Option.bind_some _ _).symm.trans H; rw [hy234]; with_reducible exact H2_) | (have H2_ := (Option.bind_some _ _).symm.trans H; with_reducible exact H2_) | with_reducible exact H | (rw [hy234]; exact H) | exact H
              have Ny234 := Aside0.mk hy234
              clear hy234
              have H' := Aside0.mk H
              clear H
              go_wp2_with (first | ((with_reducible refine gate_builtin (b := .append) (xs := #[.tmp 55, .tmp 59]) rfl ?_); at_builtin; refine Kd.R_append (Kd.int .i64) (w0 := w) w.heap.size rfl (.tmp 55) (.tmp 59) 22 3 (.int .i64 0) 8 rfl Try.underlying22 info3 rfl (by decide) (by omega) u5 x5_4 (wrap64 (x9_4 * a0)) [.int .i64 (wrap64 (x9_4 * a0))] (fun _ => True) (fun _ => False) rfl rfl ?aP (fun _ hk => hk.elim) ?aF ?aO ?aB ?aS ?aL ?_; (case aP => exact rfl); (case aB => exact bw_); (case aF => exact (fun _ _ => trivial)); (case aO => exact (by (with_reducible repeat (first | apply Kd.R_alloc | apply Kd.R_drewN | apply Kd.R_drew)); exact HO_5.out)); (case aS => exact (below_size bw_)); (case aL => have := LMc15.out; omega); intro v235 w16 ho hb hg hat; rw [← Ny234.out] at ho; have HO236 := Aside0.mk (ho); replace HB := Aside0.mk (hb); clear HO_5; clear ho hb hg hat))
              go_roundg k4
              case measure => have := HK1.out; have := HK2.out; have := HK3.out; have := HK4.out; omega
              case rel => exact ⟨(y234), (wrap64 (x9_4 - 1)), (by first | rfl | (simp; done) | (simp [*]; done)), H', ⟨by have := HK1.out; have := HK2.out; have := HK3.out; have := HK4.out; omega⟩, ⟨by (with_reducible repeat (first | apply Kd.R_alloc | apply Kd.R_drewN | apply Kd.R_drew)); exact HO236.out⟩, ⟨bw_⟩⟩
             ·rw [if_neg c15] at H
              exact absurd H (by simp)
            ·rw [if_neg c14] at H
             have c14b0 : decide (0 < x9_4) = false := decide_eq_false c14
             clear c14
             obtain rfl := Option.some.inj H
             go_wp2
             go_ret
             exact ⟨_, by first | rfl | (simp [errW_none, errW_some] <;> rfl) | (simp [*, errW_none, errW_some] <;> rfl), by (with_reducible repeat (first | apply Kd.R_alloc | apply Kd.R_drewN | apply Kd.R_drew)); exact HO_5.out, bw_⟩

/-! ### impl_Chart_withRing: function 89 -/
def impl_Chart_withRing.l0 : Nat → List Int → List Int → Int → Int → Int → Int → List Int → Option (Int × Int × List Int)
  | 0, _, _, _, _, _, _, _ => none
  | k + 1, x1, x14, x15, x16, x245000, x245001, x245002 => if x16 < x15 then (if 0 ≤ x16 then (if x16 < (x14.length : Int) then (if (x1.length : Int) = 0 then (none) else (if 0 ≤ (Int.tmod x16 (x1.length : Int)) then (if (Int.tmod x16 (x1.length : Int)) < (x1.length : Int) then (if 0 ≤ (rd x14 x16) then (if (rd x14 x16) < (x245002.length : Int) then (impl_Chart_withRing.l0 k x1 x14 x15 (wrap64 (x16 + 1)) x245000 x245001 (x245002.set ((rd x14 x16) : Int).toNat (rd x1 (Int.tmod x16 (x1.length : Int))))) else (none)) else (none)) else (none)) else (none))) else (none)) else (none)) else (some (x245000, x245001, x245002))
def impl_Chart_withRing.f (k : Nat) (a0_0 : Int) (a0_1 : Int) (l0_2 : List Int) (l1 : List Int) : Option (Int × Int × List Int) := (impl_Chart_copied.f a0_0 a0_1 l0_2).bind fun bt239 => ((impl_ringPlaces.f k a0_0 a0_1).bind fun t245 => (impl_Chart_withRing.l0 k l1 t245 (t245.length : Int) 0 bt239.1 bt239.2.1 bt239.2.2))
theorem impl_Chart_withRing.mono_l : ∀ k, (∀ y0 y1 y2 y3 y4 y5 y6, LeO (impl_Chart_withRing.l0 k y0 y1 y2 y3 y4 y5 y6) (impl_Chart_withRing.l0 (k + 1) y0 y1 y2 y3 y4 y5 y6))
  | 0 => fun _ _ _ _ _ _ _ r h => by simp [impl_Chart_withRing.l0] at h
  | k + 1 => by
    have ih0 := impl_Chart_withRing.mono_l k
    · intro y0 y1 y2 y3 y4 y5 y6
      unfold impl_Chart_withRing.l0
      repeat' first
      | (with_reducible exact ih0 _ _ _ _ _ _ _)
      | (with_reducible exact impl_ringPlaces.mono _ _ _)
      | (with_reducible exact LeO.refl _)
      | (with_reducible exact LeO.none _)
      | (with_reducible refine LeO.ite ?_ ?_)
      | (with_reducible refine LeO.bind ?_ (fun _ => ?_))
      | exact ih0 _ _ _ _ _ _ _
      | exact impl_ringPlaces.mono _ _ _
      | exact LeO.none _
      | refine LeO.ite ?_ ?_
      | refine LeO.bind ?_ (fun _ => ?_)
theorem impl_Chart_withRing.mono : ∀ a0 a1 a2 a3 k, LeO (impl_Chart_withRing.f k a0 a1 a2 a3) (impl_Chart_withRing.f (k + 1) a0 a1 a2 a3) := by
  intro a0 a1 a2 a3 k
  have ih0 := impl_Chart_withRing.mono_l k
  unfold impl_Chart_withRing.f
  repeat' first
      | (with_reducible exact ih0 _ _ _ _ _ _ _)
      | (with_reducible exact impl_ringPlaces.mono _ _ _)
      | (with_reducible exact LeO.refl _)
      | (with_reducible exact LeO.none _)
      | (with_reducible refine LeO.ite ?_ ?_)
      | (with_reducible refine LeO.bind ?_ (fun _ => ?_))
      | exact ih0 _ _ _ _ _ _ _
      | exact impl_ringPlaces.mono _ _ _
      | exact LeO.none _
      | refine LeO.ite ?_ ?_
      | refine LeO.bind ?_ (fun _ => ?_)
def impl_Chart_withRing.T5 : Bool × List (List Nat × List Nat) := (true, [([], []), ([0], [0]), ([], []), ([], []), ([], []), ([], []), ([5], [5]), ([4, 6], [4, 6]), ([3, 7], [3, 7]), ([8], [8]), ([1, 2, 0, 1, 2, 3, 4, 5, 6, 7, 8, 9], [1, 2]), ([10, 9, 0, 1, 2, 3, 4, 5, 6, 7, 8, 9], [9, 10])])
def impl_Chart_withRing.B5 : List Nat := [0, 1, 0, 0, 0, 0, 32, 112, 248, 504, 1023, 2047]
theorem impl_Chart_withRing.tab5 : rtab .any (opsOf Try.f89 5) = impl_Chart_withRing.T5 := by kernel_rfl
theorem impl_Chart_withRing.bits5 : waitsOk impl_Chart_withRing.T5.2 impl_Chart_withRing.B5 = true := by kernel_rfl
set_option maxHeartbeats 8000000 in
set_option maxRecDepth 100000 in
theorem impl_Chart_withRing.calls (k : Nat) (a0_0 : Int) (a0_1 : Int) (A0_2 : Option Addr) (c0_2 : Nat) (l0_2 : List Int) (A1 : Option Addr) (c1 : Nat) (l1 : List Int) (r1 : Int) (r2 : Int) (r3 : List Int) (w : World) (hr0_2 : Kd.C (Kd.int .i64) w A0_2 l0_2.length l0_2) (hc0_2 : l0_2.length ≤ c0_2) (hr1 : Kd.C (Kd.int .i64) w A1 l1.length l1) (hc1 : l1.length ≤ c1) (h : impl_Chart_withRing.f k a0_0 a0_1 l0_2 l1 = some (r1, r2, r3)) :
  Calls Try.prog 89 #[.agg #[.int .i64 a0_0, .int .i64 a0_1, .slice A0_2 l0_2.length c0_2], .slice A1 l1.length c1] w fun e w' => ∃ v2_ : Value, e = .returned (.agg #[.int .i64 r1, .int .i64 r2, v2_]) ∧ Kd.R (Kd.int .i64) 3 w' w.heap.size (fun _ => True) v2_ r3 ∧ Below w.heap.size w w' := by
 have hu26 := Try.underlying26
 have HR0_2 := Aside0.mk hr0_2
 have HC0_2 := Aside0.mk hc0_2
 clear hr0_2 hc0_2
 have HR1 := Aside0.mk hr1
 have HC1 := Aside0.mk hc1
 clear hr1 hc1
 have HB := Aside0.mk (Below.refl w.heap.size w)
 have H : ((impl_Chart_copied.f a0_0 a0_1 l0_2).bind fun bt239 => ((impl_ringPlaces.f k a0_0 a0_1).bind fun t245 => (impl_Chart_withRing.l0 k l1 t245 (t245.length : Int) 0 bt239.1 bt239.2.1 bt239.2.2))) = some (r1, r2, r3) := h
 clear h
 replace H := Option.bind_eq_some_iff.mp H
 obtain ⟨⟨t239, t240, t241⟩, A30, H⟩ := H
 replace H : ((impl_ringPlaces.f k a0_0 a0_1).bind fun t245 => (impl_Chart_withRing.l0 k l1 t245 (t245.length : Int) 0 t239 t240 t241)) = some (r1, r2, r3) := H
 have A3 := Aside0.mk A30
 clear A30
 replace H := Option.bind_eq_some_iff.mp H
 obtain ⟨t245, A40, H⟩ := H
 replace H : (impl_Chart_withRing.l0 k l1 t245 (t245.length : Int) 0 t239 t240 t241) = some (r1, r2, r3) := H
 have A4 := Aside0.mk A40
 clear A40
 have H' := Aside0.mk H
 clear H
 go_enter Try.func89, Try.ntmps89
 go_wp2_with (first | (refine box_ (N := 2) (cs := #[.int .i64 a0_0, .int .i64 a0_1, .slice A0_2 l0_2.length c0_2]) (t := 26) ?_; intro gb237 hg w5 hbox hb; have BK237 := Aside0.mk (hbox); have GW237 := gz_ w hg; have GE237 := gz_ w hg; replace HB := Aside0.mk (below_step bw_ hb); clear hb hbox hg) | (refine box_ (N := 4) (cs := #[.int .i64 0, .int .i64 0, .slice none 0 0]) (t := 26) ?_; intro gb238 hg w6 hbox hb; have n0_ := bb_ BK237 hb; have n1_ := Aside0.mk (below_step bw_ hb); have n2_ := Aside0.mk (hbox); have n3_ := gz_ w hg; have n4_ := gz_ w hg; have n5_ := ne_ hg BK237; have n6_ := en_ hg BK237; clear BK237; clear HB; have BK237 := n0_; have HB := n1_; have BK238 := n2_; have GW238 := n3_; have GE238 := n4_; have NB237_238 := n5_; have NB238_237 := n6_; clear n0_ n1_ n2_ n3_ n4_ n5_ n6_; clear hb hbox hg; have hnb7 := NB237_238.out; have hnc7 := NB238_237.out; obtain ⟨hcz8_0, hcz8_1, hcz8_2, hfz8_0, hfz8_1, hfz8_2⟩ := bc3_ BK237) | ((with_reducible refine gate_callee (f := 59) rfl ?_); refine goesB (some 9) Try.func59 #[.agg #[.int .i64 a0_0, .int .i64 a0_1, .slice A0_2 l0_2.length c0_2]] ?_; (with_reducible refine (impl_Chart_copied.calls a0_0 a0_1 _ _ l0_2 t239 t240 t241 _ ?side1 ?side2 A3.out).mono ?_); (case side1 => exact cb_ HR0_2 HB); (case side2 => exact HC0_2.out); rintro e w9 ⟨v242, rfl, ho0, hb⟩; refine ⟨_, rfl, ?_⟩; have HO243 := Aside0.mk (Kd.R_lower ho0 (below_size bw_)); replace BK237 := bb_ BK237 hb; replace BK238 := bb_ BK238 hb; replace HB := Aside0.mk (below_step bw_ hb); (try clear hb); (try clear hb2); (try clear hk); (try clear hi); (try clear ho0)) | (refine box_ (N := 5) (cs := #[.int .i64 0, .int .i64 0, .slice none 0 0]) (t := 26) ?_; intro gb244 hg w10 hbox hb; have n0_ := Aside0.mk (Kd.R_below (by (with_reducible repeat (first | apply Kd.R_alloc | apply Kd.R_drewN | apply Kd.R_drew)); exact HO243.out) hb); have n1_ := bb_ BK237 hb; have n2_ := bb_ BK238 hb; have n3_ := Aside0.mk (below_step bw_ hb); have n4_ := Aside0.mk (hbox); have n5_ := gz_ w hg; have n6_ := gz_ w hg; have n7_ := ne_ hg BK237; have n8_ := en_ hg BK237; have n9_ := ne_ hg BK238; have n10_ := en_ hg BK238; clear HO243; clear BK237; clear BK238; clear HB; have HO243 := n0_; have BK237 := n1_; have BK238 := n2_; have HB := n3_; have BK244 := n4_; have GW244 := n5_; have GE244 := n6_; have NB237_244 := n7_; have NB244_237 := n8_; have NB238_244 := n9_; have NB244_238 := n10_; clear n0_ n1_ n2_ n3_ n4_ n5_ n6_ n7_ n8_ n9_ n10_; clear hb hbox hg; have hnb11 := NB244_237.out; have hnc11 := NB237_244.out; have hnb12 := NB244_238.out; have hnc12 := NB238_244.out; obtain ⟨hcz13_0, hcz13_1, hcz13_2, hfz13_0, hfz13_1, hfz13_2⟩ := bc3_ BK244; obtain ⟨Ao14, co14, eo14⟩ := Kd.R_slice HO243.out; subst eo14; obtain ⟨hcz15_0, hcz15_1, hcz15_2, hfz15_0, hfz15_1, hfz15_2⟩ := bc3_ BK237) | ((with_reducible refine gate_callee (f := 123) rfl ?_); refine goesB (some 14) Try.func123 #[.int .i64 a0_0, .int .i64 a0_1] ?_; (with_reducible refine (impl_ringPlaces.calls k a0_0 a0_1 t245 _ A4.out).mono ?_); rintro e w16 ⟨v246, rfl, ho0, hb⟩; refine ⟨_, rfl, ?_⟩; have n0_ := Aside0.mk (Kd.R_elder' (by exact rf_ (Kd.R_types HO243.out BK244.out (by decide)) (fun _ h_ => h_.1)) (Kd.R_base ho0) hb); have n1_ := Aside0.mk (Kd.R_lower (Kd.R_new' ho0 (Kd.R_lt (by exact rf_ (Kd.R_types HO243.out BK244.out (by decide)) (fun _ h_ => h_.1)))) (below_size bw_)); have n2_ := bb_ BK237 hb; have n3_ := bb_ BK238 hb; have n4_ := Aside0.mk (blk_below (g := gb244) (o := .cells #[.int .i64 t239, .int .i64 t240, .slice Ao14 t241.length co14] 26 (0, 0)) (bq_ BK244) hb); have n5_ := Aside0.mk (below_step bw_ hb); clear HO243; clear BK237; clear BK238; clear BK244; clear HB; have HO243 := n0_; have HO247 := n1_; have BK237 := n2_; have BK238 := n3_; have BK244 := n4_; have HB := n5_; clear n0_ n1_ n2_ n3_ n4_ n5_; (try clear hb); (try clear hb2); (try clear hk); (try clear hi); (try clear ho0); obtain ⟨Ao17, co17, eo17⟩ := Kd.R_slice HO247.out; subst eo17))
 go_loopg [16] k (fun kq v16 w' => ∃ (x14_1 : List Int) (x16_1 : Int) (x245002_1 : List Int) (u245002 : Value), v16 = .int .i64 x16_1 ∧ Aside0 (impl_Chart_withRing.l0 kq l1 x14_1 (t245.length : Int) x16_1 t239 t240 x245002_1 = some (r1, r2, r3)) ∧ Aside0 (kq ≤ k) ∧ Aside0 (Kd.R (Kd.int .i64) 3 w' w.heap.size (fun k_ => some k_ ≠ (u245002 : Value).ownBlock) (.slice Ao17 t245.length co17) x14_1) ∧ Aside0 (Kd.R (Kd.int .i64) 3 w' w.heap.size (fun k_ => some k_ ≠ ((.slice Ao17 t245.length co17) : Value).ownBlock) u245002 x245002_1) ∧ Aside0 (w'.heap[gb237]? = some (.cells #[.int .i64 a0_0, .int .i64 a0_1, (.slice A0_2 l0_2.length c0_2)] 26 (0, 0))) ∧ Aside0 (w'.heap[gb238]? = some (.cells #[.int .i64 0, .int .i64 0, (.slice none 0 0)] 26 (0, 0))) ∧ Aside0 (w'.heap[gb244]? = some (.cells #[.int .i64 t239, .int .i64 t240, u245002] 26 (0, 0))) ∧ Aside0 (Below w.heap.size w w'))
 case atStart => exact ⟨(t245), (0), (t241), (.slice Ao14 t241.length co14), (by first | rfl | (simp; done) | (simp [*]; done)), H', ⟨Nat.le_refl _⟩, ⟨by (with_reducible repeat (first | apply Kd.R_alloc | apply Kd.R_drewN | apply Kd.R_drew)); exact Kd.R_mono HO247.out (fun _ hk => hk.2)⟩, ⟨by (with_reducible repeat (first | apply Kd.R_alloc | apply Kd.R_drewN | apply Kd.R_drew)); exact Kd.R_mono HO243.out (fun _ hk => hk.2)⟩, ⟨bk_ BK237⟩, ⟨bk_ BK238⟩, ⟨bk_ BK244⟩, ⟨bw_⟩⟩
 case round =>
  clear H'
  try clear c1
  try clear p2
  try clear c5
  try clear c7
  try clear c8
  try clear c11
  try clear c12
  try clear hcz13_0
  try clear hcz13_1
  try clear hcz13_2
  try clear hcz15_0
  try clear hcz15_1
  try clear hcz15_2
  try clear hcz8_0
  try clear hcz8_1
  try clear hcz8_2
  try clear hfz13_0
  try clear hfz13_1
  try clear hfz13_2
  try clear hfz15_0
  try clear hfz15_1
  try clear hfz15_2
  try clear hfz8_0
  try clear hfz8_1
  try clear hfz8_2
  obtain ⟨x14_1, x16_1, x245002_1, u245002, rfl, HA, HK1, HO_14, HO_245002, BK237, BK238, BK244, HB⟩ := hrel
  have hl14_1 := (Kd.R_reads' HO_14.out).1
  rw [hl14_1] at HO_14
  (try simp only [hl14_1])
  (try simp only [hl14_1] at BK237)
  (try simp only [hl14_1] at BK238)
  (try simp only [hl14_1] at BK244)
  (try simp only [hl14_1] at HO_245002)
  cases gk with
  | zero => exact absurd HA.out (by simp [impl_Chart_withRing.l0])
  | succ k1 =>
   have H := HA.out
   clear HA
   simp only [impl_Chart_withRing.l0] at H
   by_cases c18 : x16_1 < (t245.length : Int)
   ·rw [if_pos c18] at H
    have c18b0 : decide (x16_1 < (t245.length : Int)) = true := decide_eq_true c18
    (try simp only [hl14_1] at c18b0)
    clear c18
    by_cases c19 : 0 ≤ x16_1
    ·rw [if_pos c19] at H
     have c19b0 : decide (0 ≤ x16_1) = true := decide_eq_true c19
     clear c19
     by_cases c20 : x16_1 < (x14_1.length : Int)
     ·rw [if_pos c20] at H
      have c20b0 : decide (x16_1 < (x14_1.length : Int)) = true := decide_eq_true c20
      (try simp only [hl14_1] at c20b0)
      clear c20
      by_cases c21 : (l1.length : Int) = 0
      ·rw [if_pos c21] at H
       exact absurd H (by simp)
      ·rw [if_neg c21] at H
       have c21b0 : ((l1.length : Int) == 0) = false := beq_eq_false_iff_ne.mpr c21
       have c21b1 : ((l1.length : Int) != 0) = true := bne_iff_ne.mpr c21
       have c21b2 : ¬ (l1 = []) := fun h_ => c21 (by rw [h_]; rfl)
       (try simp only [hl14_1] at c21b0)
       (try simp only [hl14_1] at c21b1)
       (try simp only [hl14_1] at c21b2)
       obtain ⟨ji22, hji22⟩ : ∃ j_ : Int, (Int.tmod x16_1 (l1.length : Int)) = j_ := ⟨_, rfl⟩
       replace H : (if 0 ≤ (ji22) then (if (ji22) < (l1.length : Int) then (if 0 ≤ (rd x14_1 x16_1) then (if (rd x14_1 x16_1) < (x245002_1.length : Int) then (impl_Chart_withRing.l0 k1 l1 x14_1 (t245.length : Int) (wrap64 (x16_1 + 1)) t239 t240 (x245002_1.set ((rd x14_1 x16_1) : Int).toNat (rd l1 (ji22)))) else (none)) else (none)) else (none)) else (none)) = some (r1, r2, r3) := by first | (rw [hji22] at H; exact H) | (simp only [hji22] at H ⊢; exact H)
       by_cases c23 : 0 ≤ (ji22)
       ·rw [if_pos c23] at H
        have c23b0 : decide (0 ≤ (ji22)) = true := decide_eq_true c23
        clear c23
        by_cases c24 : (ji22) < (l1.length : Int)
        ·rw [if_pos c24] at H
         have c24b0 : decide ((ji22) < (l1.length : Int)) = true := decide_eq_true c24
         (try simp only [hl14_1] at c24b0)
         clear c24
         by_cases c25 : 0 ≤ (rd x14_1 x16_1)
         ·rw [if_pos c25] at H
          have c25b0 : decide (0 ≤ (rd x14_1 x16_1)) = true := decide_eq_true c25
          clear c25
          by_cases c26 : (rd x14_1 x16_1) < (x245002_1.length : Int)
          ·rw [if_pos c26] at H
           have c26b0 : decide ((rd x14_1 x16_1) < (x245002_1.length : Int)) = true := decide_eq_true c26
           (try simp only [hl14_1] at c26b0)
           clear c26
           obtain ⟨y250, hy250⟩ : ∃ y_ : List Int, y_ = (x245002_1.set ((rd x14_1 x16_1) : Int).toNat (rd l1 (ji22))) := ⟨_, rfl⟩
           replace H : (impl_Chart_withRing.l0 k1 l1 x14_1 (t245.length : Int) (wrap64 (x16_1 + 1)) t239 t240 y250) = some (r1, r2, r3) := by first | (rw [hy250]; with_reducible exact H) | (have H2_ := (Option.bind_some _ _).symm.trans H; rw [hy250]; with_reducible exact H2_) | (have H2_ := (Option.bind_some _ _).symm.trans H; with_reducible exact H2_) | with_reducible exact H | (rw [hy250]; exact H) | exact H
           have Ny250 := Aside0.mk hy250
           clear hy250
           have H' := Aside0.mk H
           clear H
           have p248 : 0 ≤ (x16_1 : Int) := of_decide_eq_true (by first | (with_reducible assumption) | assumption)
           have q248 : x16_1 < (x14_1.length : Int) := of_decide_eq_true (by first | (with_reducible assumption) | assumption)
           obtain ⟨ad248, e248, hx248_0⟩ := Kd.at_int (Kd.R_reads' HO_14.out).2.2 x16_1 p248 q248
           cases e248
           replace p248 := eq_true p248
           replace q248 := eq_true q248
           try go_wp2
           replace HO_14 := Aside0.mk (Kd.R_drew HO_14.out)
           replace HO_245002 := Aside0.mk (Kd.R_drew HO_245002.out)
           replace BK237 := Aside0.mk (blk_drew BK237.out)
           replace BK238 := Aside0.mk (blk_drew BK238.out)
           replace BK244 := Aside0.mk (blk_drew BK244.out)
           replace HB := Aside0.mk (below_drew1 HB.out)
           have p249 : 0 ≤ ((ji22) : Int) := of_decide_eq_true (by first | (with_reducible assumption) | assumption)
           have q249 : (ji22) < (l1.length : Int) := of_decide_eq_true (by first | (with_reducible assumption) | assumption)
           obtain ⟨ad249, e249, hx249_0⟩ := Kd.at_int HR1.out (ji22) p249 q249
           have hw249_0 := hx249_0
           cases e249
           replace hx249_0 := (HB.out.cell (World.block_lt_of_cell? w _ hx249_0)).trans hx249_0
           replace p249 := eq_true p249
           replace q249 := eq_true q249
           have p27 : 0 ≤ ((rd x14_1 x16_1) : Int) := of_decide_eq_true (by first | (with_reducible assumption) | assumption)
           have q27 : ((rd x14_1 x16_1) : Int) < ((x245002_1.length : Int) : Int) := of_decide_eq_true (by first | (with_reducible assumption) | assumption)
           obtain ⟨go27, co27, eo27, gb27, gl27, cl27, HG27⟩ := Kd.R_form HO_245002.out (by omega)
           (first | cases eo27 | (injection eo27 with ea_ en_ ec_; (first | subst ea_ | (injection ea_ with ea_; subst ea_)); subst ec_; clear en_))
           have GB27 := Aside0.mk gb27
           have GG27 := Aside0.mk HG27
           clear gb27 gl27 HG27
           obtain ⟨hx27_0, hf27_0⟩ := Kd.R_celln 0 HO_245002.out ((rd x14_1 x16_1) : Int) p27 q27
           replace p27 := eq_true p27
           replace q27 := eq_true q27
           have HP29 := Kd.R_putn HO_245002.out ((rd x14_1 x16_1) : Int) (rd l1 (ji22))
           rw [← Ny250.out] at HP29
           have HQ29 := Aside0.mk HP29
           clear HP29
           refine start_ (n := 12) (S := fun w' => w'.cell? ⟨gb244, 0, none⟩ = some (.int .i64 t239) ∧ w'.cell? ⟨gb244, 1, none⟩ = some (.int .i64 t240) ∧ w'.cell? ⟨gb244, 2, none⟩ = some (.slice (some ⟨go27, 0, none⟩) x245002_1.length co27) ∧ w'.cell? (ad249.add ((ji22)).toNat) = some (.int .i64 (rd l1 (ji22)))) (ds := [11]) #[false, false, false, false, false, false, false, false, false, false, false, false] (by kernel_rfl) rfl rfl ⟨bc_ BK244 0, bc_ BK244 1, bc_ BK244 2, bh_ HB hw249_0⟩ (fun hHeld => ?_); refine with_tabW impl_Chart_withRing.tab5 impl_Chart_withRing.bits5 (fun HT_ HW_ => ?_)
           generalize wr.drew = w28 at HO_14 HO_245002 BK237 BK238 BK244 HB GG27 HQ29 hf27_0 hx249_0 hx27_0 hHeld ⊢
           refine pureA (N := some 21) 0 HT_ ?_
           refine pureA (N := some 23) 2 HT_ ?_
           refine pureA (N := some 24) 3 HT_ ?_
           refine pureA (N := some 25) 4 HT_ ?_
           refine pureA (N := some 26) 5 HT_ ?_
           refine pureA (N := some 27) 6 HT_ ?_
           refine pureA (N := some 28) 7 HT_ ?_
           refine pureA (N := some 29) 8 HT_ ?_
           refine takeA (N := some 22) 1 HT_ HW_ hHeld ?_
           refine takeA (N := some 30) 9 HT_ HW_ hHeld ?_
           refine pureA (N := some 31) 10 HT_ ?_
           refine lastA (N := none) 11 HT_ (fun K hK => ?_)
           refine skip_ (w1 := ?_) (by rfl) rfl ?_ ?_
           rotate_left
           ·go_simp
            rfl
           refine hK.out _ _ ?_
           clear hK K
           refine done_ (done_of HT_.out (by kernel_rfl)) ?_
           try go_wp2
           (try simp only [← hl14_1])
           go_roundg k1
           case measure => have := HK1.out; omega
           case rel => exact ⟨(x14_1), (wrap64 (x16_1 + 1)), (y250), (.slice (some ⟨go27, 0, none⟩) x245002_1.length co27), (by first | rfl | (simp; done) | (simp [*]; done)), H', ⟨by have := HK1.out; omega⟩, ⟨by (try simp only [hl14_1]); (with_reducible repeat (first | apply Kd.R_alloc | apply Kd.R_drewN | apply Kd.R_drew)); exact Kd.R_mono (Kd.R_far (p := ⟨go27, ((rd x14_1 x16_1) : Int).toNat, none⟩) (Kd.R_mono HO_14.out (fun k_ hk => (⟨hk, fun e_ => hk (by rw [e_]; rfl)⟩ : _ ∧ k_ ≠ go27))) (fun _ hk => hk.2) (.int .i64 (rd l1 (ji22)))) (fun _ hk => hk.1)⟩, ⟨by (try simp only [hl14_1]); (with_reducible repeat (first | apply Kd.R_alloc | apply Kd.R_drewN | apply Kd.R_drew)); exact HQ29.out⟩, ⟨by (try simp only [hl14_1]); (with_reducible repeat (first | refine blk_drewN ?_ _ | refine blk_drew ?_ | refine blk_alloc ?_ _)); refine blk_far ?_ (by have h_ := Kd.R_ne HO_245002.out BK237.out (by decide); intro e_; exact h_ (by rw [e_]; rfl)) _; (with_reducible repeat (first | refine blk_drewN ?_ _ | refine blk_drew ?_ | refine blk_alloc ?_ _)); exact BK237.out⟩, ⟨by (try simp only [hl14_1]); (with_reducible repeat (first | refine blk_drewN ?_ _ | refine blk_drew ?_ | refine blk_alloc ?_ _)); refine blk_far ?_ (by have h_ := Kd.R_ne HO_245002.out BK238.out (by decide); intro e_; exact h_ (by rw [e_]; rfl)) _; (with_reducible repeat (first | refine blk_drewN ?_ _ | refine blk_drew ?_ | refine blk_alloc ?_ _)); exact BK238.out⟩, ⟨by (try simp only [hl14_1]); (with_reducible repeat (first | refine blk_drewN ?_ _ | refine blk_drew ?_ | refine blk_alloc ?_ _)); refine blk_far ?_ (by have h_ := Kd.R_ne HO_245002.out BK244.out (by decide); intro e_; exact h_ (by rw [e_]; rfl)) _; (with_reducible repeat (first | refine blk_drewN ?_ _ | refine blk_drew ?_ | refine blk_alloc ?_ _)); exact BK244.out⟩, ⟨by repeat (first | (with_reducible first | exact HB.out | apply below_alloc | apply pw_below_drewN | apply below_drew1 | refine below_set ?_ GB27.out | refine below_set ?_ GE237.out | refine below_set ?_ GE238.out | refine below_set ?_ GE244.out) | exact HB.out)⟩⟩
          ·rw [if_neg c26] at H
           exact absurd H (by simp)
         ·rw [if_neg c25] at H
          exact absurd H (by simp)
        ·rw [if_neg c24] at H
         exact absurd H (by simp)
       ·rw [if_neg c23] at H
        exact absurd H (by simp)
     ·rw [if_neg c20] at H
      exact absurd H (by simp)
    ·rw [if_neg c19] at H
     exact absurd H (by simp)
   ·rw [if_neg c18] at H
    have c18b0 : decide (x16_1 < (t245.length : Int)) = false := decide_eq_false c18
    (try simp only [hl14_1] at c18b0)
    clear c18
    simp only [Option.some.injEq, Prod.mk.injEq] at H
    obtain ⟨rfl, rfl, rfl⟩ := H
    have hnb30 := NB244_237.out
    have hnc30 := NB237_244.out
    have hnb31 := NB244_238.out
    have hnc31 := NB238_244.out
    obtain ⟨hcz32_0, hcz32_1, hcz32_2, hfz32_0, hfz32_1, hfz32_2⟩ := bc3_ BK244
    have hnb33 := NB238_237.out
    have hnc33 := NB237_238.out
    obtain ⟨hcz34_0, hcz34_1, hcz34_2, hfz34_0, hfz34_1, hfz34_2⟩ := bc3_ BK238
    obtain ⟨Ao35, co35, eo35⟩ := Kd.R_slice HO_245002.out
    subst eo35
    go_wp2
    refine bodyPost_ret (results_cell_row rfl _ _ gb238 26 #[.int .i64 t239, .int .i64 t240, .slice Ao35 x245002_1.length co35] (0, 0) _ rfl (bq_ BK238) Try.underlying26 rfl (by kernel_rfl)) rfl ?_
    exact ⟨_, by first | rfl | (simp [errW_none, errW_some] <;> rfl) | (simp [*, errW_none, errW_some] <;> rfl), by exact rf_ (Kd.R_types HO_245002.out BK238.out (by decide)) (fun _ hk => trivial), bw_⟩

end Go.Proofs.Yteiaakppjcpgcaa.PFnExactPutRing
