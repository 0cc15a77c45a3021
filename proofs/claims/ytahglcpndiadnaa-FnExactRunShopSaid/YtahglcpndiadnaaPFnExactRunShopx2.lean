-- Printed by this session's own program (wip/tool/myprint.py, over the kit's print); Lean checks it.
import Derived.Test.YtahglcpndiadnaaPFnExactRunShopx0
import Derived.Test.YtahglcpndiadnaaPFnExactRunShopx1
namespace Go.Proofs.Ytahglcpndiadnaa.PFnExactRunShop
open Go.RowKit Go.Proofs.YtahglcpndiadnaaW.PrintWords Go.Proofs.YtahglcpndiadnaaW.PrintLast Go.Proofs.YtahglcpndiadnaaW.PrintMore
attribute [local go_sem] max2_int min2_int max_two min_two max_three min_three max_four min_four   -- for this text's walks alone
set_option linter.unusedVariables false
set_option linter.unusedSimpArgs false

/-! ### impl_ShopStep_isValid: function 110 -/
mutual
def impl_ShopStep_isValid.j0 : Nat → Int → Bool → Int → Int → Int → Option (Bool)
  | 0, _, _, _, _, _ => none
  | k + 1, x4, x5, x135000, x135001, x135002 => if x5 = true then (if x135001 = 0 then (some (decide (x135002 ≥ 1))) else (some false)) else (if x4 = 3 then (impl_ShopStep_isValid.j1 k x4 (x4 == 3) x135000 x135001 x135002) else (impl_ShopStep_isValid.j1 k x4 (x4 == 7) x135000 x135001 x135002))
def impl_ShopStep_isValid.j1 : Nat → Int → Bool → Int → Int → Int → Option (Bool)
  | 0, _, _, _, _, _ => none
  | k + 1, x4, x16, x135000, x135001, x135002 => if x16 = true then (some (decide (x135002 ≥ 1))) else (if x4 = 4 then ((impl_in.f x135002 1 20).bind fun t135 => (some t135)) else (if x135000 = 5 then (some (x135002 == 0)) else (if x135000 = 6 then (some (x135002 == 0)) else (some false))))
end
def impl_ShopStep_isValid.f (k : Nat) (a0_0 : Int) (a0_1 : Int) (a0_2 : Int) : Option (Bool) := if a0_0 = 1 then (impl_ShopStep_isValid.j0 k a0_0 (a0_0 == 1) a0_0 a0_1 a0_2) else (impl_ShopStep_isValid.j0 k a0_0 (a0_0 == 2) a0_0 a0_1 a0_2)
theorem impl_ShopStep_isValid.mono_l : ∀ k, (∀ y0 y1 y2 y3 y4, LeO (impl_ShopStep_isValid.j0 k y0 y1 y2 y3 y4) (impl_ShopStep_isValid.j0 (k + 1) y0 y1 y2 y3 y4)) ∧ (∀ y0 y1 y2 y3 y4, LeO (impl_ShopStep_isValid.j1 k y0 y1 y2 y3 y4) (impl_ShopStep_isValid.j1 (k + 1) y0 y1 y2 y3 y4))
  | 0 => ⟨fun _ _ _ _ _ r h => by simp [impl_ShopStep_isValid.j0] at h, fun _ _ _ _ _ r h => by simp [impl_ShopStep_isValid.j1] at h⟩
  | k + 1 => by
    obtain ⟨ih0, ih1⟩ := impl_ShopStep_isValid.mono_l k
    refine ⟨?_, ?_⟩
    · intro y0 y1 y2 y3 y4
      unfold impl_ShopStep_isValid.j0
      repeat' first
      | (with_reducible exact ih0 _ _ _ _ _)
      | (with_reducible exact ih1 _ _ _ _ _)
      | (with_reducible exact LeO.refl _)
      | (with_reducible exact LeO.none _)
      | (with_reducible refine LeO.ite ?_ ?_)
      | (with_reducible refine LeO.bind ?_ (fun _ => ?_))
      | exact ih0 _ _ _ _ _
      | exact ih1 _ _ _ _ _
      | exact LeO.none _
      | refine LeO.ite ?_ ?_
      | refine LeO.bind ?_ (fun _ => ?_)
    · intro y0 y1 y2 y3 y4
      unfold impl_ShopStep_isValid.j1
      repeat' first
      | (with_reducible exact ih0 _ _ _ _ _)
      | (with_reducible exact ih1 _ _ _ _ _)
      | (with_reducible exact LeO.refl _)
      | (with_reducible exact LeO.none _)
      | (with_reducible refine LeO.ite ?_ ?_)
      | (with_reducible refine LeO.bind ?_ (fun _ => ?_))
      | exact ih0 _ _ _ _ _
      | exact ih1 _ _ _ _ _
      | exact LeO.none _
      | refine LeO.ite ?_ ?_
      | refine LeO.bind ?_ (fun _ => ?_)
theorem impl_ShopStep_isValid.mono : ∀ a0 a1 a2 k, LeO (impl_ShopStep_isValid.f k a0 a1 a2) (impl_ShopStep_isValid.f (k + 1) a0 a1 a2) := by
  intro a0 a1 a2 k
  obtain ⟨ih0, ih1⟩ := impl_ShopStep_isValid.mono_l k
  unfold impl_ShopStep_isValid.f
  repeat' first
      | (with_reducible exact ih0 _ _ _ _ _)
      | (with_reducible exact ih1 _ _ _ _ _)
      | (with_reducible exact LeO.refl _)
      | (with_reducible exact LeO.none _)
      | (with_reducible refine LeO.ite ?_ ?_)
      | (with_reducible refine LeO.bind ?_ (fun _ => ?_))
      | exact ih0 _ _ _ _ _
      | exact ih1 _ _ _ _ _
      | exact LeO.none _
      | refine LeO.ite ?_ ?_
      | refine LeO.bind ?_ (fun _ => ?_)
set_option maxHeartbeats 8000000 in
set_option maxRecDepth 100000 in
theorem impl_ShopStep_isValid.calls (k : Nat) (a0_0 : Int) (a0_1 : Int) (a0_2 : Int) (r : Bool) (w : World) (h : impl_ShopStep_isValid.f k a0_0 a0_1 a0_2 = some r) :
  Calls Try.prog 110 #[.agg #[.int .i64 a0_0, .int .i64 a0_1, .int .i64 a0_2]] w fun e w' => e = .returned (.bool r) ∧ Below w.heap.size w w' := by
 have hu30 := Try.underlying30
 have HB := Aside0.mk (Below.refl w.heap.size w)
 have H : (if a0_0 = 1 then (impl_ShopStep_isValid.j0 k a0_0 (a0_0 == 1) a0_0 a0_1 a0_2) else (impl_ShopStep_isValid.j0 k a0_0 (a0_0 == 2) a0_0 a0_1 a0_2)) = some r := h
 clear h
 have HC2 := Aside0.mk H
 clear H
 go_enter Try.func110, Try.ntmps110
 go_upto_if 5 with (first | ((with_reducible refine gate_dst (N := 1) rfl ?_); refine box_ (N := 1) (cs := #[.int .i64 a0_0, .int .i64 a0_1, .int .i64 a0_2]) (t := 30) ?_; intro gb134 hg w3 hbox hb; have BK134 := Aside0.mk (hbox); have GW134 := gz_ w hg; have GE134 := gz_ w hg; replace HB := hb_ w hb; clear hb hbox hg; obtain ⟨hcz4_0, hcz4_1, hcz4_2, hfz4_0, hfz4_1, hfz4_2⟩ := bc3_ (w := w3) BK134))
 (try simp only [Act.put, List.setIfInBounds_toArray, List.set_cons_zero, List.set_cons_succ])
 go_cut [5] (fun v5 wc => ∃ (kq : Nat) (x5_1 : Bool), v5 = .bool x5_1 ∧ Aside0 (impl_ShopStep_isValid.j0 kq a0_0 x5_1 a0_0 a0_1 a0_2 = some r) ∧ Aside0 (kq ≤ k) ∧ Aside0 (wc.heap[gb134]? = some (.cells #[.int .i64 a0_0, .int .i64 a0_1, .int .i64 a0_2] 30 (0, 0))) ∧ Aside0 (Below w.heap.size w wc))
 case first =>
  have H := HC2.out
  clear HC2
  by_cases c5 : a0_0 = 1
  ·rw [if_pos c5] at H
   have c5b0 := beq_iff_eq.mpr c5
   have c5b1 := bne_eq_false_iff_eq.mpr c5
   clear c5
   (first | rw [c5b0] | (simp only [i64_w, i32_w]; rw [c5b0]) | skip)
   have H' := Aside0.mk H
   clear H
   go_wp2
   go_meet
   case rel => exact ⟨_, ((a0_0 == 1)), (by first | rfl | (simp; done) | (simp [*]; done)), H', ⟨by first | omega | exact Nat.le_refl _⟩, ⟨bk_ BK134⟩, ⟨(bw_ w)⟩⟩
  ·rw [if_neg c5] at H
   have c5b0 := beq_eq_false_iff_ne.mpr c5
   have c5b1 := bne_iff_ne.mpr c5
   (first | rw [c5b0] | (simp only [i64_w, i32_w]; rw [c5b0]) | skip)
   have H' := Aside0.mk H
   clear H
   go_wp2
   go_meet
   case rel => exact ⟨_, ((a0_0 == 2)), (by first | rfl | (simp; done) | (simp [*]; done)), H', ⟨by first | omega | exact Nat.le_refl _⟩, ⟨bk_ BK134⟩, ⟨(bw_ w)⟩⟩
 case rest =>
  clear HC2
  try clear c1
  try clear p2
  try clear c5
  try clear c5b0
  try clear c5b1
  try clear hcz4_0 hcz4_1 hcz4_2 hfz4_0 hfz4_1 hfz4_2
  obtain ⟨kq, x5_1, rfl, HA, HJ1, BK134, HB⟩ := hcut
  cases kq with
  | zero => exact absurd HA.out (by simp [impl_ShopStep_isValid.j0])
  | succ kj1 =>
   have H := HA.out
   clear HA
   simp only [impl_ShopStep_isValid.j0] at H
   by_cases c6 : x5_1 = true
   ·subst c6
    rw [if_pos rfl] at H
    by_cases c7 : a0_1 = 0
    ·rw [if_pos c7] at H
     have c7b0 := beq_iff_eq.mpr c7
     have c7b1 := bne_eq_false_iff_eq.mpr c7
     clear c7
     obtain rfl := Option.some.inj H
     obtain ⟨hcz8_0, hcz8_1, hcz8_2, hfz8_0, hfz8_1, hfz8_2⟩ := bc3_ (w := wc) BK134
     go_wp2
     go_ret
     exact ⟨by first | rfl | (simp [errW_none, errW_some] <;> rfl) | (simp [*, errW_none, errW_some] <;> rfl), (bw_ w)⟩
    ·rw [if_neg c7] at H
     have c7b0 := beq_eq_false_iff_ne.mpr c7
     have c7b1 := bne_iff_ne.mpr c7
     obtain rfl := Option.some.inj H
     obtain ⟨hcz9_0, hcz9_1, hcz9_2, hfz9_0, hfz9_1, hfz9_2⟩ := bc3_ (w := wc) BK134
     go_wp2
     go_ret
     exact ⟨by first | rfl | (simp [errW_none, errW_some] <;> rfl) | (simp [*, errW_none, errW_some] <;> rfl), (bw_ w)⟩
   ·replace c6 := Bool.eq_false_iff.mpr c6
    subst c6
    rw [if_neg (show ¬ (false = true) by decide)] at H
    have HC10 := Aside0.mk H
    clear H
    go_upto_if 16 with (fail)
    go_cut [16] (fun v16 wc => ∃ (kq : Nat) (x16_9 : Bool), v16 = .bool x16_9 ∧ Aside0 (impl_ShopStep_isValid.j1 kq a0_0 x16_9 a0_0 a0_1 a0_2 = some r) ∧ Aside0 (kq ≤ kj1) ∧ Aside0 (wc.heap[gb134]? = some (.cells #[.int .i64 a0_0, .int .i64 a0_1, .int .i64 a0_2] 30 (0, 0))) ∧ Aside0 (Below w.heap.size w wc))
    case first =>
     have H := HC10.out
     clear HC10
     by_cases c11 : a0_0 = 3
     ·rw [if_pos c11] at H
      have c11b0 := beq_iff_eq.mpr c11
      have c11b1 := bne_eq_false_iff_eq.mpr c11
      clear c11
      (first | rw [c11b0] | (simp only [i64_w, i32_w]; rw [c11b0]) | skip)
      have H' := Aside0.mk H
      clear H
      go_wp2
      go_meet
      case rel => exact ⟨_, ((a0_0 == 3)), (by first | rfl | (simp; done) | (simp [*]; done)), H', ⟨by have := HJ1.out; first | omega | exact Nat.le_refl _⟩, ⟨bk_ BK134⟩, ⟨(bw_ w)⟩⟩
     ·rw [if_neg c11] at H
      have c11b0 := beq_eq_false_iff_ne.mpr c11
      have c11b1 := bne_iff_ne.mpr c11
      (first | rw [c11b0] | (simp only [i64_w, i32_w]; rw [c11b0]) | skip)
      have H' := Aside0.mk H
      clear H
      go_wp2
      go_meet
      case rel => exact ⟨_, ((a0_0 == 7)), (by first | rfl | (simp; done) | (simp [*]; done)), H', ⟨by have := HJ1.out; first | omega | exact Nat.le_refl _⟩, ⟨bk_ BK134⟩, ⟨(bw_ w)⟩⟩
    case rest =>
     clear HC10
     try clear c1
     try clear p2
     try clear c5
     try clear c5b0
     try clear c5b1
     try clear c6
     try clear c7
     try clear c7b0
     try clear c7b1
     try clear c11
     try clear c11b0
     try clear c11b1
     try clear hcz4_0 hcz4_1 hcz4_2
     try clear hcz8_0 hcz8_1 hcz8_2
     try clear hcz9_0 hcz9_1 hcz9_2
     try clear hfz4_0 hfz4_1 hfz4_2
     try clear hfz8_0 hfz8_1 hfz8_2
     try clear hfz9_0 hfz9_1 hfz9_2
     try clear p2
     obtain ⟨kq, x16_9, rfl, HA, HJ9, BK134, HB⟩ := hcut
     cases kq with
     | zero => exact absurd HA.out (by simp [impl_ShopStep_isValid.j1])
     | succ kj9 =>
      have H := HA.out
      clear HA
      simp only [impl_ShopStep_isValid.j1] at H
      by_cases c12 : x16_9 = true
      ·subst c12
       rw [if_pos rfl] at H
       obtain rfl := Option.some.inj H
       obtain ⟨hcz13_0, hcz13_1, hcz13_2, hfz13_0, hfz13_1, hfz13_2⟩ := bc3_ (w := wc) BK134
       go_wp2
       go_ret
       exact ⟨by first | rfl | (simp [errW_none, errW_some] <;> rfl) | (simp [*, errW_none, errW_some] <;> rfl), (bw_ w)⟩
      ·replace c12 := Bool.eq_false_iff.mpr c12
       subst c12
       rw [if_neg (show ¬ (false = true) by decide)] at H
       by_cases c14 : a0_0 = 4
       ·rw [if_pos c14] at H
        have c14b0 := beq_iff_eq.mpr c14
        have c14b1 := bne_eq_false_iff_eq.mpr c14
        clear c14
        replace H := Option.bind_eq_some_iff.mp H
        obtain ⟨t135, A150, H⟩ := H
        (try dsimp only at H)
        have A15 := Aside0.mk A150
        clear A150
        obtain rfl := Option.some.inj H
        obtain ⟨hcz16_0, hcz16_1, hcz16_2, hfz16_0, hfz16_1, hfz16_2⟩ := bc3_ (w := wc) BK134
        go_wp2_with (first | ((with_reducible refine gate_callee (f := 76) rfl ?_); refine goesB (some 26) Try.func76 #[.int .i64 a0_2, .int .i64 1, .int .i64 20] ?_; (with_reducible refine (impl_in.calls a0_2 1 20 t135 _ A15.out).mono ?_); rintro e w' ⟨rfl, ⟨nd, rfl⟩⟩; refine ⟨_, rfl, ?_⟩))
        go_ret
        exact ⟨by first | rfl | (simp [errW_none, errW_some] <;> rfl) | (simp [*, errW_none, errW_some] <;> rfl), (bw_ w)⟩
       ·rw [if_neg c14] at H
        have c14b0 := beq_eq_false_iff_ne.mpr c14
        have c14b1 := bne_iff_ne.mpr c14
        by_cases c17 : a0_0 = 5
        ·rw [if_pos c17] at H
         have c17b0 := beq_iff_eq.mpr c17
         have c17b1 := bne_eq_false_iff_eq.mpr c17
         clear c17
         obtain rfl := Option.some.inj H
         obtain ⟨hcz18_0, hcz18_1, hcz18_2, hfz18_0, hfz18_1, hfz18_2⟩ := bc3_ (w := wc) BK134
         go_wp2
         go_ret
         exact ⟨by first | rfl | (simp [errW_none, errW_some] <;> rfl) | (simp [*, errW_none, errW_some] <;> rfl), (bw_ w)⟩
        ·rw [if_neg c17] at H
         have c17b0 := beq_eq_false_iff_ne.mpr c17
         have c17b1 := bne_iff_ne.mpr c17
         by_cases c19 : a0_0 = 6
         ·rw [if_pos c19] at H
          have c19b0 := beq_iff_eq.mpr c19
          have c19b1 := bne_eq_false_iff_eq.mpr c19
          clear c19
          obtain rfl := Option.some.inj H
          obtain ⟨hcz20_0, hcz20_1, hcz20_2, hfz20_0, hfz20_1, hfz20_2⟩ := bc3_ (w := wc) BK134
          go_wp2
          go_ret
          exact ⟨by first | rfl | (simp [errW_none, errW_some] <;> rfl) | (simp [*, errW_none, errW_some] <;> rfl), (bw_ w)⟩
         ·rw [if_neg c19] at H
          have c19b0 := beq_eq_false_iff_ne.mpr c19
          have c19b1 := bne_iff_ne.mpr c19
          obtain rfl := Option.some.inj H
          obtain ⟨hcz21_0, hcz21_1, hcz21_2, hfz21_0, hfz21_1, hfz21_2⟩ := bc3_ (w := wc) BK134
          go_wp2
          go_ret
          exact ⟨by first | rfl | (simp [errW_none, errW_some] <;> rfl) | (simp [*, errW_none, errW_some] <;> rfl), (bw_ w)⟩

/-! ### impl_Shop_canChange: function 111 -/
def impl_Shop_canChange.f (k : Nat) (a0_0 : Int) (a0_1 : Int) (l0_2 : List (S34)) (a0_3 : Int) (a1_0 : Int) (a1_1 : Int) (a1_2 : Int) (a2_0 : Int) (a2_1 : Int) (a2_2 : Int) (a2_3 : Int) (a2_4 : Int) : Option (Bool) := if a1_0 = 3 then (if a2_2 = 0 then ((impl_Shop_onLoom.f k a0_0 a0_1 l0_2 a0_3 a1_2).bind fun t139 => (some (decide (t139 < 0)))) else (some false)) else (if a1_0 = 4 then (if a2_2 = 1 then (if (wrap64 (a0_0 - a2_4)) ≥ 1 then (some (decide (a1_2 ≤ (wrap64 (a2_0 - a2_1))))) else (some false)) else (some false)) else (if a1_0 = 5 then (if a2_2 = 1 then (some (a2_1 == a2_0)) else (some false)) else (if a1_0 = 6 then (some (a2_2 == 2)) else (if a2_2 = 3 then (some (decide ((wrap64 (a0_0 - a2_4)) ≥ 3))) else (some false)))))
theorem impl_Shop_canChange.mono : ∀ a0 a1 a2 a3 a4 a5 a6 a7 a8 a9 a10 a11 k, LeO (impl_Shop_canChange.f k a0 a1 a2 a3 a4 a5 a6 a7 a8 a9 a10 a11) (impl_Shop_canChange.f (k + 1) a0 a1 a2 a3 a4 a5 a6 a7 a8 a9 a10 a11) := by
  intro a0 a1 a2 a3 a4 a5 a6 a7 a8 a9 a10 a11 k
  unfold impl_Shop_canChange.f
  repeat' first
      | (with_reducible exact impl_Shop_onLoom.mono _ _ _ _ _ _)
      | (with_reducible exact LeO.refl _)
      | (with_reducible exact LeO.none _)
      | (with_reducible refine LeO.ite ?_ ?_)
      | (with_reducible refine LeO.bind ?_ (fun _ => ?_))
      | exact impl_Shop_onLoom.mono _ _ _ _ _ _
      | exact LeO.none _
      | refine LeO.ite ?_ ?_
      | refine LeO.bind ?_ (fun _ => ?_)
set_option maxHeartbeats 8000000 in
set_option maxRecDepth 100000 in
theorem impl_Shop_canChange.calls (k : Nat) (a0_0 : Int) (a0_1 : Int) (A0_2 : Option Addr) (c0_2 : Nat) (l0_2 : List (S34)) (a0_3 : Int) (a1_0 : Int) (a1_1 : Int) (a1_2 : Int) (a2_0 : Int) (a2_1 : Int) (a2_2 : Int) (a2_3 : Int) (a2_4 : Int) (r : Bool) (w : World) (hr0_2 : Kd.C k34 w A0_2 l0_2.length l0_2) (hc0_2 : l0_2.length ≤ c0_2) (h : impl_Shop_canChange.f k a0_0 a0_1 l0_2 a0_3 a1_0 a1_1 a1_2 a2_0 a2_1 a2_2 a2_3 a2_4 = some r) :
  Calls Try.prog 111 #[.agg #[.int .i64 a0_0, .int .i64 a0_1, .slice A0_2 l0_2.length c0_2, .int .i64 a0_3], .agg #[.int .i64 a1_0, .int .i64 a1_1, .int .i64 a1_2], .agg #[.int .i64 a2_0, .int .i64 a2_1, .int .i64 a2_2, .int .i64 a2_3, .int .i64 a2_4]] w fun e w' => e = .returned (.bool r) ∧ Below w.heap.size w w' := by
 have hu24 := Try.underlying24
 have hu30 := Try.underlying30
 have hu34 := Try.underlying34
 have HR0_2 := Aside0.mk hr0_2
 have HC0_2 := Aside0.mk hc0_2
 clear hr0_2 hc0_2
 have HB := Aside0.mk (Below.refl w.heap.size w)
 have H : (if a1_0 = 3 then (if a2_2 = 0 then ((impl_Shop_onLoom.f k a0_0 a0_1 l0_2 a0_3 a1_2).bind fun t139 => (some (decide (t139 < 0)))) else (some false)) else (if a1_0 = 4 then (if a2_2 = 1 then (if (wrap64 (a0_0 - a2_4)) ≥ 1 then (some (decide (a1_2 ≤ (wrap64 (a2_0 - a2_1))))) else (some false)) else (some false)) else (if a1_0 = 5 then (if a2_2 = 1 then (some (a2_1 == a2_0)) else (some false)) else (if a1_0 = 6 then (some (a2_2 == 2)) else (if a2_2 = 3 then (some (decide ((wrap64 (a0_0 - a2_4)) ≥ 3))) else (some false)))))) = some r := h
 clear h
 by_cases c4 : a1_0 = 3
 ·rw [if_pos c4] at H
  have c4b0 := beq_iff_eq.mpr c4
  have c4b1 := bne_eq_false_iff_eq.mpr c4
  clear c4
  by_cases c5 : a2_2 = 0
  ·rw [if_pos c5] at H
   have c5b0 := beq_iff_eq.mpr c5
   have c5b1 := bne_eq_false_iff_eq.mpr c5
   clear c5
   replace H := Option.bind_eq_some_iff.mp H
   obtain ⟨t139, A60, H⟩ := H
   (try dsimp only at H)
   have A6 := Aside0.mk A60
   clear A60
   obtain rfl := Option.some.inj H
   go_enter Try.func111, Try.ntmps111
   go_wp2_with (first | ((with_reducible refine gate_dst (N := 3) rfl ?_); refine box_ (N := 3) (cs := #[.int .i64 a0_0, .int .i64 a0_1, .slice A0_2 l0_2.length c0_2, .int .i64 a0_3]) (t := 24) ?_; intro gb136 hg w7 hbox hb; have BK136 := Aside0.mk (hbox); have GW136 := gz_ w hg; have GE136 := gz_ w hg; replace HB := hb_ w hb; clear hb hbox hg) | ((with_reducible refine gate_dst (N := 4) rfl ?_); refine box_ (N := 4) (cs := #[.int .i64 a1_0, .int .i64 a1_1, .int .i64 a1_2]) (t := 30) ?_; intro gb137 hg w8 hbox hb; have BK137 := Aside0.mk (hbox); have GW137 := gz_ w hg; have GE137 := gz_ w hg; have NB136_137 := ne_ hg BK136; have NB137_136 := en_ hg BK136; replace BK136 := bb_ BK136 hb; replace HB := hb_ w hb; clear hb hbox hg) | ((with_reducible refine gate_dst (N := 5) rfl ?_); refine box_ (N := 5) (cs := #[.int .i64 a2_0, .int .i64 a2_1, .int .i64 a2_2, .int .i64 a2_3, .int .i64 a2_4]) (t := 34) ?_; intro gb138 hg w9 hbox hb; have BK138 := Aside0.mk (hbox); have GW138 := gz_ w hg; have GE138 := gz_ w hg; have NB136_138 := ne_ hg BK136; have NB138_136 := en_ hg BK136; have NB137_138 := ne_ hg BK137; have NB138_137 := en_ hg BK137; replace BK136 := bb_ BK136 hb; replace BK137 := bb_ BK137 hb; replace HB := hb_ w hb; clear hb hbox hg; have hnb10 := NB136_137.out; have hnc10 := NB137_136.out; have hnb11 := NB136_138.out; have hnc11 := NB138_136.out; obtain ⟨hcz12_0, hcz12_1, hcz12_2, hcz12_3, hfz12_0, hfz12_1, hfz12_2, hfz12_3⟩ := bc4_ (w := w9) BK136; have hnb13 := NB138_137.out; have hnc13 := NB137_138.out; obtain ⟨hcz14_0, hcz14_1, hcz14_2, hcz14_3, hcz14_4, hfz14_0, hfz14_1, hfz14_2, hfz14_3, hfz14_4⟩ := bc5_ (w := w9) BK138; obtain ⟨hcz15_0, hcz15_1, hcz15_2, hfz15_0, hfz15_1, hfz15_2⟩ := bc3_ (w := w9) BK137) | (go_at_call 78; (with_reducible refine (impl_Shop_onLoom.calls k a0_0 a0_1 _ _ l0_2 a0_3 a1_2 t139 _ ?side1 ?side2 A6.out).mono ?_); (case side1 => exact cb_ HR0_2 HB); (case side2 => exact HC0_2.out); rintro e w16 ⟨rfl, hb⟩; replace BK136 := bb_ BK136 hb; replace BK137 := bb_ BK137 hb; replace BK138 := bb_ BK138 hb; replace HB := hb_ w hb; clear hb))
   go_ret
   exact ⟨by first | rfl | (simp [errW_none, errW_some] <;> rfl) | (simp [*, errW_none, errW_some] <;> rfl), (bw_ w)⟩
  ·rw [if_neg c5] at H
   have c5b0 := beq_eq_false_iff_ne.mpr c5
   have c5b1 := bne_iff_ne.mpr c5
   obtain rfl := Option.some.inj H
   go_enter Try.func111, Try.ntmps111
   go_wp2_with (first | ((with_reducible refine gate_dst (N := 3) rfl ?_); refine box_ (N := 3) (cs := #[.int .i64 a0_0, .int .i64 a0_1, .slice A0_2 l0_2.length c0_2, .int .i64 a0_3]) (t := 24) ?_; intro gb136 hg w17 hbox hb; have BK136 := Aside0.mk (hbox); have GW136 := gz_ w hg; have GE136 := gz_ w hg; replace HB := hb_ w hb; clear hb hbox hg) | ((with_reducible refine gate_dst (N := 4) rfl ?_); refine box_ (N := 4) (cs := #[.int .i64 a1_0, .int .i64 a1_1, .int .i64 a1_2]) (t := 30) ?_; intro gb137 hg w18 hbox hb; have BK137 := Aside0.mk (hbox); have GW137 := gz_ w hg; have GE137 := gz_ w hg; have NB136_137 := ne_ hg BK136; have NB137_136 := en_ hg BK136; replace BK136 := bb_ BK136 hb; replace HB := hb_ w hb; clear hb hbox hg) | ((with_reducible refine gate_dst (N := 5) rfl ?_); refine box_ (N := 5) (cs := #[.int .i64 a2_0, .int .i64 a2_1, .int .i64 a2_2, .int .i64 a2_3, .int .i64 a2_4]) (t := 34) ?_; intro gb138 hg w19 hbox hb; have BK138 := Aside0.mk (hbox); have GW138 := gz_ w hg; have GE138 := gz_ w hg; have NB136_138 := ne_ hg BK136; have NB138_136 := en_ hg BK136; have NB137_138 := ne_ hg BK137; have NB138_137 := en_ hg BK137; replace BK136 := bb_ BK136 hb; replace BK137 := bb_ BK137 hb; replace HB := hb_ w hb; clear hb hbox hg; have hnb20 := NB136_137.out; have hnc20 := NB137_136.out; have hnb21 := NB136_138.out; have hnc21 := NB138_136.out; obtain ⟨hcz22_0, hcz22_1, hcz22_2, hcz22_3, hfz22_0, hfz22_1, hfz22_2, hfz22_3⟩ := bc4_ (w := w19) BK136; have hnb23 := NB138_137.out; have hnc23 := NB137_138.out; obtain ⟨hcz24_0, hcz24_1, hcz24_2, hcz24_3, hcz24_4, hfz24_0, hfz24_1, hfz24_2, hfz24_3, hfz24_4⟩ := bc5_ (w := w19) BK138; obtain ⟨hcz25_0, hcz25_1, hcz25_2, hfz25_0, hfz25_1, hfz25_2⟩ := bc3_ (w := w19) BK137))
   go_ret
   exact ⟨by first | rfl | (simp [errW_none, errW_some] <;> rfl) | (simp [*, errW_none, errW_some] <;> rfl), (bw_ w)⟩
 ·rw [if_neg c4] at H
  have c4b0 := beq_eq_false_iff_ne.mpr c4
  have c4b1 := bne_iff_ne.mpr c4
  by_cases c26 : a1_0 = 4
  ·rw [if_pos c26] at H
   have c26b0 := beq_iff_eq.mpr c26
   have c26b1 := bne_eq_false_iff_eq.mpr c26
   clear c26
   by_cases c27 : a2_2 = 1
   ·rw [if_pos c27] at H
    have c27b0 := beq_iff_eq.mpr c27
    have c27b1 := bne_eq_false_iff_eq.mpr c27
    clear c27
    by_cases c28 : (wrap64 (a0_0 - a2_4)) ≥ 1
    ·rw [if_pos c28] at H
     have c28b0 : decide (1 ≤ (wrap64 (a0_0 - a2_4))) = true := decide_eq_true c28
     clear c28
     obtain rfl := Option.some.inj H
     go_enter Try.func111, Try.ntmps111
     go_wp2_with (first | ((with_reducible refine gate_dst (N := 3) rfl ?_); refine box_ (N := 3) (cs := #[.int .i64 a0_0, .int .i64 a0_1, .slice A0_2 l0_2.length c0_2, .int .i64 a0_3]) (t := 24) ?_; intro gb136 hg w29 hbox hb; have BK136 := Aside0.mk (hbox); have GW136 := gz_ w hg; have GE136 := gz_ w hg; replace HB := hb_ w hb; clear hb hbox hg) | ((with_reducible refine gate_dst (N := 4) rfl ?_); refine box_ (N := 4) (cs := #[.int .i64 a1_0, .int .i64 a1_1, .int .i64 a1_2]) (t := 30) ?_; intro gb137 hg w30 hbox hb; have BK137 := Aside0.mk (hbox); have GW137 := gz_ w hg; have GE137 := gz_ w hg; have NB136_137 := ne_ hg BK136; have NB137_136 := en_ hg BK136; replace BK136 := bb_ BK136 hb; replace HB := hb_ w hb; clear hb hbox hg) | ((with_reducible refine gate_dst (N := 5) rfl ?_); refine box_ (N := 5) (cs := #[.int .i64 a2_0, .int .i64 a2_1, .int .i64 a2_2, .int .i64 a2_3, .int .i64 a2_4]) (t := 34) ?_; intro gb138 hg w31 hbox hb; have BK138 := Aside0.mk (hbox); have GW138 := gz_ w hg; have GE138 := gz_ w hg; have NB136_138 := ne_ hg BK136; have NB138_136 := en_ hg BK136; have NB137_138 := ne_ hg BK137; have NB138_137 := en_ hg BK137; replace BK136 := bb_ BK136 hb; replace BK137 := bb_ BK137 hb; replace HB := hb_ w hb; clear hb hbox hg; have hnb32 := NB136_137.out; have hnc32 := NB137_136.out; have hnb33 := NB136_138.out; have hnc33 := NB138_136.out; obtain ⟨hcz34_0, hcz34_1, hcz34_2, hcz34_3, hfz34_0, hfz34_1, hfz34_2, hfz34_3⟩ := bc4_ (w := w31) BK136; have hnb35 := NB138_137.out; have hnc35 := NB137_138.out; obtain ⟨hcz36_0, hcz36_1, hcz36_2, hcz36_3, hcz36_4, hfz36_0, hfz36_1, hfz36_2, hfz36_3, hfz36_4⟩ := bc5_ (w := w31) BK138; obtain ⟨hcz37_0, hcz37_1, hcz37_2, hfz37_0, hfz37_1, hfz37_2⟩ := bc3_ (w := w31) BK137))
     go_ret
     exact ⟨by first | rfl | (simp [errW_none, errW_some] <;> rfl) | (simp [*, errW_none, errW_some] <;> rfl), (bw_ w)⟩
    ·rw [if_neg c28] at H
     have c28b0 : decide (1 ≤ (wrap64 (a0_0 - a2_4))) = false := decide_eq_false c28
     clear c28
     obtain rfl := Option.some.inj H
     go_enter Try.func111, Try.ntmps111
     go_wp2_with (first | ((with_reducible refine gate_dst (N := 3) rfl ?_); refine box_ (N := 3) (cs := #[.int .i64 a0_0, .int .i64 a0_1, .slice A0_2 l0_2.length c0_2, .int .i64 a0_3]) (t := 24) ?_; intro gb136 hg w38 hbox hb; have BK136 := Aside0.mk (hbox); have GW136 := gz_ w hg; have GE136 := gz_ w hg; replace HB := hb_ w hb; clear hb hbox hg) | ((with_reducible refine gate_dst (N := 4) rfl ?_); refine box_ (N := 4) (cs := #[.int .i64 a1_0, .int .i64 a1_1, .int .i64 a1_2]) (t := 30) ?_; intro gb137 hg w39 hbox hb; have BK137 := Aside0.mk (hbox); have GW137 := gz_ w hg; have GE137 := gz_ w hg; have NB136_137 := ne_ hg BK136; have NB137_136 := en_ hg BK136; replace BK136 := bb_ BK136 hb; replace HB := hb_ w hb; clear hb hbox hg) | ((with_reducible refine gate_dst (N := 5) rfl ?_); refine box_ (N := 5) (cs := #[.int .i64 a2_0, .int .i64 a2_1, .int .i64 a2_2, .int .i64 a2_3, .int .i64 a2_4]) (t := 34) ?_; intro gb138 hg w40 hbox hb; have BK138 := Aside0.mk (hbox); have GW138 := gz_ w hg; have GE138 := gz_ w hg; have NB136_138 := ne_ hg BK136; have NB138_136 := en_ hg BK136; have NB137_138 := ne_ hg BK137; have NB138_137 := en_ hg BK137; replace BK136 := bb_ BK136 hb; replace BK137 := bb_ BK137 hb; replace HB := hb_ w hb; clear hb hbox hg; have hnb41 := NB136_137.out; have hnc41 := NB137_136.out; have hnb42 := NB136_138.out; have hnc42 := NB138_136.out; obtain ⟨hcz43_0, hcz43_1, hcz43_2, hcz43_3, hfz43_0, hfz43_1, hfz43_2, hfz43_3⟩ := bc4_ (w := w40) BK136; have hnb44 := NB138_137.out; have hnc44 := NB137_138.out; obtain ⟨hcz45_0, hcz45_1, hcz45_2, hcz45_3, hcz45_4, hfz45_0, hfz45_1, hfz45_2, hfz45_3, hfz45_4⟩ := bc5_ (w := w40) BK138; obtain ⟨hcz46_0, hcz46_1, hcz46_2, hfz46_0, hfz46_1, hfz46_2⟩ := bc3_ (w := w40) BK137))
     go_ret
     exact ⟨by first | rfl | (simp [errW_none, errW_some] <;> rfl) | (simp [*, errW_none, errW_some] <;> rfl), (bw_ w)⟩
   ·rw [if_neg c27] at H
    have c27b0 := beq_eq_false_iff_ne.mpr c27
    have c27b1 := bne_iff_ne.mpr c27
    obtain rfl := Option.some.inj H
    go_enter Try.func111, Try.ntmps111
    go_wp2_with (first | ((with_reducible refine gate_dst (N := 3) rfl ?_); refine box_ (N := 3) (cs := #[.int .i64 a0_0, .int .i64 a0_1, .slice A0_2 l0_2.length c0_2, .int .i64 a0_3]) (t := 24) ?_; intro gb136 hg w47 hbox hb; have BK136 := Aside0.mk (hbox); have GW136 := gz_ w hg; have GE136 := gz_ w hg; replace HB := hb_ w hb; clear hb hbox hg) | ((with_reducible refine gate_dst (N := 4) rfl ?_); refine box_ (N := 4) (cs := #[.int .i64 a1_0, .int .i64 a1_1, .int .i64 a1_2]) (t := 30) ?_; intro gb137 hg w48 hbox hb; have BK137 := Aside0.mk (hbox); have GW137 := gz_ w hg; have GE137 := gz_ w hg; have NB136_137 := ne_ hg BK136; have NB137_136 := en_ hg BK136; replace BK136 := bb_ BK136 hb; replace HB := hb_ w hb; clear hb hbox hg) | ((with_reducible refine gate_dst (N := 5) rfl ?_); refine box_ (N := 5) (cs := #[.int .i64 a2_0, .int .i64 a2_1, .int .i64 a2_2, .int .i64 a2_3, .int .i64 a2_4]) (t := 34) ?_; intro gb138 hg w49 hbox hb; have BK138 := Aside0.mk (hbox); have GW138 := gz_ w hg; have GE138 := gz_ w hg; have NB136_138 := ne_ hg BK136; have NB138_136 := en_ hg BK136; have NB137_138 := ne_ hg BK137; have NB138_137 := en_ hg BK137; replace BK136 := bb_ BK136 hb; replace BK137 := bb_ BK137 hb; replace HB := hb_ w hb; clear hb hbox hg; have hnb50 := NB136_137.out; have hnc50 := NB137_136.out; have hnb51 := NB136_138.out; have hnc51 := NB138_136.out; obtain ⟨hcz52_0, hcz52_1, hcz52_2, hcz52_3, hfz52_0, hfz52_1, hfz52_2, hfz52_3⟩ := bc4_ (w := w49) BK136; have hnb53 := NB138_137.out; have hnc53 := NB137_138.out; obtain ⟨hcz54_0, hcz54_1, hcz54_2, hcz54_3, hcz54_4, hfz54_0, hfz54_1, hfz54_2, hfz54_3, hfz54_4⟩ := bc5_ (w := w49) BK138; obtain ⟨hcz55_0, hcz55_1, hcz55_2, hfz55_0, hfz55_1, hfz55_2⟩ := bc3_ (w := w49) BK137))
    go_ret
    exact ⟨by first | rfl | (simp [errW_none, errW_some] <;> rfl) | (simp [*, errW_none, errW_some] <;> rfl), (bw_ w)⟩
  ·rw [if_neg c26] at H
   have c26b0 := beq_eq_false_iff_ne.mpr c26
   have c26b1 := bne_iff_ne.mpr c26
   by_cases c56 : a1_0 = 5
   ·rw [if_pos c56] at H
    have c56b0 := beq_iff_eq.mpr c56
    have c56b1 := bne_eq_false_iff_eq.mpr c56
    clear c56
    by_cases c57 : a2_2 = 1
    ·rw [if_pos c57] at H
     have c57b0 := beq_iff_eq.mpr c57
     have c57b1 := bne_eq_false_iff_eq.mpr c57
     clear c57
     obtain rfl := Option.some.inj H
     go_enter Try.func111, Try.ntmps111
     go_wp2_with (first | ((with_reducible refine gate_dst (N := 3) rfl ?_); refine box_ (N := 3) (cs := #[.int .i64 a0_0, .int .i64 a0_1, .slice A0_2 l0_2.length c0_2, .int .i64 a0_3]) (t := 24) ?_; intro gb136 hg w58 hbox hb; have BK136 := Aside0.mk (hbox); have GW136 := gz_ w hg; have GE136 := gz_ w hg; replace HB := hb_ w hb; clear hb hbox hg) | ((with_reducible refine gate_dst (N := 4) rfl ?_); refine box_ (N := 4) (cs := #[.int .i64 a1_0, .int .i64 a1_1, .int .i64 a1_2]) (t := 30) ?_; intro gb137 hg w59 hbox hb; have BK137 := Aside0.mk (hbox); have GW137 := gz_ w hg; have GE137 := gz_ w hg; have NB136_137 := ne_ hg BK136; have NB137_136 := en_ hg BK136; replace BK136 := bb_ BK136 hb; replace HB := hb_ w hb; clear hb hbox hg) | ((with_reducible refine gate_dst (N := 5) rfl ?_); refine box_ (N := 5) (cs := #[.int .i64 a2_0, .int .i64 a2_1, .int .i64 a2_2, .int .i64 a2_3, .int .i64 a2_4]) (t := 34) ?_; intro gb138 hg w60 hbox hb; have BK138 := Aside0.mk (hbox); have GW138 := gz_ w hg; have GE138 := gz_ w hg; have NB136_138 := ne_ hg BK136; have NB138_136 := en_ hg BK136; have NB137_138 := ne_ hg BK137; have NB138_137 := en_ hg BK137; replace BK136 := bb_ BK136 hb; replace BK137 := bb_ BK137 hb; replace HB := hb_ w hb; clear hb hbox hg; have hnb61 := NB136_137.out; have hnc61 := NB137_136.out; have hnb62 := NB136_138.out; have hnc62 := NB138_136.out; obtain ⟨hcz63_0, hcz63_1, hcz63_2, hcz63_3, hfz63_0, hfz63_1, hfz63_2, hfz63_3⟩ := bc4_ (w := w60) BK136; have hnb64 := NB138_137.out; have hnc64 := NB137_138.out; obtain ⟨hcz65_0, hcz65_1, hcz65_2, hcz65_3, hcz65_4, hfz65_0, hfz65_1, hfz65_2, hfz65_3, hfz65_4⟩ := bc5_ (w := w60) BK138; obtain ⟨hcz66_0, hcz66_1, hcz66_2, hfz66_0, hfz66_1, hfz66_2⟩ := bc3_ (w := w60) BK137))
     go_ret
     exact ⟨by first | rfl | (simp [errW_none, errW_some] <;> rfl) | (simp [*, errW_none, errW_some] <;> rfl), (bw_ w)⟩
    ·rw [if_neg c57] at H
     have c57b0 := beq_eq_false_iff_ne.mpr c57
     have c57b1 := bne_iff_ne.mpr c57
     obtain rfl := Option.some.inj H
     go_enter Try.func111, Try.ntmps111
     go_wp2_with (first | ((with_reducible refine gate_dst (N := 3) rfl ?_); refine box_ (N := 3) (cs := #[.int .i64 a0_0, .int .i64 a0_1, .slice A0_2 l0_2.length c0_2, .int .i64 a0_3]) (t := 24) ?_; intro gb136 hg w67 hbox hb; have BK136 := Aside0.mk (hbox); have GW136 := gz_ w hg; have GE136 := gz_ w hg; replace HB := hb_ w hb; clear hb hbox hg) | ((with_reducible refine gate_dst (N := 4) rfl ?_); refine box_ (N := 4) (cs := #[.int .i64 a1_0, .int .i64 a1_1, .int .i64 a1_2]) (t := 30) ?_; intro gb137 hg w68 hbox hb; have BK137 := Aside0.mk (hbox); have GW137 := gz_ w hg; have GE137 := gz_ w hg; have NB136_137 := ne_ hg BK136; have NB137_136 := en_ hg BK136; replace BK136 := bb_ BK136 hb; replace HB := hb_ w hb; clear hb hbox hg) | ((with_reducible refine gate_dst (N := 5) rfl ?_); refine box_ (N := 5) (cs := #[.int .i64 a2_0, .int .i64 a2_1, .int .i64 a2_2, .int .i64 a2_3, .int .i64 a2_4]) (t := 34) ?_; intro gb138 hg w69 hbox hb; have BK138 := Aside0.mk (hbox); have GW138 := gz_ w hg; have GE138 := gz_ w hg; have NB136_138 := ne_ hg BK136; have NB138_136 := en_ hg BK136; have NB137_138 := ne_ hg BK137; have NB138_137 := en_ hg BK137; replace BK136 := bb_ BK136 hb; replace BK137 := bb_ BK137 hb; replace HB := hb_ w hb; clear hb hbox hg; have hnb70 := NB136_137.out; have hnc70 := NB137_136.out; have hnb71 := NB136_138.out; have hnc71 := NB138_136.out; obtain ⟨hcz72_0, hcz72_1, hcz72_2, hcz72_3, hfz72_0, hfz72_1, hfz72_2, hfz72_3⟩ := bc4_ (w := w69) BK136; have hnb73 := NB138_137.out; have hnc73 := NB137_138.out; obtain ⟨hcz74_0, hcz74_1, hcz74_2, hcz74_3, hcz74_4, hfz74_0, hfz74_1, hfz74_2, hfz74_3, hfz74_4⟩ := bc5_ (w := w69) BK138; obtain ⟨hcz75_0, hcz75_1, hcz75_2, hfz75_0, hfz75_1, hfz75_2⟩ := bc3_ (w := w69) BK137))
     go_ret
     exact ⟨by first | rfl | (simp [errW_none, errW_some] <;> rfl) | (simp [*, errW_none, errW_some] <;> rfl), (bw_ w)⟩
   ·rw [if_neg c56] at H
    have c56b0 := beq_eq_false_iff_ne.mpr c56
    have c56b1 := bne_iff_ne.mpr c56
    by_cases c76 : a1_0 = 6
    ·rw [if_pos c76] at H
     have c76b0 := beq_iff_eq.mpr c76
     have c76b1 := bne_eq_false_iff_eq.mpr c76
     clear c76
     obtain rfl := Option.some.inj H
     go_enter Try.func111, Try.ntmps111
     go_wp2_with (first | ((with_reducible refine gate_dst (N := 3) rfl ?_); refine box_ (N := 3) (cs := #[.int .i64 a0_0, .int .i64 a0_1, .slice A0_2 l0_2.length c0_2, .int .i64 a0_3]) (t := 24) ?_; intro gb136 hg w77 hbox hb; have BK136 := Aside0.mk (hbox); have GW136 := gz_ w hg; have GE136 := gz_ w hg; replace HB := hb_ w hb; clear hb hbox hg) | ((with_reducible refine gate_dst (N := 4) rfl ?_); refine box_ (N := 4) (cs := #[.int .i64 a1_0, .int .i64 a1_1, .int .i64 a1_2]) (t := 30) ?_; intro gb137 hg w78 hbox hb; have BK137 := Aside0.mk (hbox); have GW137 := gz_ w hg; have GE137 := gz_ w hg; have NB136_137 := ne_ hg BK136; have NB137_136 := en_ hg BK136; replace BK136 := bb_ BK136 hb; replace HB := hb_ w hb; clear hb hbox hg) | ((with_reducible refine gate_dst (N := 5) rfl ?_); refine box_ (N := 5) (cs := #[.int .i64 a2_0, .int .i64 a2_1, .int .i64 a2_2, .int .i64 a2_3, .int .i64 a2_4]) (t := 34) ?_; intro gb138 hg w79 hbox hb; have BK138 := Aside0.mk (hbox); have GW138 := gz_ w hg; have GE138 := gz_ w hg; have NB136_138 := ne_ hg BK136; have NB138_136 := en_ hg BK136; have NB137_138 := ne_ hg BK137; have NB138_137 := en_ hg BK137; replace BK136 := bb_ BK136 hb; replace BK137 := bb_ BK137 hb; replace HB := hb_ w hb; clear hb hbox hg; have hnb80 := NB136_137.out; have hnc80 := NB137_136.out; have hnb81 := NB136_138.out; have hnc81 := NB138_136.out; obtain ⟨hcz82_0, hcz82_1, hcz82_2, hcz82_3, hfz82_0, hfz82_1, hfz82_2, hfz82_3⟩ := bc4_ (w := w79) BK136; have hnb83 := NB138_137.out; have hnc83 := NB137_138.out; obtain ⟨hcz84_0, hcz84_1, hcz84_2, hcz84_3, hcz84_4, hfz84_0, hfz84_1, hfz84_2, hfz84_3, hfz84_4⟩ := bc5_ (w := w79) BK138; obtain ⟨hcz85_0, hcz85_1, hcz85_2, hfz85_0, hfz85_1, hfz85_2⟩ := bc3_ (w := w79) BK137))
     go_ret
     exact ⟨by first | rfl | (simp [errW_none, errW_some] <;> rfl) | (simp [*, errW_none, errW_some] <;> rfl), (bw_ w)⟩
    ·rw [if_neg c76] at H
     have c76b0 := beq_eq_false_iff_ne.mpr c76
     have c76b1 := bne_iff_ne.mpr c76
     by_cases c86 : a2_2 = 3
     ·rw [if_pos c86] at H
      have c86b0 := beq_iff_eq.mpr c86
      have c86b1 := bne_eq_false_iff_eq.mpr c86
      clear c86
      obtain rfl := Option.some.inj H
      go_enter Try.func111, Try.ntmps111
      go_wp2_with (first | ((with_reducible refine gate_dst (N := 3) rfl ?_); refine box_ (N := 3) (cs := #[.int .i64 a0_0, .int .i64 a0_1, .slice A0_2 l0_2.length c0_2, .int .i64 a0_3]) (t := 24) ?_; intro gb136 hg w87 hbox hb; have BK136 := Aside0.mk (hbox); have GW136 := gz_ w hg; have GE136 := gz_ w hg; replace HB := hb_ w hb; clear hb hbox hg) | ((with_reducible refine gate_dst (N := 4) rfl ?_); refine box_ (N := 4) (cs := #[.int .i64 a1_0, .int .i64 a1_1, .int .i64 a1_2]) (t := 30) ?_; intro gb137 hg w88 hbox hb; have BK137 := Aside0.mk (hbox); have GW137 := gz_ w hg; have GE137 := gz_ w hg; have NB136_137 := ne_ hg BK136; have NB137_136 := en_ hg BK136; replace BK136 := bb_ BK136 hb; replace HB := hb_ w hb; clear hb hbox hg) | ((with_reducible refine gate_dst (N := 5) rfl ?_); refine box_ (N := 5) (cs := #[.int .i64 a2_0, .int .i64 a2_1, .int .i64 a2_2, .int .i64 a2_3, .int .i64 a2_4]) (t := 34) ?_; intro gb138 hg w89 hbox hb; have BK138 := Aside0.mk (hbox); have GW138 := gz_ w hg; have GE138 := gz_ w hg; have NB136_138 := ne_ hg BK136; have NB138_136 := en_ hg BK136; have NB137_138 := ne_ hg BK137; have NB138_137 := en_ hg BK137; replace BK136 := bb_ BK136 hb; replace BK137 := bb_ BK137 hb; replace HB := hb_ w hb; clear hb hbox hg; have hnb90 := NB136_137.out; have hnc90 := NB137_136.out; have hnb91 := NB136_138.out; have hnc91 := NB138_136.out; obtain ⟨hcz92_0, hcz92_1, hcz92_2, hcz92_3, hfz92_0, hfz92_1, hfz92_2, hfz92_3⟩ := bc4_ (w := w89) BK136; have hnb93 := NB138_137.out; have hnc93 := NB137_138.out; obtain ⟨hcz94_0, hcz94_1, hcz94_2, hcz94_3, hcz94_4, hfz94_0, hfz94_1, hfz94_2, hfz94_3, hfz94_4⟩ := bc5_ (w := w89) BK138; obtain ⟨hcz95_0, hcz95_1, hcz95_2, hfz95_0, hfz95_1, hfz95_2⟩ := bc3_ (w := w89) BK137))
      go_ret
      exact ⟨by first | rfl | (simp [errW_none, errW_some] <;> rfl) | (simp [*, errW_none, errW_some] <;> rfl), (bw_ w)⟩
     ·rw [if_neg c86] at H
      have c86b0 := beq_eq_false_iff_ne.mpr c86
      have c86b1 := bne_iff_ne.mpr c86
      obtain rfl := Option.some.inj H
      go_enter Try.func111, Try.ntmps111
      go_wp2_with (first | ((with_reducible refine gate_dst (N := 3) rfl ?_); refine box_ (N := 3) (cs := #[.int .i64 a0_0, .int .i64 a0_1, .slice A0_2 l0_2.length c0_2, .int .i64 a0_3]) (t := 24) ?_; intro gb136 hg w96 hbox hb; have BK136 := Aside0.mk (hbox); have GW136 := gz_ w hg; have GE136 := gz_ w hg; replace HB := hb_ w hb; clear hb hbox hg) | ((with_reducible refine gate_dst (N := 4) rfl ?_); refine box_ (N := 4) (cs := #[.int .i64 a1_0, .int .i64 a1_1, .int .i64 a1_2]) (t := 30) ?_; intro gb137 hg w97 hbox hb; have BK137 := Aside0.mk (hbox); have GW137 := gz_ w hg; have GE137 := gz_ w hg; have NB136_137 := ne_ hg BK136; have NB137_136 := en_ hg BK136; replace BK136 := bb_ BK136 hb; replace HB := hb_ w hb; clear hb hbox hg) | ((with_reducible refine gate_dst (N := 5) rfl ?_); refine box_ (N := 5) (cs := #[.int .i64 a2_0, .int .i64 a2_1, .int .i64 a2_2, .int .i64 a2_3, .int .i64 a2_4]) (t := 34) ?_; intro gb138 hg w98 hbox hb; have BK138 := Aside0.mk (hbox); have GW138 := gz_ w hg; have GE138 := gz_ w hg; have NB136_138 := ne_ hg BK136; have NB138_136 := en_ hg BK136; have NB137_138 := ne_ hg BK137; have NB138_137 := en_ hg BK137; replace BK136 := bb_ BK136 hb; replace BK137 := bb_ BK137 hb; replace HB := hb_ w hb; clear hb hbox hg; have hnb99 := NB136_137.out; have hnc99 := NB137_136.out; have hnb100 := NB136_138.out; have hnc100 := NB138_136.out; obtain ⟨hcz101_0, hcz101_1, hcz101_2, hcz101_3, hfz101_0, hfz101_1, hfz101_2, hfz101_3⟩ := bc4_ (w := w98) BK136; have hnb102 := NB138_137.out; have hnc102 := NB137_138.out; obtain ⟨hcz103_0, hcz103_1, hcz103_2, hcz103_3, hcz103_4, hfz103_0, hfz103_1, hfz103_2, hfz103_3, hfz103_4⟩ := bc5_ (w := w98) BK138; obtain ⟨hcz104_0, hcz104_1, hcz104_2, hfz104_0, hfz104_1, hfz104_2⟩ := bc3_ (w := w98) BK137))
      go_ret
      exact ⟨by first | rfl | (simp [errW_none, errW_some] <;> rfl) | (simp [*, errW_none, errW_some] <;> rfl), (bw_ w)⟩

-- NOT PRINTED: function 112 (impl_Shop_change)

end Go.Proofs.Ytahglcpndiadnaa.PFnExactRunShop
