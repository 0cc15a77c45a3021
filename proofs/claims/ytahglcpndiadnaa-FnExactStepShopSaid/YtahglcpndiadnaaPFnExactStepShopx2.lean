-- Printed by this session's own program (wip/tool/myprint.py, over the kit's print); Lean checks it.
import Derived.Test.YtahglcpndiadnaaPFnExactStepShopx0
import Derived.Test.YtahglcpndiadnaaPFnExactStepShopx1
namespace Go.Proofs.Ytahglcpndiadnaa.PFnExactStepShop
open Go.RowKit Go.Proofs.YtahglcpndiadnaaW.PrintWords Go.Proofs.YtahglcpndiadnaaW.PrintLast Go.Proofs.YtahglcpndiadnaaW.PrintMore
attribute [local go_sem] max2_int min2_int max_two min_two max_three min_three max_four min_four   -- for this text's walks alone
set_option linter.unusedVariables false
set_option linter.unusedSimpArgs false

/-! ### impl_IsShop: function 25 -/
mutual
def impl_IsShop.j0 : Nat → Bool → Int → Int → List (S34) → Int → Option (Bool)
  | 0, _, _, _, _, _ => none
  | k + 1, x26, x122000, x122001, x122002, x122003 => if x26 = true then (some false) else (impl_IsShop.l0 k x122002 (x122002.length : Int) 0 x122000 x122001 x122002 x122003)
def impl_IsShop.l0 : Nat → List (S34) → Int → Int → Int → Int → List (S34) → Int → Option (Bool)
  | 0, _, _, _, _, _, _, _ => none
  | k + 1, x28, x29, x30, x122000, x122001, x122002, x122003 => if x30 < x29 then (if 0 ≤ x30 then (if x30 < (x28.length : Int) then ((impl_Shop_isCarpet.f k x122000 x122001 x122002 x122003 ((rd_T34 x28 x30).f0) ((rd_T34 x28 x30).f1) ((rd_T34 x28 x30).f2) ((rd_T34 x28 x30).f3) ((rd_T34 x28 x30).f4)).bind fun t127 => (if t127 = true then (if ((rd_T34 x28 x30).f2) = 1 then ((impl_Shop_onLoom.f k x122000 x122001 x122002 x122003 ((rd_T34 x28 x30).f3)).bind fun t128 => (if t128 = x30 then (impl_IsShop.l0 k x28 x29 (wrap64 (x30 + 1)) x122000 x122001 x122002 x122003) else (some false))) else (impl_IsShop.l0 k x28 x29 (wrap64 (x30 + 1)) x122000 x122001 x122002 x122003)) else (some false))) else (none)) else (none)) else (some true)
end
def impl_IsShop.f (k : Nat) (a0_0 : Int) (a0_1 : Int) (l0_2 : List (S34)) (a0_3 : Int) : Option (Bool) := (impl_isDay.f a0_0).bind fun t122 => (if t122 = true then ((impl_in.f a0_1 1 4).bind fun t123 => (if t123 = true then (if (l0_2.length : Int) > 8 then (impl_IsShop.j0 k true a0_0 a0_1 l0_2 a0_3) else ((impl_in.f a0_3 0 1000000).bind fun t124 => (impl_IsShop.j0 k (!t124) a0_0 a0_1 l0_2 a0_3))) else (impl_IsShop.j0 k true a0_0 a0_1 l0_2 a0_3))) else (impl_IsShop.j0 k true a0_0 a0_1 l0_2 a0_3))
theorem impl_IsShop.mono_l : ∀ k, (∀ y0 y1 y2 y3 y4, LeO (impl_IsShop.j0 k y0 y1 y2 y3 y4) (impl_IsShop.j0 (k + 1) y0 y1 y2 y3 y4)) ∧ (∀ y0 y1 y2 y3 y4 y5 y6, LeO (impl_IsShop.l0 k y0 y1 y2 y3 y4 y5 y6) (impl_IsShop.l0 (k + 1) y0 y1 y2 y3 y4 y5 y6))
  | 0 => ⟨fun _ _ _ _ _ r h => by simp [impl_IsShop.j0] at h, fun _ _ _ _ _ _ _ r h => by simp [impl_IsShop.l0] at h⟩
  | k + 1 => by
    obtain ⟨ih0, ih1⟩ := impl_IsShop.mono_l k
    refine ⟨?_, ?_⟩
    · intro y0 y1 y2 y3 y4
      unfold impl_IsShop.j0
      repeat' first
      | (with_reducible exact ih0 _ _ _ _ _)
      | (with_reducible exact ih1 _ _ _ _ _ _ _)
      | (with_reducible exact impl_Shop_isCarpet.mono _ _ _ _ _ _ _ _ _ _)
      | (with_reducible exact impl_Shop_onLoom.mono _ _ _ _ _ _)
      | (with_reducible exact LeO.refl _)
      | (with_reducible exact LeO.none _)
      | (with_reducible refine LeO.ite ?_ ?_)
      | (with_reducible refine LeO.bind ?_ (fun _ => ?_))
      | exact ih0 _ _ _ _ _
      | exact ih1 _ _ _ _ _ _ _
      | exact impl_Shop_isCarpet.mono _ _ _ _ _ _ _ _ _ _
      | exact impl_Shop_onLoom.mono _ _ _ _ _ _
      | exact LeO.none _
      | refine LeO.ite ?_ ?_
      | refine LeO.bind ?_ (fun _ => ?_)
    · intro y0 y1 y2 y3 y4 y5 y6
      unfold impl_IsShop.l0
      repeat' first
      | (with_reducible exact ih0 _ _ _ _ _)
      | (with_reducible exact ih1 _ _ _ _ _ _ _)
      | (with_reducible exact impl_Shop_isCarpet.mono _ _ _ _ _ _ _ _ _ _)
      | (with_reducible exact impl_Shop_onLoom.mono _ _ _ _ _ _)
      | (with_reducible exact LeO.refl _)
      | (with_reducible exact LeO.none _)
      | (with_reducible refine LeO.ite ?_ ?_)
      | (with_reducible refine LeO.bind ?_ (fun _ => ?_))
      | exact ih0 _ _ _ _ _
      | exact ih1 _ _ _ _ _ _ _
      | exact impl_Shop_isCarpet.mono _ _ _ _ _ _ _ _ _ _
      | exact impl_Shop_onLoom.mono _ _ _ _ _ _
      | exact LeO.none _
      | refine LeO.ite ?_ ?_
      | refine LeO.bind ?_ (fun _ => ?_)
theorem impl_IsShop.mono : ∀ a0 a1 a2 a3 k, LeO (impl_IsShop.f k a0 a1 a2 a3) (impl_IsShop.f (k + 1) a0 a1 a2 a3) := by
  intro a0 a1 a2 a3 k
  obtain ⟨ih0, ih1⟩ := impl_IsShop.mono_l k
  unfold impl_IsShop.f
  repeat' first
      | (with_reducible exact ih0 _ _ _ _ _)
      | (with_reducible exact ih1 _ _ _ _ _ _ _)
      | (with_reducible exact impl_Shop_isCarpet.mono _ _ _ _ _ _ _ _ _ _)
      | (with_reducible exact impl_Shop_onLoom.mono _ _ _ _ _ _)
      | (with_reducible exact LeO.refl _)
      | (with_reducible exact LeO.none _)
      | (with_reducible refine LeO.ite ?_ ?_)
      | (with_reducible refine LeO.bind ?_ (fun _ => ?_))
      | exact ih0 _ _ _ _ _
      | exact ih1 _ _ _ _ _ _ _
      | exact impl_Shop_isCarpet.mono _ _ _ _ _ _ _ _ _ _
      | exact impl_Shop_onLoom.mono _ _ _ _ _ _
      | exact LeO.none _
      | refine LeO.ite ?_ ?_
      | refine LeO.bind ?_ (fun _ => ?_)
set_option maxHeartbeats 8000000 in
set_option maxRecDepth 100000 in
theorem impl_IsShop.calls (k : Nat) (a0_0 : Int) (a0_1 : Int) (A0_2 : Option Addr) (c0_2 : Nat) (l0_2 : List (S34)) (a0_3 : Int) (r : Bool) (w : World) (hr0_2 : Kd.C k34 w A0_2 l0_2.length l0_2) (hc0_2 : l0_2.length ≤ c0_2) (h : impl_IsShop.f k a0_0 a0_1 l0_2 a0_3 = some r) :
  Calls Try.prog 25 #[.agg #[.int .i64 a0_0, .int .i64 a0_1, .slice A0_2 l0_2.length c0_2, .int .i64 a0_3]] w fun e w' => e = .returned (.bool r) ∧ Below w.heap.size w w' := by
 have hu24 := Try.underlying24
 have hu34 := Try.underlying34
 have HR0_2 := Aside0.mk hr0_2
 have HC0_2 := Aside0.mk hc0_2
 clear hr0_2 hc0_2
 have HB := Aside0.mk (Below.refl w.heap.size w)
 have H : ((impl_isDay.f a0_0).bind fun t122 => (if t122 = true then ((impl_in.f a0_1 1 4).bind fun t123 => (if t123 = true then (if (l0_2.length : Int) > 8 then (impl_IsShop.j0 k true a0_0 a0_1 l0_2 a0_3) else ((impl_in.f a0_3 0 1000000).bind fun t124 => (impl_IsShop.j0 k (!t124) a0_0 a0_1 l0_2 a0_3))) else (impl_IsShop.j0 k true a0_0 a0_1 l0_2 a0_3))) else (impl_IsShop.j0 k true a0_0 a0_1 l0_2 a0_3))) = some r := h
 clear h
 have HC2 := Aside0.mk H
 clear H
 go_enter Try.func25, Try.ntmps25
 go_upto_region 1 with (first | ((with_reducible refine gate_dst (N := 1) rfl ?_); refine box_ (N := 1) (cs := #[.int .i64 a0_0, .int .i64 a0_1, .slice A0_2 l0_2.length c0_2, .int .i64 a0_3]) (t := 24) ?_; intro gb121 hg w3 hbox hb; have BK121 := Aside0.mk (hbox); have GW121 := gz_ w hg; have GE121 := gz_ w hg; replace HB := Aside0.mk (below_step (bw_ w) hb); clear hb hbox hg))
 (try simp only [Act.put, List.setIfInBounds_toArray, List.set_cons_zero, List.set_cons_succ])
 go_cut [26] (fun v26 wc => ∃ (kq : Nat) (x26_1 : Bool), v26 = .bool x26_1 ∧ Aside0 (impl_IsShop.j0 kq x26_1 a0_0 a0_1 l0_2 a0_3 = some r) ∧ Aside0 (kq ≤ k) ∧ Aside0 (wc.heap[gb121]? = some (.cells #[.int .i64 a0_0, .int .i64 a0_1, (.slice A0_2 l0_2.length c0_2), .int .i64 a0_3] 24 (0, 0))) ∧ Aside0 (Below w.heap.size w wc))
 case first =>
  have H := HC2.out
  clear HC2
  replace H := Option.bind_eq_some_iff.mp H
  obtain ⟨t122, A40, H⟩ := H
  replace H : (if t122 = true then ((impl_in.f a0_1 1 4).bind fun t123 => (if t123 = true then (if (l0_2.length : Int) > 8 then (impl_IsShop.j0 k true a0_0 a0_1 l0_2 a0_3) else ((impl_in.f a0_3 0 1000000).bind fun t124 => (impl_IsShop.j0 k (!t124) a0_0 a0_1 l0_2 a0_3))) else (impl_IsShop.j0 k true a0_0 a0_1 l0_2 a0_3))) else (impl_IsShop.j0 k true a0_0 a0_1 l0_2 a0_3)) = some r := H
  have A4 := Aside0.mk A40
  clear A40
  by_cases c5 : t122 = true
  ·subst c5
   have H1 : ((impl_in.f a0_1 1 4).bind fun t123 => (if t123 = true then (if (l0_2.length : Int) > 8 then (impl_IsShop.j0 k true a0_0 a0_1 l0_2 a0_3) else ((impl_in.f a0_3 0 1000000).bind fun t124 => (impl_IsShop.j0 k (!t124) a0_0 a0_1 l0_2 a0_3))) else (impl_IsShop.j0 k true a0_0 a0_1 l0_2 a0_3))) = some r := by rw [if_pos rfl] at H; exact H
   clear H
   have H := H1
   clear H1
   replace H := Option.bind_eq_some_iff.mp H
   obtain ⟨t123, A60, H⟩ := H
   replace H : (if t123 = true then (if (l0_2.length : Int) > 8 then (impl_IsShop.j0 k true a0_0 a0_1 l0_2 a0_3) else ((impl_in.f a0_3 0 1000000).bind fun t124 => (impl_IsShop.j0 k (!t124) a0_0 a0_1 l0_2 a0_3))) else (impl_IsShop.j0 k true a0_0 a0_1 l0_2 a0_3)) = some r := H
   have A6 := Aside0.mk A60
   clear A60
   by_cases c7 : t123 = true
   ·subst c7
    have H1 : (if (l0_2.length : Int) > 8 then (impl_IsShop.j0 k true a0_0 a0_1 l0_2 a0_3) else ((impl_in.f a0_3 0 1000000).bind fun t124 => (impl_IsShop.j0 k (!t124) a0_0 a0_1 l0_2 a0_3))) = some r := by rw [if_pos rfl] at H; exact H
    clear H
    have H := H1
    clear H1
    by_cases c8 : (l0_2.length : Int) > 8
    ·rw [if_pos c8] at H
     have c8b0 : decide (8 < (l0_2.length : Int)) = true := decide_eq_true c8
     have c8b1 : decide (8 < l0_2.length) = true := decide_eq_true (by omega)
     clear c8
     (first | rw [c8b0] | (simp only [i64_w, i32_w]; rw [c8b0]) | skip)
     have H' := Aside0.mk H
     clear H
     obtain ⟨hcz9_0, hcz9_1, hcz9_2, hcz9_3, hfz9_0, hfz9_1, hfz9_2, hfz9_3⟩ := bc4_ (w := w3) BK121
     go_wp2_with (first | ((with_reducible refine gate_callee (f := 75) rfl ?_); refine goesB (some 7) Try.func75 #[.int .i64 a0_0] ?_; (with_reducible refine (impl_isDay.calls a0_0 true _ A4.out).mono ?_); rintro e w' ⟨rfl, ⟨nd, rfl⟩⟩; refine ⟨_, rfl, ?_⟩) | (go_at_call 76; (with_reducible refine (impl_in.calls a0_1 1 4 true _ A6.out).mono ?_); rintro e w' ⟨rfl, ⟨nd, rfl⟩⟩))
     go_meet
     case rel => exact ⟨_, (true), (by first | rfl | (simp; done) | (simp [*]; done)), H', ⟨by first | omega | exact Nat.le_refl _⟩, ⟨bk_ BK121⟩, ⟨(bw_ w)⟩⟩
    ·rw [if_neg c8] at H
     have c8b0 : decide (8 < (l0_2.length : Int)) = false := decide_eq_false c8
     have c8b1 : decide (8 < l0_2.length) = false := decide_eq_false (by omega)
     clear c8
     (first | rw [c8b0] | (simp only [i64_w, i32_w]; rw [c8b0]) | skip)
     replace H := Option.bind_eq_some_iff.mp H
     obtain ⟨t124, A100, H⟩ := H
     replace H : (impl_IsShop.j0 k (!t124) a0_0 a0_1 l0_2 a0_3) = some r := H
     have A10 := Aside0.mk A100
     clear A100
     have H' := Aside0.mk H
     clear H
     obtain ⟨hcz11_0, hcz11_1, hcz11_2, hcz11_3, hfz11_0, hfz11_1, hfz11_2, hfz11_3⟩ := bc4_ (w := w3) BK121
     go_wp2_with (first | ((with_reducible refine gate_callee (f := 75) rfl ?_); refine goesB (some 7) Try.func75 #[.int .i64 a0_0] ?_; (with_reducible refine (impl_isDay.calls a0_0 true _ A4.out).mono ?_); rintro e w' ⟨rfl, ⟨nd, rfl⟩⟩; refine ⟨_, rfl, ?_⟩) | (go_at_call 76; (with_reducible refine (impl_in.calls a0_1 1 4 true _ A6.out).mono ?_); rintro e w' ⟨rfl, ⟨nd, rfl⟩⟩) | (go_at_call 76; (with_reducible refine (impl_in.calls a0_3 0 1000000 t124 _ A10.out).mono ?_); rintro e w' ⟨rfl, ⟨nd, rfl⟩⟩))
     go_meet
     case rel => exact ⟨_, (!t124), (by first | rfl | (simp; done) | (simp [*]; done)), H', ⟨by first | omega | exact Nat.le_refl _⟩, ⟨bk_ BK121⟩, ⟨(bw_ w)⟩⟩
   ·replace c7 := Bool.eq_false_iff.mpr c7
    subst c7
    have H1 : (impl_IsShop.j0 k true a0_0 a0_1 l0_2 a0_3) = some r := by rw [if_neg (show ¬ (false = true) by decide)] at H; exact H
    clear H
    have H := H1
    clear H1
    have H' := Aside0.mk H
    clear H
    obtain ⟨hcz12_0, hcz12_1, hcz12_2, hcz12_3, hfz12_0, hfz12_1, hfz12_2, hfz12_3⟩ := bc4_ (w := w3) BK121
    go_wp2_with (first | ((with_reducible refine gate_callee (f := 75) rfl ?_); refine goesB (some 7) Try.func75 #[.int .i64 a0_0] ?_; (with_reducible refine (impl_isDay.calls a0_0 true _ A4.out).mono ?_); rintro e w' ⟨rfl, ⟨nd, rfl⟩⟩; refine ⟨_, rfl, ?_⟩) | (go_at_call 76; (with_reducible refine (impl_in.calls a0_1 1 4 false _ A6.out).mono ?_); rintro e w' ⟨rfl, ⟨nd, rfl⟩⟩))
    go_meet
    case rel => exact ⟨_, (true), (by first | rfl | (simp; done) | (simp [*]; done)), H', ⟨by first | omega | exact Nat.le_refl _⟩, ⟨bk_ BK121⟩, ⟨(bw_ w)⟩⟩
  ·replace c5 := Bool.eq_false_iff.mpr c5
   subst c5
   have H1 : (impl_IsShop.j0 k true a0_0 a0_1 l0_2 a0_3) = some r := by rw [if_neg (show ¬ (false = true) by decide)] at H; exact H
   clear H
   have H := H1
   clear H1
   have H' := Aside0.mk H
   clear H
   obtain ⟨hcz13_0, hcz13_1, hcz13_2, hcz13_3, hfz13_0, hfz13_1, hfz13_2, hfz13_3⟩ := bc4_ (w := w3) BK121
   go_wp2_with (first | ((with_reducible refine gate_callee (f := 75) rfl ?_); refine goesB (some 7) Try.func75 #[.int .i64 a0_0] ?_; (with_reducible refine (impl_isDay.calls a0_0 false _ A4.out).mono ?_); rintro e w' ⟨rfl, ⟨nd, rfl⟩⟩; refine ⟨_, rfl, ?_⟩))
   go_meet
   case rel => exact ⟨_, (true), (by first | rfl | (simp; done) | (simp [*]; done)), H', ⟨by first | omega | exact Nat.le_refl _⟩, ⟨bk_ BK121⟩, ⟨(bw_ w)⟩⟩
 case rest =>
  clear HC2
  try clear c2
  try clear p2
  try clear c5
  try clear c7
  try clear c8
  try clear c8b0
  try clear c8b1
  try clear hcz11_0
  try clear hcz11_1
  try clear hcz11_2
  try clear hcz11_3
  try clear hcz12_0
  try clear hcz12_1
  try clear hcz12_2
  try clear hcz12_3
  try clear hcz13_0
  try clear hcz13_1
  try clear hcz13_2
  try clear hcz13_3
  try clear hcz9_0
  try clear hcz9_1
  try clear hcz9_2
  try clear hcz9_3
  try clear hfz11_0
  try clear hfz11_1
  try clear hfz11_2
  try clear hfz11_3
  try clear hfz12_0
  try clear hfz12_1
  try clear hfz12_2
  try clear hfz12_3
  try clear hfz13_0
  try clear hfz13_1
  try clear hfz13_2
  try clear hfz13_3
  try clear hfz9_0
  try clear hfz9_1
  try clear hfz9_2
  try clear hfz9_3
  obtain ⟨kq, x26_1, rfl, HA, HJ1, BK121, HB⟩ := hcut
  cases kq with
  | zero => exact absurd HA.out (by simp [impl_IsShop.j0])
  | succ kj1 =>
   have H := HA.out
   clear HA
   simp only [impl_IsShop.j0] at H
   by_cases c14 : x26_1 = true
   ·subst c14
    have H1 : (some false) = some r := by rw [if_pos rfl] at H; exact H
    clear H
    have H := H1
    clear H1
    obtain rfl := Option.some.inj H
    go_wp2
    go_ret
    exact ⟨by first | rfl | (simp [errW_none, errW_some] <;> rfl) | (simp [*, errW_none, errW_some] <;> rfl), (bw_ w)⟩
   ·replace c14 := Bool.eq_false_iff.mpr c14
    subst c14
    have H1 : (impl_IsShop.l0 kj1 l0_2 (l0_2.length : Int) 0 a0_0 a0_1 l0_2 a0_3) = some r := by rw [if_neg (show ¬ (false = true) by decide)] at H; exact H
    clear H
    have H := H1
    clear H1
    have H' := Aside0.mk H
    clear H
    obtain ⟨hcz15_0, hcz15_1, hcz15_2, hcz15_3, hfz15_0, hfz15_1, hfz15_2, hfz15_3⟩ := bc4_ (w := wc) BK121
    go_wp2
    go_loopg [30] kj1 (fun kq v30 w' => ∃ (x30_2 : Int), v30 = .int .i64 x30_2 ∧ Aside0 (impl_IsShop.l0 kq l0_2 (l0_2.length : Int) x30_2 a0_0 a0_1 l0_2 a0_3 = some r) ∧ Aside0 (kq ≤ kj1) ∧ Aside0 (w'.heap[gb121]? = some (.cells #[.int .i64 a0_0, .int .i64 a0_1, (.slice A0_2 l0_2.length c0_2), .int .i64 a0_3] 24 (0, 0))) ∧ Aside0 (Below w.heap.size w w'))
    case atStart => exact ⟨(0), (by first | rfl | (simp; done) | (simp [*]; done)), H', ⟨Nat.le_refl _⟩, ⟨bk_ BK121⟩, ⟨(bw_ w)⟩⟩
    case round =>
     clear H'
     try clear c1
     try clear c2
     try clear p2
     try clear c5
     try clear c7
     try clear c8
     try clear c8b0
     try clear c8b1
     try clear c14
     try clear hcz11_0
     try clear hcz11_1
     try clear hcz11_2
     try clear hcz11_3
     try clear hcz12_0
     try clear hcz12_1
     try clear hcz12_2
     try clear hcz12_3
     try clear hcz13_0
     try clear hcz13_1
     try clear hcz13_2
     try clear hcz13_3
     try clear hcz15_0
     try clear hcz15_1
     try clear hcz15_2
     try clear hcz15_3
     try clear hcz9_0
     try clear hcz9_1
     try clear hcz9_2
     try clear hcz9_3
     try clear hfz11_0
     try clear hfz11_1
     try clear hfz11_2
     try clear hfz11_3
     try clear hfz12_0
     try clear hfz12_1
     try clear hfz12_2
     try clear hfz12_3
     try clear hfz13_0
     try clear hfz13_1
     try clear hfz13_2
     try clear hfz13_3
     try clear hfz15_0
     try clear hfz15_1
     try clear hfz15_2
     try clear hfz15_3
     try clear hfz9_0
     try clear hfz9_1
     try clear hfz9_2
     try clear hfz9_3
     try clear p2
     obtain ⟨x30_2, rfl, HA, HK2, BK121, HB⟩ := hrel
     cases gk with
     | zero => exact absurd HA.out (by simp [impl_IsShop.l0])
     | succ k2 =>
      have H := HA.out
      clear HA
      simp only [impl_IsShop.l0] at H
      by_cases c16 : x30_2 < (l0_2.length : Int)
      ·rw [if_pos c16] at H
       have c16b0 : decide (x30_2 < (l0_2.length : Int)) = true := decide_eq_true c16
       clear c16
       by_cases c17 : 0 ≤ x30_2
       ·rw [if_pos c17] at H
        have c17b0 : decide (0 ≤ x30_2) = true := decide_eq_true c17
        clear c17
        by_cases c18 : x30_2 < (l0_2.length : Int)
        ·rw [if_pos c18] at H
         have c18b0 : decide (x30_2 < (l0_2.length : Int)) = true := decide_eq_true c18
         clear c18
         replace H := Option.bind_eq_some_iff.mp H
         obtain ⟨t127, A190, H⟩ := H
         replace H : (if t127 = true then (if ((rd_T34 l0_2 x30_2).f2) = 1 then ((impl_Shop_onLoom.f k2 a0_0 a0_1 l0_2 a0_3 ((rd_T34 l0_2 x30_2).f3)).bind fun t128 => (if t128 = x30_2 then (impl_IsShop.l0 k2 l0_2 (l0_2.length : Int) (wrap64 (x30_2 + 1)) a0_0 a0_1 l0_2 a0_3) else (some false))) else (impl_IsShop.l0 k2 l0_2 (l0_2.length : Int) (wrap64 (x30_2 + 1)) a0_0 a0_1 l0_2 a0_3)) else (some false)) = some r := H
         have A19 := Aside0.mk A190
         clear A190
         by_cases c20 : t127 = true
         ·subst c20
          have H1 : (if ((rd_T34 l0_2 x30_2).f2) = 1 then ((impl_Shop_onLoom.f k2 a0_0 a0_1 l0_2 a0_3 ((rd_T34 l0_2 x30_2).f3)).bind fun t128 => (if t128 = x30_2 then (impl_IsShop.l0 k2 l0_2 (l0_2.length : Int) (wrap64 (x30_2 + 1)) a0_0 a0_1 l0_2 a0_3) else (some false))) else (impl_IsShop.l0 k2 l0_2 (l0_2.length : Int) (wrap64 (x30_2 + 1)) a0_0 a0_1 l0_2 a0_3)) = some r := by rw [if_pos rfl] at H; exact H
          clear H
          have H := H1
          clear H1
          by_cases c21 : ((rd_T34 l0_2 x30_2).f2) = 1
          ·rw [if_pos c21] at H
           have c21b0 : (((rd_T34 l0_2 x30_2).f2) == 1) = true := beq_iff_eq.mpr c21
           have c21b1 : (((rd_T34 l0_2 x30_2).f2) != 1) = false := bne_eq_false_iff_eq.mpr c21
           clear c21
           replace H := Option.bind_eq_some_iff.mp H
           obtain ⟨t128, A220, H⟩ := H
           replace H : (if t128 = x30_2 then (impl_IsShop.l0 k2 l0_2 (l0_2.length : Int) (wrap64 (x30_2 + 1)) a0_0 a0_1 l0_2 a0_3) else (some false)) = some r := H
           have A22 := Aside0.mk A220
           clear A220
           by_cases c23 : t128 = x30_2
           ·rw [if_pos c23] at H
            have c23b0 : (t128 == x30_2) = true := beq_iff_eq.mpr c23
            have c23b1 : (t128 != x30_2) = false := bne_eq_false_iff_eq.mpr c23
            clear c23
            have H' := Aside0.mk H
            clear H
            have p125 : 0 ≤ (x30_2 : Int) := of_decide_eq_true (by first | (with_reducible assumption) | assumption)
            have q125 : x30_2 < (l0_2.length : Int) := of_decide_eq_true (by first | (with_reducible assumption) | assumption)
            obtain ⟨ad125, e125, hx125_0, hx125_1, hx125_2, hx125_3, hx125_4⟩ := at_T34 HR0_2.out x30_2 p125 q125
            cases e125
            replace hx125_0 := (HB.out.cell (World.block_lt_of_cell? w _ hx125_0)).trans hx125_0
            replace hx125_1 := (HB.out.cell (World.block_lt_of_cell? w _ hx125_1)).trans hx125_1
            replace hx125_2 := (HB.out.cell (World.block_lt_of_cell? w _ hx125_2)).trans hx125_2
            replace hx125_3 := (HB.out.cell (World.block_lt_of_cell? w _ hx125_3)).trans hx125_3
            replace hx125_4 := (HB.out.cell (World.block_lt_of_cell? w _ hx125_4)).trans hx125_4
            replace p125 := eq_true p125
            replace q125 := eq_true q125
            go_wp2_with (first | ((with_reducible refine gate_dst (N := 4) rfl ?_); refine box_ (N := 4) (cs := #[.int .i64 0, .int .i64 0, .int .i64 0, .int .i64 0, .int .i64 0]) (t := 34) ?_; intro gb126 hg w24 hbox hb; have n0_ := bb_ BK121 hb; have n1_ := Aside0.mk (below_step (bw_ w) hb); have n2_ := Aside0.mk (hbox); have n3_ := gz_ w hg; have n4_ := gz_ w hg; have n5_ := ne_ hg BK121; have n6_ := en_ hg BK121; clear BK121; clear HB; have BK121 := n0_; have HB := n1_; have BK126 := n2_; have GW126 := n3_; have GE126 := n4_; have NB121_126 := n5_; have NB126_121 := n6_; clear n0_ n1_ n2_ n3_ n4_ n5_ n6_; clear hb hbox hg; have hnb25 := NB126_121.out; have hnc25 := NB121_126.out; obtain ⟨hcz26_0, hcz26_1, hcz26_2, hcz26_3, hcz26_4, hfz26_0, hfz26_1, hfz26_2, hfz26_3, hfz26_4⟩ := bc5_ (w := w24) BK126) | ((with_reducible refine gate_store (t := 34) (p := 4) rfl ?_); refine store_event (t := 34) (p := 4) (v := ?vo_w27) (w1 := (((((w24.setCell ⟨gb126, 0, none⟩ (.int .i64 ((rd_T34 l0_2 x30_2).f0))).setCell ⟨gb126, 1, none⟩ (.int .i64 ((rd_T34 l0_2 x30_2).f1))).setCell ⟨gb126, 2, none⟩ (.int .i64 ((rd_T34 l0_2 x30_2).f2))).setCell ⟨gb126, 3, none⟩ (.int .i64 ((rd_T34 l0_2 x30_2).f3))).setCell ⟨gb126, 4, none⟩ (.int .i64 ((rd_T34 l0_2 x30_2).f4)))) ?hg ?ho ?hn ?hr ?_; (case ho => rfl); (case hg => rfl); (case hn => rfl); (case hr => first | (go_simp; done) | (go_simp; rfl)); intro w27 hw; have n0_ : Aside0 (w27.heap[gb121]? = some (.cells #[.int .i64 a0_0, .int .i64 a0_1, .slice (some ad125) l0_2.length c0_2, .int .i64 a0_3] 24 (0, 0))) := ⟨(by rw [hw]; exact (bk_ BK121))⟩; have n1_ : Aside0 (w27.heap[gb126]? = some (.cells #[.int .i64 ((rd_T34 l0_2 x30_2).f0), .int .i64 ((rd_T34 l0_2 x30_2).f1), .int .i64 ((rd_T34 l0_2 x30_2).f2), .int .i64 ((rd_T34 l0_2 x30_2).f3), .int .i64 ((rd_T34 l0_2 x30_2).f4)] 34 (0, 0))) := ⟨(by rw [hw]; exact (bq_ BK126))⟩; have n2_ : Aside0 (Below w.heap.size w w27) := ⟨(by rw [hw]; exact (bw_ w))⟩; clear hw; clear BK121; clear BK126; clear HB; have BK121 := n0_; have BK126 := n1_; have HB := n2_; clear n0_ n1_ n2_; obtain ⟨hcz28_0, hcz28_1, hcz28_2, hcz28_3, hfz28_0, hfz28_1, hfz28_2, hfz28_3⟩ := bc4_ (w := w27) BK121; obtain ⟨hcz29_0, hcz29_1, hcz29_2, hcz29_3, hcz29_4, hfz29_0, hfz29_1, hfz29_2, hfz29_3, hfz29_4⟩ := bc5_ (w := w27) BK126) | ((with_reducible refine gate_callee (f := 77) rfl ?_); refine goesB (some 37) Try.func77 #[.agg #[.int .i64 a0_0, .int .i64 a0_1, .slice (some ad125) l0_2.length c0_2, .int .i64 a0_3], .agg #[.int .i64 ((rd_T34 l0_2 x30_2).f0), .int .i64 ((rd_T34 l0_2 x30_2).f1), .int .i64 ((rd_T34 l0_2 x30_2).f2), .int .i64 ((rd_T34 l0_2 x30_2).f3), .int .i64 ((rd_T34 l0_2 x30_2).f4)]] ?_; (with_reducible refine (impl_Shop_isCarpet.calls k2 a0_0 a0_1 _ _ l0_2 a0_3 ((rd_T34 l0_2 x30_2).f0) ((rd_T34 l0_2 x30_2).f1) ((rd_T34 l0_2 x30_2).f2) ((rd_T34 l0_2 x30_2).f3) ((rd_T34 l0_2 x30_2).f4) true _ ?side1 ?side2 A19.out).mono ?_); (case side1 => exact cb_ HR0_2 HB); (case side2 => exact HC0_2.out); rintro e w30 ⟨rfl, hb⟩; refine ⟨_, rfl, ?_⟩; replace BK121 := bb_ BK121 hb; replace BK126 := bb_ BK126 hb; replace HB := Aside0.mk (below_step (bw_ w) hb); (try clear hb); (try clear hb2); (try clear hk); (try clear hi); obtain ⟨hcz31_0, hcz31_1, hcz31_2, hcz31_3, hcz31_4, hfz31_0, hfz31_1, hfz31_2, hfz31_3, hfz31_4⟩ := bc5_ (w := w30) BK126; obtain ⟨hcz32_0, hcz32_1, hcz32_2, hcz32_3, hfz32_0, hfz32_1, hfz32_2, hfz32_3⟩ := bc4_ (w := w30) BK121) | (go_at_call 78; (with_reducible refine (impl_Shop_onLoom.calls k2 a0_0 a0_1 _ _ l0_2 a0_3 ((rd_T34 l0_2 x30_2).f3) t128 _ ?side1 ?side2 A22.out).mono ?_); (case side1 => exact cb_ HR0_2 HB); (case side2 => exact HC0_2.out); rintro e w33 ⟨rfl, hb⟩; replace BK121 := bb_ BK121 hb; replace BK126 := bb_ BK126 hb; replace HB := Aside0.mk (below_step (bw_ w) hb); (try clear hb); (try clear hb2); (try clear hk); (try clear hi)))
            go_roundg k2
            case measure => have := HJ1.out; have := HK2.out; omega
            case rel => exact ⟨(wrap64 (x30_2 + 1)), (by first | rfl | (simp; done) | (simp [*]; done)), H', ⟨by have := HJ1.out; have := HK2.out; omega⟩, ⟨bk_ BK121⟩, ⟨(bw_ w)⟩⟩
           ·rw [if_neg c23] at H
            have c23b0 : (t128 == x30_2) = false := beq_eq_false_iff_ne.mpr c23
            have c23b1 : (t128 != x30_2) = true := bne_iff_ne.mpr c23
            obtain rfl := Option.some.inj H
            have p125 : 0 ≤ (x30_2 : Int) := of_decide_eq_true (by first | (with_reducible assumption) | assumption)
            have q125 : x30_2 < (l0_2.length : Int) := of_decide_eq_true (by first | (with_reducible assumption) | assumption)
            obtain ⟨ad125, e125, hx125_0, hx125_1, hx125_2, hx125_3, hx125_4⟩ := at_T34 HR0_2.out x30_2 p125 q125
            cases e125
            replace hx125_0 := (HB.out.cell (World.block_lt_of_cell? w _ hx125_0)).trans hx125_0
            replace hx125_1 := (HB.out.cell (World.block_lt_of_cell? w _ hx125_1)).trans hx125_1
            replace hx125_2 := (HB.out.cell (World.block_lt_of_cell? w _ hx125_2)).trans hx125_2
            replace hx125_3 := (HB.out.cell (World.block_lt_of_cell? w _ hx125_3)).trans hx125_3
            replace hx125_4 := (HB.out.cell (World.block_lt_of_cell? w _ hx125_4)).trans hx125_4
            replace p125 := eq_true p125
            replace q125 := eq_true q125
            go_wp2_with (first | ((with_reducible refine gate_dst (N := 4) rfl ?_); refine box_ (N := 4) (cs := #[.int .i64 0, .int .i64 0, .int .i64 0, .int .i64 0, .int .i64 0]) (t := 34) ?_; intro gb126 hg w34 hbox hb; have n0_ := bb_ BK121 hb; have n1_ := Aside0.mk (below_step (bw_ w) hb); have n2_ := Aside0.mk (hbox); have n3_ := gz_ w hg; have n4_ := gz_ w hg; have n5_ := ne_ hg BK121; have n6_ := en_ hg BK121; clear BK121; clear HB; have BK121 := n0_; have HB := n1_; have BK126 := n2_; have GW126 := n3_; have GE126 := n4_; have NB121_126 := n5_; have NB126_121 := n6_; clear n0_ n1_ n2_ n3_ n4_ n5_ n6_; clear hb hbox hg; have hnb35 := NB126_121.out; have hnc35 := NB121_126.out; obtain ⟨hcz36_0, hcz36_1, hcz36_2, hcz36_3, hcz36_4, hfz36_0, hfz36_1, hfz36_2, hfz36_3, hfz36_4⟩ := bc5_ (w := w34) BK126) | ((with_reducible refine gate_store (t := 34) (p := 4) rfl ?_); refine store_event (t := 34) (p := 4) (v := ?vo_w37) (w1 := (((((w34.setCell ⟨gb126, 0, none⟩ (.int .i64 ((rd_T34 l0_2 x30_2).f0))).setCell ⟨gb126, 1, none⟩ (.int .i64 ((rd_T34 l0_2 x30_2).f1))).setCell ⟨gb126, 2, none⟩ (.int .i64 ((rd_T34 l0_2 x30_2).f2))).setCell ⟨gb126, 3, none⟩ (.int .i64 ((rd_T34 l0_2 x30_2).f3))).setCell ⟨gb126, 4, none⟩ (.int .i64 ((rd_T34 l0_2 x30_2).f4)))) ?hg ?ho ?hn ?hr ?_; (case ho => rfl); (case hg => rfl); (case hn => rfl); (case hr => first | (go_simp; done) | (go_simp; rfl)); intro w37 hw; have n0_ : Aside0 (w37.heap[gb121]? = some (.cells #[.int .i64 a0_0, .int .i64 a0_1, .slice (some ad125) l0_2.length c0_2, .int .i64 a0_3] 24 (0, 0))) := ⟨(by rw [hw]; exact (bk_ BK121))⟩; have n1_ : Aside0 (w37.heap[gb126]? = some (.cells #[.int .i64 ((rd_T34 l0_2 x30_2).f0), .int .i64 ((rd_T34 l0_2 x30_2).f1), .int .i64 ((rd_T34 l0_2 x30_2).f2), .int .i64 ((rd_T34 l0_2 x30_2).f3), .int .i64 ((rd_T34 l0_2 x30_2).f4)] 34 (0, 0))) := ⟨(by rw [hw]; exact (bq_ BK126))⟩; have n2_ : Aside0 (Below w.heap.size w w37) := ⟨(by rw [hw]; exact (bw_ w))⟩; clear hw; clear BK121; clear BK126; clear HB; have BK121 := n0_; have BK126 := n1_; have HB := n2_; clear n0_ n1_ n2_; obtain ⟨hcz38_0, hcz38_1, hcz38_2, hcz38_3, hfz38_0, hfz38_1, hfz38_2, hfz38_3⟩ := bc4_ (w := w37) BK121; obtain ⟨hcz39_0, hcz39_1, hcz39_2, hcz39_3, hcz39_4, hfz39_0, hfz39_1, hfz39_2, hfz39_3, hfz39_4⟩ := bc5_ (w := w37) BK126) | ((with_reducible refine gate_callee (f := 77) rfl ?_); refine goesB (some 37) Try.func77 #[.agg #[.int .i64 a0_0, .int .i64 a0_1, .slice (some ad125) l0_2.length c0_2, .int .i64 a0_3], .agg #[.int .i64 ((rd_T34 l0_2 x30_2).f0), .int .i64 ((rd_T34 l0_2 x30_2).f1), .int .i64 ((rd_T34 l0_2 x30_2).f2), .int .i64 ((rd_T34 l0_2 x30_2).f3), .int .i64 ((rd_T34 l0_2 x30_2).f4)]] ?_; (with_reducible refine (impl_Shop_isCarpet.calls k2 a0_0 a0_1 _ _ l0_2 a0_3 ((rd_T34 l0_2 x30_2).f0) ((rd_T34 l0_2 x30_2).f1) ((rd_T34 l0_2 x30_2).f2) ((rd_T34 l0_2 x30_2).f3) ((rd_T34 l0_2 x30_2).f4) true _ ?side1 ?side2 A19.out).mono ?_); (case side1 => exact cb_ HR0_2 HB); (case side2 => exact HC0_2.out); rintro e w40 ⟨rfl, hb⟩; refine ⟨_, rfl, ?_⟩; replace BK121 := bb_ BK121 hb; replace BK126 := bb_ BK126 hb; replace HB := Aside0.mk (below_step (bw_ w) hb); (try clear hb); (try clear hb2); (try clear hk); (try clear hi); obtain ⟨hcz41_0, hcz41_1, hcz41_2, hcz41_3, hcz41_4, hfz41_0, hfz41_1, hfz41_2, hfz41_3, hfz41_4⟩ := bc5_ (w := w40) BK126; obtain ⟨hcz42_0, hcz42_1, hcz42_2, hcz42_3, hfz42_0, hfz42_1, hfz42_2, hfz42_3⟩ := bc4_ (w := w40) BK121) | (go_at_call 78; (with_reducible refine (impl_Shop_onLoom.calls k2 a0_0 a0_1 _ _ l0_2 a0_3 ((rd_T34 l0_2 x30_2).f3) t128 _ ?side1 ?side2 A22.out).mono ?_); (case side1 => exact cb_ HR0_2 HB); (case side2 => exact HC0_2.out); rintro e w43 ⟨rfl, hb⟩; replace BK121 := bb_ BK121 hb; replace BK126 := bb_ BK126 hb; replace HB := Aside0.mk (below_step (bw_ w) hb); (try clear hb); (try clear hb2); (try clear hk); (try clear hi)))
            go_ret
            exact ⟨by first | rfl | (simp [errW_none, errW_some] <;> rfl) | (simp [*, errW_none, errW_some] <;> rfl), (bw_ w)⟩
          ·rw [if_neg c21] at H
           have c21b0 : (((rd_T34 l0_2 x30_2).f2) == 1) = false := beq_eq_false_iff_ne.mpr c21
           have c21b1 : (((rd_T34 l0_2 x30_2).f2) != 1) = true := bne_iff_ne.mpr c21
           have H' := Aside0.mk H
           clear H
           have p125 : 0 ≤ (x30_2 : Int) := of_decide_eq_true (by first | (with_reducible assumption) | assumption)
           have q125 : x30_2 < (l0_2.length : Int) := of_decide_eq_true (by first | (with_reducible assumption) | assumption)
           obtain ⟨ad125, e125, hx125_0, hx125_1, hx125_2, hx125_3, hx125_4⟩ := at_T34 HR0_2.out x30_2 p125 q125
           cases e125
           replace hx125_0 := (HB.out.cell (World.block_lt_of_cell? w _ hx125_0)).trans hx125_0
           replace hx125_1 := (HB.out.cell (World.block_lt_of_cell? w _ hx125_1)).trans hx125_1
           replace hx125_2 := (HB.out.cell (World.block_lt_of_cell? w _ hx125_2)).trans hx125_2
           replace hx125_3 := (HB.out.cell (World.block_lt_of_cell? w _ hx125_3)).trans hx125_3
           replace hx125_4 := (HB.out.cell (World.block_lt_of_cell? w _ hx125_4)).trans hx125_4
           replace p125 := eq_true p125
           replace q125 := eq_true q125
           go_wp2_with (first | ((with_reducible refine gate_dst (N := 4) rfl ?_); refine box_ (N := 4) (cs := #[.int .i64 0, .int .i64 0, .int .i64 0, .int .i64 0, .int .i64 0]) (t := 34) ?_; intro gb126 hg w44 hbox hb; have n0_ := bb_ BK121 hb; have n1_ := Aside0.mk (below_step (bw_ w) hb); have n2_ := Aside0.mk (hbox); have n3_ := gz_ w hg; have n4_ := gz_ w hg; have n5_ := ne_ hg BK121; have n6_ := en_ hg BK121; clear BK121; clear HB; have BK121 := n0_; have HB := n1_; have BK126 := n2_; have GW126 := n3_; have GE126 := n4_; have NB121_126 := n5_; have NB126_121 := n6_; clear n0_ n1_ n2_ n3_ n4_ n5_ n6_; clear hb hbox hg; have hnb45 := NB126_121.out; have hnc45 := NB121_126.out; obtain ⟨hcz46_0, hcz46_1, hcz46_2, hcz46_3, hcz46_4, hfz46_0, hfz46_1, hfz46_2, hfz46_3, hfz46_4⟩ := bc5_ (w := w44) BK126) | ((with_reducible refine gate_store (t := 34) (p := 4) rfl ?_); refine store_event (t := 34) (p := 4) (v := ?vo_w47) (w1 := (((((w44.setCell ⟨gb126, 0, none⟩ (.int .i64 ((rd_T34 l0_2 x30_2).f0))).setCell ⟨gb126, 1, none⟩ (.int .i64 ((rd_T34 l0_2 x30_2).f1))).setCell ⟨gb126, 2, none⟩ (.int .i64 ((rd_T34 l0_2 x30_2).f2))).setCell ⟨gb126, 3, none⟩ (.int .i64 ((rd_T34 l0_2 x30_2).f3))).setCell ⟨gb126, 4, none⟩ (.int .i64 ((rd_T34 l0_2 x30_2).f4)))) ?hg ?ho ?hn ?hr ?_; (case ho => rfl); (case hg => rfl); (case hn => rfl); (case hr => first | (go_simp; done) | (go_simp; rfl)); intro w47 hw; have n0_ : Aside0 (w47.heap[gb121]? = some (.cells #[.int .i64 a0_0, .int .i64 a0_1, .slice (some ad125) l0_2.length c0_2, .int .i64 a0_3] 24 (0, 0))) := ⟨(by rw [hw]; exact (bk_ BK121))⟩; have n1_ : Aside0 (w47.heap[gb126]? = some (.cells #[.int .i64 ((rd_T34 l0_2 x30_2).f0), .int .i64 ((rd_T34 l0_2 x30_2).f1), .int .i64 ((rd_T34 l0_2 x30_2).f2), .int .i64 ((rd_T34 l0_2 x30_2).f3), .int .i64 ((rd_T34 l0_2 x30_2).f4)] 34 (0, 0))) := ⟨(by rw [hw]; exact (bq_ BK126))⟩; have n2_ : Aside0 (Below w.heap.size w w47) := ⟨(by rw [hw]; exact (bw_ w))⟩; clear hw; clear BK121; clear BK126; clear HB; have BK121 := n0_; have BK126 := n1_; have HB := n2_; clear n0_ n1_ n2_; obtain ⟨hcz48_0, hcz48_1, hcz48_2, hcz48_3, hfz48_0, hfz48_1, hfz48_2, hfz48_3⟩ := bc4_ (w := w47) BK121; obtain ⟨hcz49_0, hcz49_1, hcz49_2, hcz49_3, hcz49_4, hfz49_0, hfz49_1, hfz49_2, hfz49_3, hfz49_4⟩ := bc5_ (w := w47) BK126) | ((with_reducible refine gate_callee (f := 77) rfl ?_); refine goesB (some 37) Try.func77 #[.agg #[.int .i64 a0_0, .int .i64 a0_1, .slice (some ad125) l0_2.length c0_2, .int .i64 a0_3], .agg #[.int .i64 ((rd_T34 l0_2 x30_2).f0), .int .i64 ((rd_T34 l0_2 x30_2).f1), .int .i64 ((rd_T34 l0_2 x30_2).f2), .int .i64 ((rd_T34 l0_2 x30_2).f3), .int .i64 ((rd_T34 l0_2 x30_2).f4)]] ?_; (with_reducible refine (impl_Shop_isCarpet.calls k2 a0_0 a0_1 _ _ l0_2 a0_3 ((rd_T34 l0_2 x30_2).f0) ((rd_T34 l0_2 x30_2).f1) ((rd_T34 l0_2 x30_2).f2) ((rd_T34 l0_2 x30_2).f3) ((rd_T34 l0_2 x30_2).f4) true _ ?side1 ?side2 A19.out).mono ?_); (case side1 => exact cb_ HR0_2 HB); (case side2 => exact HC0_2.out); rintro e w50 ⟨rfl, hb⟩; refine ⟨_, rfl, ?_⟩; replace BK121 := bb_ BK121 hb; replace BK126 := bb_ BK126 hb; replace HB := Aside0.mk (below_step (bw_ w) hb); (try clear hb); (try clear hb2); (try clear hk); (try clear hi); obtain ⟨hcz51_0, hcz51_1, hcz51_2, hcz51_3, hcz51_4, hfz51_0, hfz51_1, hfz51_2, hfz51_3, hfz51_4⟩ := bc5_ (w := w50) BK126))
           go_roundg k2
           case measure => have := HJ1.out; have := HK2.out; omega
           case rel => exact ⟨(wrap64 (x30_2 + 1)), (by first | rfl | (simp; done) | (simp [*]; done)), H', ⟨by have := HJ1.out; have := HK2.out; omega⟩, ⟨bk_ BK121⟩, ⟨(bw_ w)⟩⟩
         ·replace c20 := Bool.eq_false_iff.mpr c20
          subst c20
          have H1 : (some false) = some r := by rw [if_neg (show ¬ (false = true) by decide)] at H; exact H
          clear H
          have H := H1
          clear H1
          obtain rfl := Option.some.inj H
          have p125 : 0 ≤ (x30_2 : Int) := of_decide_eq_true (by first | (with_reducible assumption) | assumption)
          have q125 : x30_2 < (l0_2.length : Int) := of_decide_eq_true (by first | (with_reducible assumption) | assumption)
          obtain ⟨ad125, e125, hx125_0, hx125_1, hx125_2, hx125_3, hx125_4⟩ := at_T34 HR0_2.out x30_2 p125 q125
          cases e125
          replace hx125_0 := (HB.out.cell (World.block_lt_of_cell? w _ hx125_0)).trans hx125_0
          replace hx125_1 := (HB.out.cell (World.block_lt_of_cell? w _ hx125_1)).trans hx125_1
          replace hx125_2 := (HB.out.cell (World.block_lt_of_cell? w _ hx125_2)).trans hx125_2
          replace hx125_3 := (HB.out.cell (World.block_lt_of_cell? w _ hx125_3)).trans hx125_3
          replace hx125_4 := (HB.out.cell (World.block_lt_of_cell? w _ hx125_4)).trans hx125_4
          replace p125 := eq_true p125
          replace q125 := eq_true q125
          go_wp2_with (first | ((with_reducible refine gate_dst (N := 4) rfl ?_); refine box_ (N := 4) (cs := #[.int .i64 0, .int .i64 0, .int .i64 0, .int .i64 0, .int .i64 0]) (t := 34) ?_; intro gb126 hg w52 hbox hb; have n0_ := bb_ BK121 hb; have n1_ := Aside0.mk (below_step (bw_ w) hb); have n2_ := Aside0.mk (hbox); have n3_ := gz_ w hg; have n4_ := gz_ w hg; have n5_ := ne_ hg BK121; have n6_ := en_ hg BK121; clear BK121; clear HB; have BK121 := n0_; have HB := n1_; have BK126 := n2_; have GW126 := n3_; have GE126 := n4_; have NB121_126 := n5_; have NB126_121 := n6_; clear n0_ n1_ n2_ n3_ n4_ n5_ n6_; clear hb hbox hg; have hnb53 := NB126_121.out; have hnc53 := NB121_126.out; obtain ⟨hcz54_0, hcz54_1, hcz54_2, hcz54_3, hcz54_4, hfz54_0, hfz54_1, hfz54_2, hfz54_3, hfz54_4⟩ := bc5_ (w := w52) BK126) | ((with_reducible refine gate_store (t := 34) (p := 4) rfl ?_); refine store_event (t := 34) (p := 4) (v := ?vo_w55) (w1 := (((((w52.setCell ⟨gb126, 0, none⟩ (.int .i64 ((rd_T34 l0_2 x30_2).f0))).setCell ⟨gb126, 1, none⟩ (.int .i64 ((rd_T34 l0_2 x30_2).f1))).setCell ⟨gb126, 2, none⟩ (.int .i64 ((rd_T34 l0_2 x30_2).f2))).setCell ⟨gb126, 3, none⟩ (.int .i64 ((rd_T34 l0_2 x30_2).f3))).setCell ⟨gb126, 4, none⟩ (.int .i64 ((rd_T34 l0_2 x30_2).f4)))) ?hg ?ho ?hn ?hr ?_; (case ho => rfl); (case hg => rfl); (case hn => rfl); (case hr => first | (go_simp; done) | (go_simp; rfl)); intro w55 hw; have n0_ : Aside0 (w55.heap[gb121]? = some (.cells #[.int .i64 a0_0, .int .i64 a0_1, .slice (some ad125) l0_2.length c0_2, .int .i64 a0_3] 24 (0, 0))) := ⟨(by rw [hw]; exact (bk_ BK121))⟩; have n1_ : Aside0 (w55.heap[gb126]? = some (.cells #[.int .i64 ((rd_T34 l0_2 x30_2).f0), .int .i64 ((rd_T34 l0_2 x30_2).f1), .int .i64 ((rd_T34 l0_2 x30_2).f2), .int .i64 ((rd_T34 l0_2 x30_2).f3), .int .i64 ((rd_T34 l0_2 x30_2).f4)] 34 (0, 0))) := ⟨(by rw [hw]; exact (bq_ BK126))⟩; have n2_ : Aside0 (Below w.heap.size w w55) := ⟨(by rw [hw]; exact (bw_ w))⟩; clear hw; clear BK121; clear BK126; clear HB; have BK121 := n0_; have BK126 := n1_; have HB := n2_; clear n0_ n1_ n2_; obtain ⟨hcz56_0, hcz56_1, hcz56_2, hcz56_3, hfz56_0, hfz56_1, hfz56_2, hfz56_3⟩ := bc4_ (w := w55) BK121; obtain ⟨hcz57_0, hcz57_1, hcz57_2, hcz57_3, hcz57_4, hfz57_0, hfz57_1, hfz57_2, hfz57_3, hfz57_4⟩ := bc5_ (w := w55) BK126) | ((with_reducible refine gate_callee (f := 77) rfl ?_); refine goesB (some 37) Try.func77 #[.agg #[.int .i64 a0_0, .int .i64 a0_1, .slice (some ad125) l0_2.length c0_2, .int .i64 a0_3], .agg #[.int .i64 ((rd_T34 l0_2 x30_2).f0), .int .i64 ((rd_T34 l0_2 x30_2).f1), .int .i64 ((rd_T34 l0_2 x30_2).f2), .int .i64 ((rd_T34 l0_2 x30_2).f3), .int .i64 ((rd_T34 l0_2 x30_2).f4)]] ?_; (with_reducible refine (impl_Shop_isCarpet.calls k2 a0_0 a0_1 _ _ l0_2 a0_3 ((rd_T34 l0_2 x30_2).f0) ((rd_T34 l0_2 x30_2).f1) ((rd_T34 l0_2 x30_2).f2) ((rd_T34 l0_2 x30_2).f3) ((rd_T34 l0_2 x30_2).f4) false _ ?side1 ?side2 A19.out).mono ?_); (case side1 => exact cb_ HR0_2 HB); (case side2 => exact HC0_2.out); rintro e w58 ⟨rfl, hb⟩; refine ⟨_, rfl, ?_⟩; replace BK121 := bb_ BK121 hb; replace BK126 := bb_ BK126 hb; replace HB := Aside0.mk (below_step (bw_ w) hb); (try clear hb); (try clear hb2); (try clear hk); (try clear hi)))
          go_ret
          exact ⟨by first | rfl | (simp [errW_none, errW_some] <;> rfl) | (simp [*, errW_none, errW_some] <;> rfl), (bw_ w)⟩
        ·rw [if_neg c18] at H
         exact absurd H (by simp)
       ·rw [if_neg c17] at H
        exact absurd H (by simp)
      ·rw [if_neg c16] at H
       have c16b0 : decide (x30_2 < (l0_2.length : Int)) = false := decide_eq_false c16
       clear c16
       obtain rfl := Option.some.inj H
       go_wp2
       go_ret
       exact ⟨by first | rfl | (simp [errW_none, errW_some] <;> rfl) | (simp [*, errW_none, errW_some] <;> rfl), (bw_ w)⟩

/-! ### impl_Carpet_109: function 109 -/
def impl_Carpet_109.f (l0 : List (S34)) : Option (List (S34)) := if l0.length < 3518437208883 then some l0 else none
set_option maxHeartbeats 8000000 in
set_option maxRecDepth 100000 in
theorem impl_Carpet_109.calls (A0 : Option Addr) (c0 : Nat) (l0 : List (S34)) (r : List (S34)) (w : World) (hr0 : Kd.C k34 w A0 l0.length l0) (hc0 : l0.length ≤ c0) (h : impl_Carpet_109.f l0 = some r) :
    Calls Try.prog 109 #[.slice A0 l0.length c0] w fun e w' => ∃ v0_ : Value, e = .returned (v0_) ∧ Kd.R k34 34 w' w.heap.size (fun _ => True) v0_ r ∧ Below w.heap.size w w' := by
  unfold impl_Carpet_109.f at h
  by_cases hl : l0.length < 3518437208883
  · rw [if_pos hl] at h
    obtain rfl := Option.some.inj h
    have LMc2 := Aside0.mk hl
    clear hl h
    have HB := Aside0.mk (Below.refl w.heap.size w)
    cases A0 with
    | none =>
      have he : l0 = [] := by
        cases l0 with
        | nil => rfl
        | cons x xs => obtain ⟨ad, _, e, _⟩ := Kd.C_get hr0 z34 0 (by omega) (by simp only [List.length]; omega); cases e
      subst he
      clear hr0 hc0 LMc2
      have heq : ∀ (W : World) (n_ c_ : Nat), (binOp .eql 22 (.slice none n_ c_) (.slice none 0 0)).run Try.prog W = .ok (.bool true) W := fun W n_ c_ => Lib.run_eql_slice_nil W 22 34 none n_ c_ 0 0 Try.underlying22
      go_enter Try.func109, Try.ntmps109
      go_wp2
      go_ret
      exact ⟨_, rfl, Kd.R_nil _ _ _ _ _, by repeat (first | (with_reducible first | exact HB.out | apply below_alloc | apply pw_below_drewN | apply below_drew1) | exact HB.out)⟩
    | some a0 =>
      have heq : ∀ (W : World) (n_ c_ : Nat), (binOp .eql 22 (.slice (some a0) n_ c_) (.slice none 0 0)).run Try.prog W = .ok (.bool false) W := fun W n_ c_ => Lib.run_eql_slice_nil W 22 34 (some a0) n_ c_ 0 0 Try.underlying22
      have HR0 := Aside0.mk hr0
      have HC0 := Aside0.mk hc0
      clear hr0 hc0
      go_enter Try.func109, Try.ntmps109
      go_wp2_with (first | ((with_reducible refine gate_dst (N := 5) rfl ?_); refine Kd.R_lit k34 _ 34 ?hg (N := 5) ?hd (xs := ([] : List (S34))) (inner := []) (ok := fun _ => True) (okp := fun _ => True) ?hr ?hp (fun _ hk => hk) trivial (Below.refl _ _) (Nat.le_refl _) (by simp) ?_; (case hd => rfl); (case hg => rfl); (case hr => first | (go_simp; done) | (go_simp; rfl)); (case hp => exact (Reps.none _ _)); intro v111 w3 ho4 hb hg_ hnew_; clear hg_ hnew_; have n0_ := Aside0.mk (Kd.R_lower ho4 (below_size (by repeat (first | (with_reducible first | exact HB.out | apply below_alloc | apply pw_below_drewN | apply below_drew1) | exact HB.out)))); have n1_ := Aside0.mk (below_step (by repeat (first | (with_reducible first | exact HB.out | apply below_alloc | apply pw_below_drewN | apply below_drew1) | exact HB.out)) hb); clear HB; have HO112 := n0_; have HB := n1_; clear n0_ n1_; clear hb ho4) | ((with_reducible refine gate_builtin (b := .append) (xs := #[.tmp 5, .tmp 6]) rfl ?_); at_builtin; refine Kd.R_append_rows k34 (w0 := w) w.heap.size rfl (.tmp 5) (.tmp 6) 22 34 (.agg #[(.int .i64 0), (.int .i64 0), (.int .i64 0), (.int .i64 0), (.int .i64 0)]) 40 rfl Try.underlying22 info34 rfl (by decide) (by omega) v111 [] l0 _ _ _ (fun _ => True) (fun _ => False) rfl rfl ?aO ?aR (fun _ _ h => h) (fun _ h => h.elim) ?aF ?aB ?aS ?aL ?_; (case aR => repeat (first | exact (Kd.C_below HR0.out HB.out) | (with_reducible refine Kd.C_alloc ?_ _) | (with_reducible refine Kd.C_drewN ?_ _) | (with_reducible refine Kd.C_drew ?_))); (case aB => exact (by repeat (first | (with_reducible first | exact HB.out | apply below_alloc | apply pw_below_drewN | apply below_drew1) | exact HB.out))); (case aF => exact (fun _ _ => trivial)); (case aO => exact (by (with_reducible repeat (first | apply Kd.R_alloc | apply Kd.R_drewN | apply Kd.R_drew)); exact HO112.out)); (case aS => exact (below_size (by repeat (first | (with_reducible first | exact HB.out | apply below_alloc | apply pw_below_drewN | apply below_drew1) | exact HB.out)))); (case aL => have := LMc2.out; simp only [List.length_nil]; omega); intro v114 w5 ho hb hg hat; rw [List.nil_append] at ho; have n0_ := Aside0.mk (hb); have n1_ := Aside0.mk (ho); clear HB; clear HO112; have HB := n0_; have HO115 := n1_; clear n0_ n1_; clear ho hb hg hat))
      go_ret
      exact ⟨_, by first | rfl | (simp [errW_none, errW_some] <;> rfl) | (simp [*, errW_none, errW_some] <;> rfl), by (with_reducible repeat (first | apply Kd.R_alloc | apply Kd.R_drewN | apply Kd.R_drew)); exact HO115.out, by repeat (first | (with_reducible first | exact HB.out | apply below_alloc | apply pw_below_drewN | apply below_drew1) | exact HB.out)⟩
  · rw [if_neg hl] at h
    exact absurd h (by simp)

/-! ### impl_Shop_copied: function 61 -/
def impl_Shop_copied.f (a0_0 : Int) (a0_1 : Int) (l0_2 : List (S34)) (a0_3 : Int) : Option (Int × Int × (List (S34)) × Int) := (impl_Carpet_109.f l0_2).bind fun t131 => (some (a0_0, a0_1, t131, a0_3))
set_option maxHeartbeats 8000000 in
set_option maxRecDepth 100000 in
theorem impl_Shop_copied.calls (a0_0 : Int) (a0_1 : Int) (A0_2 : Option Addr) (c0_2 : Nat) (l0_2 : List (S34)) (a0_3 : Int) (r1 : Int) (r2 : Int) (r3 : List (S34)) (r4 : Int) (w : World) (hr0_2 : Kd.C k34 w A0_2 l0_2.length l0_2) (hc0_2 : l0_2.length ≤ c0_2) (h : impl_Shop_copied.f a0_0 a0_1 l0_2 a0_3 = some (r1, r2, r3, r4)) :
  Calls Try.prog 61 #[.agg #[.int .i64 a0_0, .int .i64 a0_1, .slice A0_2 l0_2.length c0_2, .int .i64 a0_3]] w fun e w' => ∃ v2_ : Value, e = .returned (.agg #[.int .i64 r1, .int .i64 r2, v2_, .int .i64 r4]) ∧ Kd.R k34 34 w' w.heap.size (fun _ => True) v2_ r3 ∧ Below w.heap.size w w' := by
 have hu24 := Try.underlying24
 have HR0_2 := Aside0.mk hr0_2
 have HC0_2 := Aside0.mk hc0_2
 clear hr0_2 hc0_2
 have HB := Aside0.mk (Below.refl w.heap.size w)
 have H : ((impl_Carpet_109.f l0_2).bind fun t131 => (some (a0_0, a0_1, t131, a0_3))) = some (r1, r2, r3, r4) := h
 clear h
 replace H := Option.bind_eq_some_iff.mp H
 obtain ⟨t131, A20, H⟩ := H
 replace H : (some (a0_0, a0_1, t131, a0_3)) = some (r1, r2, r3, r4) := H
 have A2 := Aside0.mk A20
 clear A20
 simp only [Option.some.injEq, Prod.mk.injEq] at H
 obtain ⟨rfl, rfl, rfl, rfl⟩ := H
 go_enter Try.func61, Try.ntmps61
 go_wp2_with (first | ((with_reducible refine gate_dst (N := 1) rfl ?_); refine box_ (N := 1) (cs := #[.int .i64 a0_0, .int .i64 a0_1, .slice A0_2 l0_2.length c0_2, .int .i64 a0_3]) (t := 24) ?_; intro gb129 hg w3 hbox hb; have BK129 := Aside0.mk (hbox); have GW129 := gz_ w hg; have GE129 := gz_ w hg; replace HB := Aside0.mk (below_step (bw_ w) hb); clear hb hbox hg) | ((with_reducible refine gate_dst (N := 2) rfl ?_); refine box_ (N := 2) (cs := #[.int .i64 0, .int .i64 0, .slice none 0 0, .int .i64 0]) (t := 24) ?_; intro gb130 hg w4 hbox hb; have n0_ := bb_ BK129 hb; have n1_ := Aside0.mk (below_step (bw_ w) hb); have n2_ := Aside0.mk (hbox); have n3_ := gz_ w hg; have n4_ := gz_ w hg; have n5_ := ne_ hg BK129; have n6_ := en_ hg BK129; clear BK129; clear HB; have BK129 := n0_; have HB := n1_; have BK130 := n2_; have GW130 := n3_; have GE130 := n4_; have NB129_130 := n5_; have NB130_129 := n6_; clear n0_ n1_ n2_ n3_ n4_ n5_ n6_; clear hb hbox hg; have hnb5 := NB129_130.out; have hnc5 := NB130_129.out; obtain ⟨hcz6_0, hcz6_1, hcz6_2, hcz6_3, hfz6_0, hfz6_1, hfz6_2, hfz6_3⟩ := bc4_ (w := w4) BK129) | ((with_reducible refine gate_callee (f := 109) rfl ?_); refine goesB (some 5) Try.func109 #[.slice A0_2 l0_2.length c0_2] ?_; (with_reducible refine (impl_Carpet_109.calls _ _ l0_2 t131 _ ?side1 ?side2 A2.out).mono ?_); (case side1 => exact cb_ HR0_2 HB); (case side2 => exact HC0_2.out); rintro e w7 ⟨v132, rfl, ho0, hb⟩; refine ⟨_, rfl, ?_⟩; have HO133 := Aside0.mk (Kd.R_lower ho0 (below_size (bw_ w))); replace BK129 := bb_ BK129 hb; replace BK130 := bb_ BK130 hb; replace HB := Aside0.mk (below_step (bw_ w) hb); (try clear hb); (try clear hb2); (try clear hk); (try clear hi); (try clear ho0); obtain ⟨Ao8, co8, eo8⟩ := Kd.R_slice HO133.out; subst eo8; obtain ⟨hcz9_0, hcz9_1, hcz9_2, hcz9_3, hfz9_0, hfz9_1, hfz9_2, hfz9_3⟩ := bc4_ (w := w7) BK129; obtain ⟨hcz10_0, hcz10_1, hcz10_2, hcz10_3, hfz10_0, hfz10_1, hfz10_2, hfz10_3⟩ := bc4_ (w := w7) BK130) | ((with_reducible refine gate_store (t := 24) (p := 2) rfl ?_); refine store_event (t := 24) (p := 2) (v := ?vo_w11) (w1 := (((((w7.setCell ⟨gb129, 2, none⟩ (.slice Ao8 t131.length co8)).setCell ⟨gb130, 0, none⟩ (.int .i64 a0_0)).setCell ⟨gb130, 1, none⟩ (.int .i64 a0_1)).setCell ⟨gb130, 2, none⟩ (.slice Ao8 t131.length co8)).setCell ⟨gb130, 3, none⟩ (.int .i64 a0_3))) ?hg ?ho ?hn ?hr ?_; (case ho => rfl); (case hg => rfl); (case hn => rfl); (case hr => first | (go_simp; done) | (go_simp; rfl)); intro w11 hw; have n0_ : Aside0 (Kd.R k34 34 w11 w.heap.size (fun _ => True) (.slice Ao8 t131.length co8) t131) := ⟨(by rw [hw]; exact (by exact rf_ (Kd.R_types (Kd.R_types HO133.out BK129.out (by decide)) BK130.out (by decide)) (fun _ hk => trivial)))⟩; have n1_ : Aside0 (w11.heap[gb129]? = some (.cells #[.int .i64 a0_0, .int .i64 a0_1, .slice Ao8 t131.length co8, .int .i64 a0_3] 24 (0, 0))) := ⟨(by rw [hw]; exact (bq_ BK129))⟩; have n2_ : Aside0 (w11.heap[gb130]? = some (.cells #[.int .i64 a0_0, .int .i64 a0_1, .slice Ao8 t131.length co8, .int .i64 a0_3] 24 (0, 0))) := ⟨(by rw [hw]; exact (bq_ BK130))⟩; have n3_ : Aside0 (Below w.heap.size w w11) := ⟨(by rw [hw]; exact (bw_ w))⟩; clear hw; clear HO133; clear BK129; clear BK130; clear HB; have HO133 := n0_; have BK129 := n1_; have BK130 := n2_; have HB := n3_; clear n0_ n1_ n2_ n3_))
 refine bodyPost_ret (results_cell_row rfl _ _ gb130 24 #[.int .i64 a0_0, .int .i64 a0_1, .slice Ao8 t131.length co8, .int .i64 a0_3] (0, 0) _ rfl (bk_ BK130) Try.underlying24 rfl (by kernel_rfl)) rfl ?_
 exact ⟨_, by first | rfl | (simp [errW_none, errW_some] <;> rfl) | (simp [*, errW_none, errW_some] <;> rfl), by (with_reducible repeat (first | apply Kd.R_alloc | apply Kd.R_drewN | apply Kd.R_drew)); exact HO133.out, (bw_ w)⟩

/-! ### impl_ShopStep_isValid: function 110 -/
mutual
def impl_ShopStep_isValid.j0 : Nat → Int → Bool → Int → Int → Int → Option (Bool)
  | 0, _, _, _, _, _ => none
  | k + 1, x4, x5, x135000, x135001, x135002 => if x5 = true then (if x135001 = 0 then (some (decide (x135002 ≥ 1))) else (some false)) else (if x4 = 3 then (impl_ShopStep_isValid.j1 k x4 (x4 == 3) x135000 x135001 x135002) else (impl_ShopStep_isValid.j1 k x4 (x4 == 7) x135000 x135001 x135002))
def impl_ShopStep_isValid.j1 : Nat → Int → Bool → Int → Int → Int → Option (Bool)
  | 0, _, _, _, _, _ => none
  | k + 1, x4, x16, x135000, x135001, x135002 => if x16 = true then (some (decide (x135002 ≥ 1))) else (if x4 = 4 then ((impl_in.f x135002 1 20).bind fun t135 => (some t135)) else (if x135000 = 5 then (some (x135002 == 0)) else (if x135000 = 6 then (some (x135002 == 0)) else (some false))))
end
def impl_ShopStep_isValid.f (k : Nat) (a0_0 : Int) (a0_1 : Int) (a0_2 : Int) : Option (Bool) := if a0_0 = 1 then (impl_ShopStep_isValid.j0 k a0_0 (a0_0 == 1) a0_0 a0_1 a0_2) else (impl_ShopStep_isValid.j0 k a0_0 (a0_0 == 2) a0_0 a0_1 a0_2)
theorem impl_ShopStep_isValid.mono_l : ∀ k, (∀ y0 y1 y2 y3 y4, LeO (impl_ShopStep_isValid.j0 k y0 y1 y2 y3 y4) (impl_ShopStep_isValid.j0 (k + 1) y0 y1 y2 y3 y4)) ∧ (∀ y0 y1 y2 y3 y4, LeO (impl_ShopStep_isValid.j1 k y0 y1 y2 y3 y4) (impl_ShopStep_isValid.j1 (k + 1) y0 y1 y2 y3 y4))
  | 0 => ⟨fun _ _ _ _ _ r h => by simp [impl_ShopStep_isValid.j0] at h, fun _ _ _ _ _ r h => by simp [impl_ShopStep_isValid.j1] at h⟩
  | k + 1 => by
    obtain ⟨ih0, ih1⟩ := impl_ShopStep_isValid.mono_l k
    refine ⟨?_, ?_⟩
    · intro y0 y1 y2 y3 y4
      unfold impl_ShopStep_isValid.j0
      repeat' first
      | (with_reducible exact ih0 _ _ _ _ _)
      | (with_reducible exact ih1 _ _ _ _ _)
      | (with_reducible exact LeO.refl _)
      | (with_reducible exact LeO.none _)
      | (with_reducible refine LeO.ite ?_ ?_)
      | (with_reducible refine LeO.bind ?_ (fun _ => ?_))
      | exact ih0 _ _ _ _ _
      | exact ih1 _ _ _ _ _
      | exact LeO.none _
      | refine LeO.ite ?_ ?_
      | refine LeO.bind ?_ (fun _ => ?_)
    · intro y0 y1 y2 y3 y4
      unfold impl_ShopStep_isValid.j1
      repeat' first
      | (with_reducible exact ih0 _ _ _ _ _)
      | (with_reducible exact ih1 _ _ _ _ _)
      | (with_reducible exact LeO.refl _)
      | (with_reducible exact LeO.none _)
      | (with_reducible refine LeO.ite ?_ ?_)
      | (with_reducible refine LeO.bind ?_ (fun _ => ?_))
      | exact ih0 _ _ _ _ _
      | exact ih1 _ _ _ _ _
      | exact LeO.none _
      | refine LeO.ite ?_ ?_
      | refine LeO.bind ?_ (fun _ => ?_)
theorem impl_ShopStep_isValid.mono : ∀ a0 a1 a2 k, LeO (impl_ShopStep_isValid.f k a0 a1 a2) (impl_ShopStep_isValid.f (k + 1) a0 a1 a2) := by
  intro a0 a1 a2 k
  obtain ⟨ih0, ih1⟩ := impl_ShopStep_isValid.mono_l k
  unfold impl_ShopStep_isValid.f
  repeat' first
      | (with_reducible exact ih0 _ _ _ _ _)
      | (with_reducible exact ih1 _ _ _ _ _)
      | (with_reducible exact LeO.refl _)
      | (with_reducible exact LeO.none _)
      | (with_reducible refine LeO.ite ?_ ?_)
      | (with_reducible refine LeO.bind ?_ (fun _ => ?_))
      | exact ih0 _ _ _ _ _
      | exact ih1 _ _ _ _ _
      | exact LeO.none _
      | refine LeO.ite ?_ ?_
      | refine LeO.bind ?_ (fun _ => ?_)
set_option maxHeartbeats 8000000 in
set_option maxRecDepth 100000 in
theorem impl_ShopStep_isValid.calls (k : Nat) (a0_0 : Int) (a0_1 : Int) (a0_2 : Int) (r : Bool) (w : World) (h : impl_ShopStep_isValid.f k a0_0 a0_1 a0_2 = some r) :
  Calls Try.prog 110 #[.agg #[.int .i64 a0_0, .int .i64 a0_1, .int .i64 a0_2]] w fun e w' => e = .returned (.bool r) ∧ Below w.heap.size w w' := by
 have hu30 := Try.underlying30
 have HB := Aside0.mk (Below.refl w.heap.size w)
 have H : (if a0_0 = 1 then (impl_ShopStep_isValid.j0 k a0_0 (a0_0 == 1) a0_0 a0_1 a0_2) else (impl_ShopStep_isValid.j0 k a0_0 (a0_0 == 2) a0_0 a0_1 a0_2)) = some r := h
 clear h
 have HC2 := Aside0.mk H
 clear H
 go_enter Try.func110, Try.ntmps110
 go_upto_if 5 with (first | ((with_reducible refine gate_dst (N := 1) rfl ?_); refine box_ (N := 1) (cs := #[.int .i64 a0_0, .int .i64 a0_1, .int .i64 a0_2]) (t := 30) ?_; intro gb134 hg w3 hbox hb; have BK134 := Aside0.mk (hbox); have GW134 := gz_ w hg; have GE134 := gz_ w hg; replace HB := Aside0.mk (below_step (bw_ w) hb); clear hb hbox hg; obtain ⟨hcz4_0, hcz4_1, hcz4_2, hfz4_0, hfz4_1, hfz4_2⟩ := bc3_ (w := w3) BK134))
 (try simp only [Act.put, List.setIfInBounds_toArray, List.set_cons_zero, List.set_cons_succ])
 go_cut [5] (fun v5 wc => ∃ (kq : Nat) (x5_1 : Bool), v5 = .bool x5_1 ∧ Aside0 (impl_ShopStep_isValid.j0 kq a0_0 x5_1 a0_0 a0_1 a0_2 = some r) ∧ Aside0 (kq ≤ k) ∧ Aside0 (wc.heap[gb134]? = some (.cells #[.int .i64 a0_0, .int .i64 a0_1, .int .i64 a0_2] 30 (0, 0))) ∧ Aside0 (Below w.heap.size w wc))
 case first =>
  have H := HC2.out
  clear HC2
  by_cases c5 : a0_0 = 1
  ·rw [if_pos c5] at H
   have c5b0 : (a0_0 == 1) = true := beq_iff_eq.mpr c5
   have c5b1 : (a0_0 != 1) = false := bne_eq_false_iff_eq.mpr c5
   clear c5
   (first | rw [c5b0] | (simp only [i64_w, i32_w]; rw [c5b0]) | skip)
   have H' := Aside0.mk H
   clear H
   go_wp2
   go_meet
   case rel => exact ⟨_, ((a0_0 == 1)), (by first | rfl | (simp; done) | (simp [*]; done)), H', ⟨by first | omega | exact Nat.le_refl _⟩, ⟨bk_ BK134⟩, ⟨(bw_ w)⟩⟩
  ·rw [if_neg c5] at H
   have c5b0 : (a0_0 == 1) = false := beq_eq_false_iff_ne.mpr c5
   have c5b1 : (a0_0 != 1) = true := bne_iff_ne.mpr c5
   (first | rw [c5b0] | (simp only [i64_w, i32_w]; rw [c5b0]) | skip)
   have H' := Aside0.mk H
   clear H
   go_wp2
   go_meet
   case rel => exact ⟨_, ((a0_0 == 2)), (by first | rfl | (simp; done) | (simp [*]; done)), H', ⟨by first | omega | exact Nat.le_refl _⟩, ⟨bk_ BK134⟩, ⟨(bw_ w)⟩⟩
 case rest =>
  clear HC2
  try clear c1
  try clear p2
  try clear c5
  try clear c5b0
  try clear c5b1
  try clear hcz4_0
  try clear hcz4_1
  try clear hcz4_2
  try clear hfz4_0
  try clear hfz4_1
  try clear hfz4_2
  obtain ⟨kq, x5_1, rfl, HA, HJ1, BK134, HB⟩ := hcut
  cases kq with
  | zero => exact absurd HA.out (by simp [impl_ShopStep_isValid.j0])
  | succ kj1 =>
   have H := HA.out
   clear HA
   simp only [impl_ShopStep_isValid.j0] at H
   by_cases c6 : x5_1 = true
   ·subst c6
    have H1 : (if a0_1 = 0 then (some (decide (a0_2 ≥ 1))) else (some false)) = some r := by rw [if_pos rfl] at H; exact H
    clear H
    have H := H1
    clear H1
    by_cases c7 : a0_1 = 0
    ·rw [if_pos c7] at H
     have c7b0 : (a0_1 == 0) = true := beq_iff_eq.mpr c7
     have c7b1 : (a0_1 != 0) = false := bne_eq_false_iff_eq.mpr c7
     clear c7
     obtain rfl := Option.some.inj H
     obtain ⟨hcz8_0, hcz8_1, hcz8_2, hfz8_0, hfz8_1, hfz8_2⟩ := bc3_ (w := wc) BK134
     go_wp2
     go_ret
     exact ⟨by first | rfl | (simp [errW_none, errW_some] <;> rfl) | (simp [*, errW_none, errW_some] <;> rfl), (bw_ w)⟩
    ·rw [if_neg c7] at H
     have c7b0 : (a0_1 == 0) = false := beq_eq_false_iff_ne.mpr c7
     have c7b1 : (a0_1 != 0) = true := bne_iff_ne.mpr c7
     obtain rfl := Option.some.inj H
     obtain ⟨hcz9_0, hcz9_1, hcz9_2, hfz9_0, hfz9_1, hfz9_2⟩ := bc3_ (w := wc) BK134
     go_wp2
     go_ret
     exact ⟨by first | rfl | (simp [errW_none, errW_some] <;> rfl) | (simp [*, errW_none, errW_some] <;> rfl), (bw_ w)⟩
   ·replace c6 := Bool.eq_false_iff.mpr c6
    subst c6
    have H1 : (if a0_0 = 3 then (impl_ShopStep_isValid.j1 kj1 a0_0 (a0_0 == 3) a0_0 a0_1 a0_2) else (impl_ShopStep_isValid.j1 kj1 a0_0 (a0_0 == 7) a0_0 a0_1 a0_2)) = some r := by rw [if_neg (show ¬ (false = true) by decide)] at H; exact H
    clear H
    have H := H1
    clear H1
    have HC10 := Aside0.mk H
    clear H
    go_upto_if 16 with (fail)
    go_cut [16] (fun v16 wc => ∃ (kq : Nat) (x16_9 : Bool), v16 = .bool x16_9 ∧ Aside0 (impl_ShopStep_isValid.j1 kq a0_0 x16_9 a0_0 a0_1 a0_2 = some r) ∧ Aside0 (kq ≤ kj1) ∧ Aside0 (wc.heap[gb134]? = some (.cells #[.int .i64 a0_0, .int .i64 a0_1, .int .i64 a0_2] 30 (0, 0))) ∧ Aside0 (Below w.heap.size w wc))
    case first =>
     have H := HC10.out
     clear HC10
     by_cases c11 : a0_0 = 3
     ·rw [if_pos c11] at H
      have c11b0 : (a0_0 == 3) = true := beq_iff_eq.mpr c11
      have c11b1 : (a0_0 != 3) = false := bne_eq_false_iff_eq.mpr c11
      clear c11
      (first | rw [c11b0] | (simp only [i64_w, i32_w]; rw [c11b0]) | skip)
      have H' := Aside0.mk H
      clear H
      go_wp2
      go_meet
      case rel => exact ⟨_, ((a0_0 == 3)), (by first | rfl | (simp; done) | (simp [*]; done)), H', ⟨by have := HJ1.out; first | omega | exact Nat.le_refl _⟩, ⟨bk_ BK134⟩, ⟨(bw_ w)⟩⟩
     ·rw [if_neg c11] at H
      have c11b0 : (a0_0 == 3) = false := beq_eq_false_iff_ne.mpr c11
      have c11b1 : (a0_0 != 3) = true := bne_iff_ne.mpr c11
      (first | rw [c11b0] | (simp only [i64_w, i32_w]; rw [c11b0]) | skip)
      have H' := Aside0.mk H
      clear H
      go_wp2
      go_meet
      case rel => exact ⟨_, ((a0_0 == 7)), (by first | rfl | (simp; done) | (simp [*]; done)), H', ⟨by have := HJ1.out; first | omega | exact Nat.le_refl _⟩, ⟨bk_ BK134⟩, ⟨(bw_ w)⟩⟩
    case rest =>
     clear HC10
     try clear c1
     try clear p2
     try clear c5
     try clear c5b0
     try clear c5b1
     try clear c6
     try clear c7
     try clear c7b0
     try clear c7b1
     try clear c11
     try clear c11b0
     try clear c11b1
     try clear hcz4_0
     try clear hcz4_1
     try clear hcz4_2
     try clear hcz8_0
     try clear hcz8_1
     try clear hcz8_2
     try clear hcz9_0
     try clear hcz9_1
     try clear hcz9_2
     try clear hfz4_0
     try clear hfz4_1
     try clear hfz4_2
     try clear hfz8_0
     try clear hfz8_1
     try clear hfz8_2
     try clear hfz9_0
     try clear hfz9_1
     try clear hfz9_2
     try clear p2
     obtain ⟨kq, x16_9, rfl, HA, HJ9, BK134, HB⟩ := hcut
     cases kq with
     | zero => exact absurd HA.out (by simp [impl_ShopStep_isValid.j1])
     | succ kj9 =>
      have H := HA.out
      clear HA
      simp only [impl_ShopStep_isValid.j1] at H
      by_cases c12 : x16_9 = true
      ·subst c12
       have H1 : (some (decide (a0_2 ≥ 1))) = some r := by rw [if_pos rfl] at H; exact H
       clear H
       have H := H1
       clear H1
       obtain rfl := Option.some.inj H
       obtain ⟨hcz13_0, hcz13_1, hcz13_2, hfz13_0, hfz13_1, hfz13_2⟩ := bc3_ (w := wc) BK134
       go_wp2
       go_ret
       exact ⟨by first | rfl | (simp [errW_none, errW_some] <;> rfl) | (simp [*, errW_none, errW_some] <;> rfl), (bw_ w)⟩
      ·replace c12 := Bool.eq_false_iff.mpr c12
       subst c12
       have H1 : (if a0_0 = 4 then ((impl_in.f a0_2 1 20).bind fun t135 => (some t135)) else (if a0_0 = 5 then (some (a0_2 == 0)) else (if a0_0 = 6 then (some (a0_2 == 0)) else (some false)))) = some r := by rw [if_neg (show ¬ (false = true) by decide)] at H; exact H
       clear H
       have H := H1
       clear H1
       by_cases c14 : a0_0 = 4
       ·rw [if_pos c14] at H
        have c14b0 : (a0_0 == 4) = true := beq_iff_eq.mpr c14
        have c14b1 : (a0_0 != 4) = false := bne_eq_false_iff_eq.mpr c14
        clear c14
        replace H := Option.bind_eq_some_iff.mp H
        obtain ⟨t135, A150, H⟩ := H
        replace H : (some t135) = some r := H
        have A15 := Aside0.mk A150
        clear A150
        obtain rfl := Option.some.inj H
        obtain ⟨hcz16_0, hcz16_1, hcz16_2, hfz16_0, hfz16_1, hfz16_2⟩ := bc3_ (w := wc) BK134
        go_wp2_with (first | ((with_reducible refine gate_callee (f := 76) rfl ?_); refine goesB (some 26) Try.func76 #[.int .i64 a0_2, .int .i64 1, .int .i64 20] ?_; (with_reducible refine (impl_in.calls a0_2 1 20 t135 _ A15.out).mono ?_); rintro e w' ⟨rfl, ⟨nd, rfl⟩⟩; refine ⟨_, rfl, ?_⟩))
        go_ret
        exact ⟨by first | rfl | (simp [errW_none, errW_some] <;> rfl) | (simp [*, errW_none, errW_some] <;> rfl), (bw_ w)⟩
       ·rw [if_neg c14] at H
        have c14b0 : (a0_0 == 4) = false := beq_eq_false_iff_ne.mpr c14
        have c14b1 : (a0_0 != 4) = true := bne_iff_ne.mpr c14
        by_cases c17 : a0_0 = 5
        ·rw [if_pos c17] at H
         have c17b0 : (a0_0 == 5) = true := beq_iff_eq.mpr c17
         have c17b1 : (a0_0 != 5) = false := bne_eq_false_iff_eq.mpr c17
         clear c17
         obtain rfl := Option.some.inj H
         obtain ⟨hcz18_0, hcz18_1, hcz18_2, hfz18_0, hfz18_1, hfz18_2⟩ := bc3_ (w := wc) BK134
         go_wp2
         go_ret
         exact ⟨by first | rfl | (simp [errW_none, errW_some] <;> rfl) | (simp [*, errW_none, errW_some] <;> rfl), (bw_ w)⟩
        ·rw [if_neg c17] at H
         have c17b0 : (a0_0 == 5) = false := beq_eq_false_iff_ne.mpr c17
         have c17b1 : (a0_0 != 5) = true := bne_iff_ne.mpr c17
         by_cases c19 : a0_0 = 6
         ·rw [if_pos c19] at H
          have c19b0 : (a0_0 == 6) = true := beq_iff_eq.mpr c19
          have c19b1 : (a0_0 != 6) = false := bne_eq_false_iff_eq.mpr c19
          clear c19
          obtain rfl := Option.some.inj H
          obtain ⟨hcz20_0, hcz20_1, hcz20_2, hfz20_0, hfz20_1, hfz20_2⟩ := bc3_ (w := wc) BK134
          go_wp2
          go_ret
          exact ⟨by first | rfl | (simp [errW_none, errW_some] <;> rfl) | (simp [*, errW_none, errW_some] <;> rfl), (bw_ w)⟩
         ·rw [if_neg c19] at H
          have c19b0 : (a0_0 == 6) = false := beq_eq_false_iff_ne.mpr c19
          have c19b1 : (a0_0 != 6) = true := bne_iff_ne.mpr c19
          obtain rfl := Option.some.inj H
          obtain ⟨hcz21_0, hcz21_1, hcz21_2, hfz21_0, hfz21_1, hfz21_2⟩ := bc3_ (w := wc) BK134
          go_wp2
          go_ret
          exact ⟨by first | rfl | (simp [errW_none, errW_some] <;> rfl) | (simp [*, errW_none, errW_some] <;> rfl), (bw_ w)⟩

end Go.Proofs.Ytahglcpndiadnaa.PFnExactStepShop
