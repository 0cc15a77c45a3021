-- Printed by this session's own program (wip/tool/myprint.py, over the kit's print); Lean checks it.
import Derived.Test.YtahglcpndiadnaaPFnExactStepShopx0
import Derived.Test.YtahglcpndiadnaaPFnExactStepShopx5
namespace Go.Proofs.Ytahglcpndiadnaa.PFnExactStepShop
open Go.RowKit Go.Proofs.YtahglcpndiadnaaW.PrintWords Go.Proofs.YtahglcpndiadnaaW.PrintLast Go.Proofs.YtahglcpndiadnaaW.PrintMore
attribute [local go_sem] max2_int min2_int max_two min_two max_three min_three max_four min_four   -- for this text's walks alone
set_option linter.unusedVariables false
set_option linter.unusedSimpArgs false

/-! ### spec_l25Good: function 63 -/
mutual
def spec_l25Good.j0 : Nat → Bool → Int → Int → List (S34) → Int → Option (Bool)
  | 0, _, _, _, _, _ => none
  | k + 1, x26, x218000, x218001, x218002, x218003 => if x26 = true then (some false) else (spec_l25Good.l0 k 0 x218000 x218001 x218002 x218003)
def spec_l25Good.l0 : Nat → Int → Int → Int → List (S34) → Int → Option (Bool)
  | 0, _, _, _, _, _ => none
  | k + 1, x3, x218000, x218001, x218002, x218003 => if x3 < (x218002.length : Int) then (if 0 ≤ x3 then ((spec_l25Carpet.f k x218000 x218001 x218002 x218003 ((rd_T34 x218002 x3).f0) ((rd_T34 x218002 x3).f1) ((rd_T34 x218002 x3).f2) ((rd_T34 x218002 x3).f3) ((rd_T34 x218002 x3).f4)).bind fun t222 => (if t222 = true then (spec_l25Good.l1 k x3 0 x218000 x218001 x218002 x218003) else (some false))) else (none)) else (some true)
def spec_l25Good.l1 : Nat → Int → Int → Int → Int → List (S34) → Int → Option (Bool)
  | 0, _, _, _, _, _, _ => none
  | k + 1, x3, x4, x218000, x218001, x218002, x218003 => if x4 < x3 then (if 0 ≤ x3 then (if x3 < (x218002.length : Int) then (if ((rd_T34 x218002 x3).f3) > 0 then (if 0 ≤ x4 then (if x4 < (x218002.length : Int) then (if ((rd_T34 x218002 x4).f3) = ((rd_T34 x218002 x3).f3) then (some false) else (spec_l25Good.l1 k x3 (wrap64 (x4 + 1)) x218000 x218001 x218002 x218003)) else (none)) else (none)) else (spec_l25Good.l1 k x3 (wrap64 (x4 + 1)) x218000 x218001 x218002 x218003)) else (none)) else (none)) else (spec_l25Good.l0 k (wrap64 (x3 + 1)) x218000 x218001 x218002 x218003)
end
def spec_l25Good.f (k : Nat) (a0_0 : Int) (a0_1 : Int) (l0_2 : List (S34)) (a0_3 : Int) : Option (Bool) := (spec_l2Day.f a0_0).bind fun t218 => (if t218 = true then ((spec_l1In.f a0_1 1 4).bind fun t219 => (if t219 = true then ((spec_l1In.f a0_3 0 1000000).bind fun t220 => (if t220 = true then (spec_l25Good.j0 k (decide ((l0_2.length : Int) > 8)) a0_0 a0_1 l0_2 a0_3) else (spec_l25Good.j0 k true a0_0 a0_1 l0_2 a0_3))) else (spec_l25Good.j0 k true a0_0 a0_1 l0_2 a0_3))) else (spec_l25Good.j0 k true a0_0 a0_1 l0_2 a0_3))
theorem spec_l25Good.mono_l : ∀ k, (∀ y0 y1 y2 y3 y4, LeO (spec_l25Good.j0 k y0 y1 y2 y3 y4) (spec_l25Good.j0 (k + 1) y0 y1 y2 y3 y4)) ∧ (∀ y0 y1 y2 y3 y4, LeO (spec_l25Good.l0 k y0 y1 y2 y3 y4) (spec_l25Good.l0 (k + 1) y0 y1 y2 y3 y4)) ∧ (∀ y0 y1 y2 y3 y4 y5, LeO (spec_l25Good.l1 k y0 y1 y2 y3 y4 y5) (spec_l25Good.l1 (k + 1) y0 y1 y2 y3 y4 y5))
  | 0 => ⟨fun _ _ _ _ _ r h => by simp [spec_l25Good.j0] at h, fun _ _ _ _ _ r h => by simp [spec_l25Good.l0] at h, fun _ _ _ _ _ _ r h => by simp [spec_l25Good.l1] at h⟩
  | k + 1 => by
    obtain ⟨ih0, ih1, ih2⟩ := spec_l25Good.mono_l k
    refine ⟨?_, ?_, ?_⟩
    · intro y0 y1 y2 y3 y4
      unfold spec_l25Good.j0
      repeat' first
      | (with_reducible exact ih0 _ _ _ _ _)
      | (with_reducible exact ih1 _ _ _ _ _)
      | (with_reducible exact ih2 _ _ _ _ _ _)
      | (with_reducible exact spec_l25Carpet.mono _ _ _ _ _ _ _ _ _ _)
      | (with_reducible exact LeO.refl _)
      | (with_reducible exact LeO.none _)
      | (with_reducible refine LeO.ite ?_ ?_)
      | (with_reducible refine LeO.bind ?_ (fun _ => ?_))
      | exact ih0 _ _ _ _ _
      | exact ih1 _ _ _ _ _
      | exact ih2 _ _ _ _ _ _
      | exact spec_l25Carpet.mono _ _ _ _ _ _ _ _ _ _
      | exact LeO.none _
      | refine LeO.ite ?_ ?_
      | refine LeO.bind ?_ (fun _ => ?_)
    · intro y0 y1 y2 y3 y4
      unfold spec_l25Good.l0
      repeat' first
      | (with_reducible exact ih0 _ _ _ _ _)
      | (with_reducible exact ih1 _ _ _ _ _)
      | (with_reducible exact ih2 _ _ _ _ _ _)
      | (with_reducible exact spec_l25Carpet.mono _ _ _ _ _ _ _ _ _ _)
      | (with_reducible exact LeO.refl _)
      | (with_reducible exact LeO.none _)
      | (with_reducible refine LeO.ite ?_ ?_)
      | (with_reducible refine LeO.bind ?_ (fun _ => ?_))
      | exact ih0 _ _ _ _ _
      | exact ih1 _ _ _ _ _
      | exact ih2 _ _ _ _ _ _
      | exact spec_l25Carpet.mono _ _ _ _ _ _ _ _ _ _
      | exact LeO.none _
      | refine LeO.ite ?_ ?_
      | refine LeO.bind ?_ (fun _ => ?_)
    · intro y0 y1 y2 y3 y4 y5
      unfold spec_l25Good.l1
      repeat' first
      | (with_reducible exact ih0 _ _ _ _ _)
      | (with_reducible exact ih1 _ _ _ _ _)
      | (with_reducible exact ih2 _ _ _ _ _ _)
      | (with_reducible exact spec_l25Carpet.mono _ _ _ _ _ _ _ _ _ _)
      | (with_reducible exact LeO.refl _)
      | (with_reducible exact LeO.none _)
      | (with_reducible refine LeO.ite ?_ ?_)
      | (with_reducible refine LeO.bind ?_ (fun _ => ?_))
      | exact ih0 _ _ _ _ _
      | exact ih1 _ _ _ _ _
      | exact ih2 _ _ _ _ _ _
      | exact spec_l25Carpet.mono _ _ _ _ _ _ _ _ _ _
      | exact LeO.none _
      | refine LeO.ite ?_ ?_
      | refine LeO.bind ?_ (fun _ => ?_)
theorem spec_l25Good.mono : ∀ a0 a1 a2 a3 k, LeO (spec_l25Good.f k a0 a1 a2 a3) (spec_l25Good.f (k + 1) a0 a1 a2 a3) := by
  intro a0 a1 a2 a3 k
  obtain ⟨ih0, ih1, ih2⟩ := spec_l25Good.mono_l k
  unfold spec_l25Good.f
  repeat' first
      | (with_reducible exact ih0 _ _ _ _ _)
      | (with_reducible exact ih1 _ _ _ _ _)
      | (with_reducible exact ih2 _ _ _ _ _ _)
      | (with_reducible exact spec_l25Carpet.mono _ _ _ _ _ _ _ _ _ _)
      | (with_reducible exact LeO.refl _)
      | (with_reducible exact LeO.none _)
      | (with_reducible refine LeO.ite ?_ ?_)
      | (with_reducible refine LeO.bind ?_ (fun _ => ?_))
      | exact ih0 _ _ _ _ _
      | exact ih1 _ _ _ _ _
      | exact ih2 _ _ _ _ _ _
      | exact spec_l25Carpet.mono _ _ _ _ _ _ _ _ _ _
      | exact LeO.none _
      | refine LeO.ite ?_ ?_
      | refine LeO.bind ?_ (fun _ => ?_)
def spec_l25Good.T6 : Bool × List (List Nat × List Nat) := (true, [([], []), ([], []), ([1], [1]), ([], []), ([2, 3], [2, 3]), ([4], [4]), ([0, 5], [0, 5]), ([6], [6])])
def spec_l25Good.B6 : List Nat := [0, 0, 2, 0, 14, 30, 63, 127]
theorem spec_l25Good.tab6 : rtab .any (opsOf Try.f63 6) = spec_l25Good.T6 := by kernel_rfl
theorem spec_l25Good.bits6 : waitsOk spec_l25Good.T6.2 spec_l25Good.B6 = true := by kernel_rfl
def spec_l25Good.T11 : Bool × List (List Nat × List Nat) := (true, [([], []), ([0], [0]), ([], []), ([1, 2], [1, 2]), ([3], [3]), ([4], [4]), ([5], [5]), ([6], [6]), ([7], [7]), ([8, 7], [7, 8]), ([7], [7]), ([9, 10, 7], [7, 9, 10]), ([11, 7], [7, 11]), ([12, 7], [7, 12]), ([7], [7]), ([14, 7], [7, 14]), ([7], [7]), ([15, 16, 7], [7, 15, 16]), ([17, 7], [7, 17]), ([18, 7], [7, 18]), ([13, 19, 7], [7, 13, 19]), ([7, 20], [7, 20])])
def spec_l25Good.B11 : List Nat := [0, 1, 0, 7, 15, 31, 63, 127, 255, 511, 255, 2047, 4095, 8191, 255, 16639, 255, 114943, 246015, 508159, 1048575, 2097151]
theorem spec_l25Good.tab11 : rtab .any (opsOf Try.f63 11) = spec_l25Good.T11 := by kernel_rfl
theorem spec_l25Good.bits11 : waitsOk spec_l25Good.T11.2 spec_l25Good.B11 = true := by kernel_rfl
set_option maxHeartbeats 8000000 in
set_option maxRecDepth 100000 in
theorem spec_l25Good.calls (k : Nat) (a0_0 : Int) (a0_1 : Int) (A0_2 : Option Addr) (c0_2 : Nat) (l0_2 : List (S34)) (a0_3 : Int) (r : Bool) (w : World) (hr0_2 : Kd.C k34 w A0_2 l0_2.length l0_2) (hc0_2 : l0_2.length ≤ c0_2) (h : spec_l25Good.f k a0_0 a0_1 l0_2 a0_3 = some r) :
  Calls Try.prog 63 #[.agg #[.int .i64 a0_0, .int .i64 a0_1, .slice A0_2 l0_2.length c0_2, .int .i64 a0_3]] w fun e w' => e = .returned (.bool r) ∧ Below w.heap.size w w' := by
 have hu24 := Try.underlying24
 have hu34 := Try.underlying34
 have HR0_2 := Aside0.mk hr0_2
 have HC0_2 := Aside0.mk hc0_2
 clear hr0_2 hc0_2
 have HB := Aside0.mk (Below.refl w.heap.size w)
 have H : ((spec_l2Day.f a0_0).bind fun t218 => (if t218 = true then ((spec_l1In.f a0_1 1 4).bind fun t219 => (if t219 = true then ((spec_l1In.f a0_3 0 1000000).bind fun t220 => (if t220 = true then (spec_l25Good.j0 k (decide ((l0_2.length : Int) > 8)) a0_0 a0_1 l0_2 a0_3) else (spec_l25Good.j0 k true a0_0 a0_1 l0_2 a0_3))) else (spec_l25Good.j0 k true a0_0 a0_1 l0_2 a0_3))) else (spec_l25Good.j0 k true a0_0 a0_1 l0_2 a0_3))) = some r := h
 clear h
 have HC2 := Aside0.mk H
 clear H
 go_enter Try.func63, Try.ntmps63
 go_upto_region 1 with (first | ((with_reducible refine gate_dst (N := 1) rfl ?_); refine box_ (N := 1) (cs := #[.int .i64 a0_0, .int .i64 a0_1, .slice A0_2 l0_2.length c0_2, .int .i64 a0_3]) (t := 24) ?_; intro gb217 hg w3 hbox hb; have BK217 := Aside0.mk (hbox); have GW217 := gz_ w hg; have GE217 := gz_ w hg; replace HB := Aside0.mk (below_step (bw_ w) hb); clear hb hbox hg))
 (try simp only [Act.put, List.setIfInBounds_toArray, List.set_cons_zero, List.set_cons_succ])
 go_cut [26] (fun v26 wc => ∃ (kq : Nat) (x26_1 : Bool), v26 = .bool x26_1 ∧ Aside0 (spec_l25Good.j0 kq x26_1 a0_0 a0_1 l0_2 a0_3 = some r) ∧ Aside0 (kq ≤ k) ∧ Aside0 (wc.heap[gb217]? = some (.cells #[.int .i64 a0_0, .int .i64 a0_1, (.slice A0_2 l0_2.length c0_2), .int .i64 a0_3] 24 (0, 0))) ∧ Aside0 (Below w.heap.size w wc))
 case first =>
  have H := HC2.out
  clear HC2
  replace H := Option.bind_eq_some_iff.mp H
  obtain ⟨t218, A40, H⟩ := H
  replace H : (if t218 = true then ((spec_l1In.f a0_1 1 4).bind fun t219 => (if t219 = true then ((spec_l1In.f a0_3 0 1000000).bind fun t220 => (if t220 = true then (spec_l25Good.j0 k (decide ((l0_2.length : Int) > 8)) a0_0 a0_1 l0_2 a0_3) else (spec_l25Good.j0 k true a0_0 a0_1 l0_2 a0_3))) else (spec_l25Good.j0 k true a0_0 a0_1 l0_2 a0_3))) else (spec_l25Good.j0 k true a0_0 a0_1 l0_2 a0_3)) = some r := H
  have A4 := Aside0.mk A40
  clear A40
  by_cases c5 : t218 = true
  ·subst c5
   have H1 : ((spec_l1In.f a0_1 1 4).bind fun t219 => (if t219 = true then ((spec_l1In.f a0_3 0 1000000).bind fun t220 => (if t220 = true then (spec_l25Good.j0 k (decide ((l0_2.length : Int) > 8)) a0_0 a0_1 l0_2 a0_3) else (spec_l25Good.j0 k true a0_0 a0_1 l0_2 a0_3))) else (spec_l25Good.j0 k true a0_0 a0_1 l0_2 a0_3))) = some r := by rw [if_pos rfl] at H; exact H
   clear H
   have H := H1
   clear H1
   replace H := Option.bind_eq_some_iff.mp H
   obtain ⟨t219, A60, H⟩ := H
   replace H : (if t219 = true then ((spec_l1In.f a0_3 0 1000000).bind fun t220 => (if t220 = true then (spec_l25Good.j0 k (decide ((l0_2.length : Int) > 8)) a0_0 a0_1 l0_2 a0_3) else (spec_l25Good.j0 k true a0_0 a0_1 l0_2 a0_3))) else (spec_l25Good.j0 k true a0_0 a0_1 l0_2 a0_3)) = some r := H
   have A6 := Aside0.mk A60
   clear A60
   by_cases c7 : t219 = true
   ·subst c7
    have H1 : ((spec_l1In.f a0_3 0 1000000).bind fun t220 => (if t220 = true then (spec_l25Good.j0 k (decide ((l0_2.length : Int) > 8)) a0_0 a0_1 l0_2 a0_3) else (spec_l25Good.j0 k true a0_0 a0_1 l0_2 a0_3))) = some r := by rw [if_pos rfl] at H; exact H
    clear H
    have H := H1
    clear H1
    replace H := Option.bind_eq_some_iff.mp H
    obtain ⟨t220, A80, H⟩ := H
    replace H : (if t220 = true then (spec_l25Good.j0 k (decide ((l0_2.length : Int) > 8)) a0_0 a0_1 l0_2 a0_3) else (spec_l25Good.j0 k true a0_0 a0_1 l0_2 a0_3)) = some r := H
    have A8 := Aside0.mk A80
    clear A80
    by_cases c9 : t220 = true
    ·subst c9
     have H1 : (spec_l25Good.j0 k (decide ((l0_2.length : Int) > 8)) a0_0 a0_1 l0_2 a0_3) = some r := by rw [if_pos rfl] at H; exact H
     clear H
     have H := H1
     clear H1
     have H' := Aside0.mk H
     clear H
     obtain ⟨hcz10_0, hcz10_1, hcz10_2, hcz10_3, hfz10_0, hfz10_1, hfz10_2, hfz10_3⟩ := bc4_ (w := w3) BK217
     go_wp2_with (first | ((with_reducible refine gate_callee (f := 113) rfl ?_); refine goesB (some 7) Try.func113 #[.int .i64 a0_0] ?_; (with_reducible refine (spec_l2Day.calls a0_0 true _ A4.out).mono ?_); rintro e w' ⟨rfl, ⟨nd, rfl⟩⟩; refine ⟨_, rfl, ?_⟩) | (go_at_call 82; (with_reducible refine (spec_l1In.calls a0_1 1 4 true _ A6.out).mono ?_); rintro e w' ⟨rfl, ⟨nd, rfl⟩⟩) | (go_at_call 82; (with_reducible refine (spec_l1In.calls a0_3 0 1000000 true _ A8.out).mono ?_); rintro e w' ⟨rfl, ⟨nd, rfl⟩⟩))
     go_meet
     case rel => exact ⟨_, (decide ((l0_2.length : Int) > 8)), (by first | rfl | (simp; done) | (simp [*]; done)), H', ⟨by first | omega | exact Nat.le_refl _⟩, ⟨bk_ BK217⟩, ⟨(bw_ w)⟩⟩
    ·replace c9 := Bool.eq_false_iff.mpr c9
     subst c9
     have H1 : (spec_l25Good.j0 k true a0_0 a0_1 l0_2 a0_3) = some r := by rw [if_neg (show ¬ (false = true) by decide)] at H; exact H
     clear H
     have H := H1
     clear H1
     have H' := Aside0.mk H
     clear H
     obtain ⟨hcz11_0, hcz11_1, hcz11_2, hcz11_3, hfz11_0, hfz11_1, hfz11_2, hfz11_3⟩ := bc4_ (w := w3) BK217
     go_wp2_with (first | ((with_reducible refine gate_callee (f := 113) rfl ?_); refine goesB (some 7) Try.func113 #[.int .i64 a0_0] ?_; (with_reducible refine (spec_l2Day.calls a0_0 true _ A4.out).mono ?_); rintro e w' ⟨rfl, ⟨nd, rfl⟩⟩; refine ⟨_, rfl, ?_⟩) | (go_at_call 82; (with_reducible refine (spec_l1In.calls a0_1 1 4 true _ A6.out).mono ?_); rintro e w' ⟨rfl, ⟨nd, rfl⟩⟩) | (go_at_call 82; (with_reducible refine (spec_l1In.calls a0_3 0 1000000 false _ A8.out).mono ?_); rintro e w' ⟨rfl, ⟨nd, rfl⟩⟩))
     go_meet
     case rel => exact ⟨_, (true), (by first | rfl | (simp; done) | (simp [*]; done)), H', ⟨by first | omega | exact Nat.le_refl _⟩, ⟨bk_ BK217⟩, ⟨(bw_ w)⟩⟩
   ·replace c7 := Bool.eq_false_iff.mpr c7
    subst c7
    have H1 : (spec_l25Good.j0 k true a0_0 a0_1 l0_2 a0_3) = some r := by rw [if_neg (show ¬ (false = true) by decide)] at H; exact H
    clear H
    have H := H1
    clear H1
    have H' := Aside0.mk H
    clear H
    obtain ⟨hcz12_0, hcz12_1, hcz12_2, hcz12_3, hfz12_0, hfz12_1, hfz12_2, hfz12_3⟩ := bc4_ (w := w3) BK217
    go_wp2_with (first | ((with_reducible refine gate_callee (f := 113) rfl ?_); refine goesB (some 7) Try.func113 #[.int .i64 a0_0] ?_; (with_reducible refine (spec_l2Day.calls a0_0 true _ A4.out).mono ?_); rintro e w' ⟨rfl, ⟨nd, rfl⟩⟩; refine ⟨_, rfl, ?_⟩) | (go_at_call 82; (with_reducible refine (spec_l1In.calls a0_1 1 4 false _ A6.out).mono ?_); rintro e w' ⟨rfl, ⟨nd, rfl⟩⟩))
    go_meet
    case rel => exact ⟨_, (true), (by first | rfl | (simp; done) | (simp [*]; done)), H', ⟨by first | omega | exact Nat.le_refl _⟩, ⟨bk_ BK217⟩, ⟨(bw_ w)⟩⟩
  ·replace c5 := Bool.eq_false_iff.mpr c5
   subst c5
   have H1 : (spec_l25Good.j0 k true a0_0 a0_1 l0_2 a0_3) = some r := by rw [if_neg (show ¬ (false = true) by decide)] at H; exact H
   clear H
   have H := H1
   clear H1
   have H' := Aside0.mk H
   clear H
   obtain ⟨hcz13_0, hcz13_1, hcz13_2, hcz13_3, hfz13_0, hfz13_1, hfz13_2, hfz13_3⟩ := bc4_ (w := w3) BK217
   go_wp2_with (first | ((with_reducible refine gate_callee (f := 113) rfl ?_); refine goesB (some 7) Try.func113 #[.int .i64 a0_0] ?_; (with_reducible refine (spec_l2Day.calls a0_0 false _ A4.out).mono ?_); rintro e w' ⟨rfl, ⟨nd, rfl⟩⟩; refine ⟨_, rfl, ?_⟩))
   go_meet
   case rel => exact ⟨_, (true), (by first | rfl | (simp; done) | (simp [*]; done)), H', ⟨by first | omega | exact Nat.le_refl _⟩, ⟨bk_ BK217⟩, ⟨(bw_ w)⟩⟩
 case rest =>
  clear HC2
  try clear c1
  try clear p2
  try clear c5
  try clear c6
  try clear c7
  try clear c9
  try clear c11
  try clear hcz10_0
  try clear hcz10_1
  try clear hcz10_2
  try clear hcz10_3
  try clear hcz11_0
  try clear hcz11_1
  try clear hcz11_2
  try clear hcz11_3
  try clear hcz12_0
  try clear hcz12_1
  try clear hcz12_2
  try clear hcz12_3
  try clear hcz13_0
  try clear hcz13_1
  try clear hcz13_2
  try clear hcz13_3
  try clear hfz10_0
  try clear hfz10_1
  try clear hfz10_2
  try clear hfz10_3
  try clear hfz11_0
  try clear hfz11_1
  try clear hfz11_2
  try clear hfz11_3
  try clear hfz12_0
  try clear hfz12_1
  try clear hfz12_2
  try clear hfz12_3
  try clear hfz13_0
  try clear hfz13_1
  try clear hfz13_2
  try clear hfz13_3
  obtain ⟨kq, x26_1, rfl, HA, HJ1, BK217, HB⟩ := hcut
  cases kq with
  | zero => exact absurd HA.out (by simp [spec_l25Good.j0])
  | succ kj1 =>
   have H := HA.out
   clear HA
   simp only [spec_l25Good.j0] at H
   by_cases c14 : x26_1 = true
   ·subst c14
    have H1 : (some false) = some r := by rw [if_pos rfl] at H; exact H
    clear H
    have H := H1
    clear H1
    obtain rfl := Option.some.inj H
    go_wp2
    go_ret
    exact ⟨by first | rfl | (simp [errW_none, errW_some] <;> rfl) | (simp [*, errW_none, errW_some] <;> rfl), (bw_ w)⟩
   ·replace c14 := Bool.eq_false_iff.mpr c14
    subst c14
    have H1 : (spec_l25Good.l0 kj1 0 a0_0 a0_1 l0_2 a0_3) = some r := by rw [if_neg (show ¬ (false = true) by decide)] at H; exact H
    clear H
    have H := H1
    clear H1
    have H' := Aside0.mk H
    clear H
    go_wp2
    go_loopg [3] kj1 (fun kq v3 w' => ∃ (x3_2 : Int), v3 = .int .i64 x3_2 ∧ Aside0 (spec_l25Good.l0 kq x3_2 a0_0 a0_1 l0_2 a0_3 = some r) ∧ Aside0 (kq ≤ kj1) ∧ Aside0 (w'.heap[gb217]? = some (.cells #[.int .i64 a0_0, .int .i64 a0_1, (.slice A0_2 l0_2.length c0_2), .int .i64 a0_3] 24 (0, 0))) ∧ Aside0 (Below w.heap.size w w'))
    case atStart => exact ⟨(0), (by first | rfl | (simp; done) | (simp [*]; done)), H', ⟨Nat.le_refl _⟩, ⟨bk_ BK217⟩, ⟨(bw_ w)⟩⟩
    case round =>
     clear H'
     try clear c1
     try clear p2
     try clear c5
     try clear c6
     try clear c7
     try clear c9
     try clear c11
     try clear c14
     try clear hcz10_0
     try clear hcz10_1
     try clear hcz10_2
     try clear hcz10_3
     try clear hcz11_0
     try clear hcz11_1
     try clear hcz11_2
     try clear hcz11_3
     try clear hcz12_0
     try clear hcz12_1
     try clear hcz12_2
     try clear hcz12_3
     try clear hcz13_0
     try clear hcz13_1
     try clear hcz13_2
     try clear hcz13_3
     try clear hfz10_0
     try clear hfz10_1
     try clear hfz10_2
     try clear hfz10_3
     try clear hfz11_0
     try clear hfz11_1
     try clear hfz11_2
     try clear hfz11_3
     try clear hfz12_0
     try clear hfz12_1
     try clear hfz12_2
     try clear hfz12_3
     try clear hfz13_0
     try clear hfz13_1
     try clear hfz13_2
     try clear hfz13_3
     try clear p2
     obtain ⟨x3_2, rfl, HA, HK2, BK217, HB⟩ := hrel
     cases gk with
     | zero => exact absurd HA.out (by simp [spec_l25Good.l0])
     | succ k2 =>
      have H := HA.out
      clear HA
      simp only [spec_l25Good.l0] at H
      by_cases c15 : x3_2 < (l0_2.length : Int)
      ·rw [if_pos c15] at H
       have c15b0 : decide (x3_2 < (l0_2.length : Int)) = true := decide_eq_true c15
       clear c15
       by_cases c16 : 0 ≤ x3_2
       ·rw [if_pos c16] at H
        have c16b0 : decide (0 ≤ x3_2) = true := decide_eq_true c16
        clear c16
        replace H := Option.bind_eq_some_iff.mp H
        obtain ⟨t222, A170, H⟩ := H
        replace H : (if t222 = true then (spec_l25Good.l1 k2 x3_2 0 a0_0 a0_1 l0_2 a0_3) else (some false)) = some r := H
        have A17 := Aside0.mk A170
        clear A170
        by_cases c18 : t222 = true
        ·subst c18
         have H1 : (spec_l25Good.l1 k2 x3_2 0 a0_0 a0_1 l0_2 a0_3) = some r := by rw [if_pos rfl] at H; exact H
         clear H
         have H := H1
         clear H1
         have H' := Aside0.mk H
         clear H
         obtain ⟨hcz19_0, hcz19_1, hcz19_2, hcz19_3, hfz19_0, hfz19_1, hfz19_2, hfz19_3⟩ := bc4_ (w := wr) BK217
         try go_wp2
         replace BK217 := Aside0.mk (blk_drew BK217.out)
         replace HB := Aside0.mk (below_drew1 HB.out)
         have p221 : 0 ≤ (x3_2 : Int) := of_decide_eq_true (by first | (with_reducible assumption) | assumption)
         have q221 : x3_2 < (l0_2.length : Int) := of_decide_eq_true (by first | (with_reducible assumption) | assumption)
         obtain ⟨ad221, e221, hx221_0, hx221_1, hx221_2, hx221_3, hx221_4⟩ := at_T34 HR0_2.out x3_2 p221 q221
         have hw221_4 := hx221_4
         have hw221_3 := hx221_3
         have hw221_2 := hx221_2
         have hw221_1 := hx221_1
         have hw221_0 := hx221_0
         cases e221
         replace hx221_0 := (HB.out.cell (World.block_lt_of_cell? w _ hx221_0)).trans hx221_0
         replace hx221_1 := (HB.out.cell (World.block_lt_of_cell? w _ hx221_1)).trans hx221_1
         replace hx221_2 := (HB.out.cell (World.block_lt_of_cell? w _ hx221_2)).trans hx221_2
         replace hx221_3 := (HB.out.cell (World.block_lt_of_cell? w _ hx221_3)).trans hx221_3
         replace hx221_4 := (HB.out.cell (World.block_lt_of_cell? w _ hx221_4)).trans hx221_4
         replace p221 := eq_true p221
         replace q221 := eq_true q221
         refine start_ (n := 8) (S := fun w' => w'.cell? ⟨gb217, 0, none⟩ = some (.int .i64 a0_0) ∧ w'.cell? ⟨gb217, 1, none⟩ = some (.int .i64 a0_1) ∧ w'.cell? ⟨gb217, 2, none⟩ = some (.slice (some ad221) l0_2.length c0_2) ∧ w'.cell? ⟨gb217, 3, none⟩ = some (.int .i64 a0_3) ∧ w'.cell? (ad221.add ((x3_2).toNat * 5)) = some (.int .i64 ((rd_T34 l0_2 x3_2).f0)) ∧ w'.cell? ⟨(ad221.add ((x3_2).toNat * 5)).block, (ad221.add ((x3_2).toNat * 5)).off + 1, none⟩ = some (.int .i64 ((rd_T34 l0_2 x3_2).f1)) ∧ w'.cell? ⟨(ad221.add ((x3_2).toNat * 5)).block, (ad221.add ((x3_2).toNat * 5)).off + 2, none⟩ = some (.int .i64 ((rd_T34 l0_2 x3_2).f2)) ∧ w'.cell? ⟨(ad221.add ((x3_2).toNat * 5)).block, (ad221.add ((x3_2).toNat * 5)).off + 3, none⟩ = some (.int .i64 ((rd_T34 l0_2 x3_2).f3)) ∧ w'.cell? ⟨(ad221.add ((x3_2).toNat * 5)).block, (ad221.add ((x3_2).toNat * 5)).off + 4, none⟩ = some (.int .i64 ((rd_T34 l0_2 x3_2).f4))) (ds := []) #[false, false, false, false, false, false, false, false] (by kernel_rfl) rfl rfl ⟨bc_ BK217 0, bc_ BK217 1, bc_ BK217 2, bc_ BK217 3, (bh_ HB hw221_0 :), (bh_ HB hw221_1 :), (bh_ HB hw221_2 :), (bh_ HB hw221_3 :), (bh_ HB hw221_4 :)⟩ (fun hHeld => ?_); refine with_tabW spec_l25Good.tab6 spec_l25Good.bits6 (fun HT_ HW_ => ?_)
         generalize wr.drew = w20 at BK217 HB hx221_0 hx221_1 hx221_2 hx221_3 hx221_4 hHeld ⊢
         refine pureA (N := some 35) 1 HT_ ?_
         refine pureA (N := some 37) 3 HT_ ?_
         refine takeA (N := some 34) 0 HT_ HW_ hHeld ?_
         refine takeA (N := some 36) 2 HT_ HW_ hHeld ?_
         refine pureA (N := some 38) 4 HT_ ?_
         refine takeA (N := some 39) 5 HT_ HW_ hHeld ?_
         refine oneA (N := some 40) 6 HT_ (fun K hK => ?_)
         refine goesA Try.func114 #[.agg #[.int .i64 a0_0, .int .i64 a0_1, .slice (some ad221) l0_2.length c0_2, .int .i64 a0_3], .agg #[.int .i64 ((rd_T34 l0_2 x3_2).f0), .int .i64 ((rd_T34 l0_2 x3_2).f1), .int .i64 ((rd_T34 l0_2 x3_2).f2), .int .i64 ((rd_T34 l0_2 x3_2).f3), .int .i64 ((rd_T34 l0_2 x3_2).f4)]] ?_
         with_reducible refine (spec_l25Carpet.calls k2 a0_0 a0_1 _ _ l0_2 a0_3 ((rd_T34 l0_2 x3_2).f0) ((rd_T34 l0_2 x3_2).f1) ((rd_T34 l0_2 x3_2).f2) ((rd_T34 l0_2 x3_2).f3) ((rd_T34 l0_2 x3_2).f4) true _ ?side1 ?side2 A17.out).mono ?_
         (case side1 => exact cb_ HR0_2 HB)
         (case side2 => exact HC0_2.out)
         rintro e w21 ⟨rfl, hb⟩
         refine ⟨_, rfl, ?_⟩
         replace BK217 := bb_ BK217 hb
         replace HB := Aside0.mk (below_step (bw_ w) hb)
         (try clear hb)
         (try clear hb2)
         (try clear hk)
         (try clear hi)
         refine hK.out _ _ ⟨bc_ BK217 0, bc_ BK217 1, bc_ BK217 2, bc_ BK217 3, (bh_ HB hw221_0 :), (bh_ HB hw221_1 :), (bh_ HB hw221_2 :), (bh_ HB hw221_3 :), (bh_ HB hw221_4 :)⟩ (fun hHeld => ?_)
         clear hK K
         refine normA (N := some 40) ?_
         refine pureA (N := some 41) 7 HT_ ?_
         refine done_ (done_of HT_.out (by kernel_rfl)) ?_
         try go_wp2
         go_loopg [4] k2 (fun kq v4 w' => ∃ (x4_3 : Int), v4 = .int .i64 x4_3 ∧ Aside0 (spec_l25Good.l1 kq x3_2 x4_3 a0_0 a0_1 l0_2 a0_3 = some r) ∧ Aside0 (kq ≤ k2) ∧ Aside0 (w'.heap[gb217]? = some (.cells #[.int .i64 a0_0, .int .i64 a0_1, (.slice (some ad221) l0_2.length c0_2), .int .i64 a0_3] 24 (0, 0))) ∧ Aside0 (Below w.heap.size w w'))
         case atStart => exact ⟨(0), (by first | rfl | (simp; done) | (simp [*]; done)), H', ⟨Nat.le_refl _⟩, ⟨bk_ BK217⟩, ⟨(bw_ w)⟩⟩
         case round =>
          clear H'
          try clear c1
          try clear p2
          try clear q2
          try clear hx2
          try clear c5
          try clear c6
          try clear c7
          try clear c9
          try clear c11
          try clear c14
          try clear c15
          try clear c15b0
          try clear c16
          try clear c16b0
          try clear c18
          try clear hcz10_0
          try clear hcz10_1
          try clear hcz10_2
          try clear hcz10_3
          try clear hcz11_0
          try clear hcz11_1
          try clear hcz11_2
          try clear hcz11_3
          try clear hcz12_0
          try clear hcz12_1
          try clear hcz12_2
          try clear hcz12_3
          try clear hcz13_0
          try clear hcz13_1
          try clear hcz13_2
          try clear hcz13_3
          try clear hcz19_0
          try clear hcz19_1
          try clear hcz19_2
          try clear hcz19_3
          try clear hfz10_0
          try clear hfz10_1
          try clear hfz10_2
          try clear hfz10_3
          try clear hfz11_0
          try clear hfz11_1
          try clear hfz11_2
          try clear hfz11_3
          try clear hfz12_0
          try clear hfz12_1
          try clear hfz12_2
          try clear hfz12_3
          try clear hfz13_0
          try clear hfz13_1
          try clear hfz13_2
          try clear hfz13_3
          try clear hfz19_0
          try clear hfz19_1
          try clear hfz19_2
          try clear hfz19_3
          try clear hx221_0
          try clear hx221_1
          try clear hx221_2
          try clear hx221_3
          try clear hx221_4
          try clear p2
          try clear p221
          try clear q221
          obtain ⟨x4_3, rfl, HA, HK3, BK217, HB⟩ := hrel
          cases gk with
          | zero => exact absurd HA.out (by simp [spec_l25Good.l1])
          | succ k3 =>
           have H := HA.out
           clear HA
           simp only [spec_l25Good.l1] at H
           by_cases c22 : x4_3 < x3_2
           ·rw [if_pos c22] at H
            have c22b0 : decide (x4_3 < x3_2) = true := decide_eq_true c22
            clear c22
            by_cases c23 : 0 ≤ x3_2
            ·rw [if_pos c23] at H
             have c23b0 : decide (0 ≤ x3_2) = true := decide_eq_true c23
             clear c23
             by_cases c24 : x3_2 < (l0_2.length : Int)
             ·rw [if_pos c24] at H
              have c24b0 : decide (x3_2 < (l0_2.length : Int)) = true := decide_eq_true c24
              clear c24
              by_cases c25 : ((rd_T34 l0_2 x3_2).f3) > 0
              ·rw [if_pos c25] at H
               have c25b0 : decide (0 < ((rd_T34 l0_2 x3_2).f3)) = true := decide_eq_true c25
               clear c25
               by_cases c26 : 0 ≤ x4_3
               ·rw [if_pos c26] at H
                have c26b0 : decide (0 ≤ x4_3) = true := decide_eq_true c26
                clear c26
                by_cases c27 : x4_3 < (l0_2.length : Int)
                ·rw [if_pos c27] at H
                 have c27b0 : decide (x4_3 < (l0_2.length : Int)) = true := decide_eq_true c27
                 clear c27
                 by_cases c28 : ((rd_T34 l0_2 x4_3).f3) = ((rd_T34 l0_2 x3_2).f3)
                 ·rw [if_pos c28] at H
                  have c28b0 : (((rd_T34 l0_2 x4_3).f3) == ((rd_T34 l0_2 x3_2).f3)) = true := beq_iff_eq.mpr c28
                  have c28b1 : (((rd_T34 l0_2 x4_3).f3) != ((rd_T34 l0_2 x3_2).f3)) = false := bne_eq_false_iff_eq.mpr c28
                  clear c28
                  obtain rfl := Option.some.inj H
                  try go_wp2
                  replace BK217 := Aside0.mk (blk_drew BK217.out)
                  replace HB := Aside0.mk (below_drew1 HB.out)
                  have p223 : 0 ≤ (x3_2 : Int) := of_decide_eq_true (by first | (with_reducible assumption) | assumption)
                  have q223 : x3_2 < (l0_2.length : Int) := of_decide_eq_true (by first | (with_reducible assumption) | assumption)
                  obtain ⟨ad223, e223, hx223_0, hx223_1, hx223_2, hx223_3, hx223_4⟩ := at_T34 HR0_2.out x3_2 p223 q223
                  have hw223_4 := hx223_4
                  have hw223_3 := hx223_3
                  have hw223_2 := hx223_2
                  have hw223_1 := hx223_1
                  have hw223_0 := hx223_0
                  obtain rfl : ad221 = ad223 := (by injection e223)
                  replace hx223_0 := (HB.out.cell (World.block_lt_of_cell? w _ hx223_0)).trans hx223_0
                  replace hx223_1 := (HB.out.cell (World.block_lt_of_cell? w _ hx223_1)).trans hx223_1
                  replace hx223_2 := (HB.out.cell (World.block_lt_of_cell? w _ hx223_2)).trans hx223_2
                  replace hx223_3 := (HB.out.cell (World.block_lt_of_cell? w _ hx223_3)).trans hx223_3
                  replace hx223_4 := (HB.out.cell (World.block_lt_of_cell? w _ hx223_4)).trans hx223_4
                  replace p223 := eq_true p223
                  replace q223 := eq_true q223
                  have p224 : 0 ≤ (x4_3 : Int) := of_decide_eq_true (by first | (with_reducible assumption) | assumption)
                  have q224 : x4_3 < (l0_2.length : Int) := of_decide_eq_true (by first | (with_reducible assumption) | assumption)
                  obtain ⟨ad224, e224, hx224_0, hx224_1, hx224_2, hx224_3, hx224_4⟩ := at_T34 HR0_2.out x4_3 p224 q224
                  have hw224_4 := hx224_4
                  have hw224_3 := hx224_3
                  have hw224_2 := hx224_2
                  have hw224_1 := hx224_1
                  have hw224_0 := hx224_0
                  obtain rfl : ad221 = ad224 := (by injection e224)
                  replace hx224_0 := (HB.out.cell (World.block_lt_of_cell? w _ hx224_0)).trans hx224_0
                  replace hx224_1 := (HB.out.cell (World.block_lt_of_cell? w _ hx224_1)).trans hx224_1
                  replace hx224_2 := (HB.out.cell (World.block_lt_of_cell? w _ hx224_2)).trans hx224_2
                  replace hx224_3 := (HB.out.cell (World.block_lt_of_cell? w _ hx224_3)).trans hx224_3
                  replace hx224_4 := (HB.out.cell (World.block_lt_of_cell? w _ hx224_4)).trans hx224_4
                  replace p224 := eq_true p224
                  replace q224 := eq_true q224
                  have p225 : 0 ≤ (x3_2 : Int) := of_decide_eq_true (by first | (with_reducible assumption) | assumption)
                  have q225 : x3_2 < (l0_2.length : Int) := of_decide_eq_true (by first | (with_reducible assumption) | assumption)
                  obtain ⟨ad225, e225, hx225_0, hx225_1, hx225_2, hx225_3, hx225_4⟩ := at_T34 HR0_2.out x3_2 p225 q225
                  have hw225_4 := hx225_4
                  have hw225_3 := hx225_3
                  have hw225_2 := hx225_2
                  have hw225_1 := hx225_1
                  have hw225_0 := hx225_0
                  obtain rfl : ad221 = ad225 := (by injection e225)
                  replace hx225_0 := (HB.out.cell (World.block_lt_of_cell? w _ hx225_0)).trans hx225_0
                  replace hx225_1 := (HB.out.cell (World.block_lt_of_cell? w _ hx225_1)).trans hx225_1
                  replace hx225_2 := (HB.out.cell (World.block_lt_of_cell? w _ hx225_2)).trans hx225_2
                  replace hx225_3 := (HB.out.cell (World.block_lt_of_cell? w _ hx225_3)).trans hx225_3
                  replace hx225_4 := (HB.out.cell (World.block_lt_of_cell? w _ hx225_4)).trans hx225_4
                  replace p225 := eq_true p225
                  replace q225 := eq_true q225
                  refine start_ (n := 22) (S := fun w' => w'.cell? ⟨gb217, 0, none⟩ = some (.int .i64 a0_0) ∧ w'.cell? ⟨gb217, 1, none⟩ = some (.int .i64 a0_1) ∧ w'.cell? ⟨gb217, 2, none⟩ = some (.slice (some ad221) l0_2.length c0_2) ∧ w'.cell? ⟨gb217, 3, none⟩ = some (.int .i64 a0_3) ∧ w'.cell? (ad221.add ((x3_2).toNat * 5)) = some (.int .i64 ((rd_T34 l0_2 x3_2).f0)) ∧ w'.cell? ⟨(ad221.add ((x3_2).toNat * 5)).block, (ad221.add ((x3_2).toNat * 5)).off + 1, none⟩ = some (.int .i64 ((rd_T34 l0_2 x3_2).f1)) ∧ w'.cell? ⟨(ad221.add ((x3_2).toNat * 5)).block, (ad221.add ((x3_2).toNat * 5)).off + 2, none⟩ = some (.int .i64 ((rd_T34 l0_2 x3_2).f2)) ∧ w'.cell? ⟨(ad221.add ((x3_2).toNat * 5)).block, (ad221.add ((x3_2).toNat * 5)).off + 3, none⟩ = some (.int .i64 ((rd_T34 l0_2 x3_2).f3)) ∧ w'.cell? ⟨(ad221.add ((x3_2).toNat * 5)).block, (ad221.add ((x3_2).toNat * 5)).off + 4, none⟩ = some (.int .i64 ((rd_T34 l0_2 x3_2).f4)) ∧ w'.cell? (ad221.add ((x4_3).toNat * 5)) = some (.int .i64 ((rd_T34 l0_2 x4_3).f0)) ∧ w'.cell? ⟨(ad221.add ((x4_3).toNat * 5)).block, (ad221.add ((x4_3).toNat * 5)).off + 1, none⟩ = some (.int .i64 ((rd_T34 l0_2 x4_3).f1)) ∧ w'.cell? ⟨(ad221.add ((x4_3).toNat * 5)).block, (ad221.add ((x4_3).toNat * 5)).off + 2, none⟩ = some (.int .i64 ((rd_T34 l0_2 x4_3).f2)) ∧ w'.cell? ⟨(ad221.add ((x4_3).toNat * 5)).block, (ad221.add ((x4_3).toNat * 5)).off + 3, none⟩ = some (.int .i64 ((rd_T34 l0_2 x4_3).f3)) ∧ w'.cell? ⟨(ad221.add ((x4_3).toNat * 5)).block, (ad221.add ((x4_3).toNat * 5)).off + 4, none⟩ = some (.int .i64 ((rd_T34 l0_2 x4_3).f4)) ∧ w'.cell? (ad221.add ((x3_2).toNat * 5)) = some (.int .i64 ((rd_T34 l0_2 x3_2).f0)) ∧ w'.cell? ⟨(ad221.add ((x3_2).toNat * 5)).block, (ad221.add ((x3_2).toNat * 5)).off + 1, none⟩ = some (.int .i64 ((rd_T34 l0_2 x3_2).f1)) ∧ w'.cell? ⟨(ad221.add ((x3_2).toNat * 5)).block, (ad221.add ((x3_2).toNat * 5)).off + 2, none⟩ = some (.int .i64 ((rd_T34 l0_2 x3_2).f2)) ∧ w'.cell? ⟨(ad221.add ((x3_2).toNat * 5)).block, (ad221.add ((x3_2).toNat * 5)).off + 3, none⟩ = some (.int .i64 ((rd_T34 l0_2 x3_2).f3)) ∧ w'.cell? ⟨(ad221.add ((x3_2).toNat * 5)).block, (ad221.add ((x3_2).toNat * 5)).off + 4, none⟩ = some (.int .i64 ((rd_T34 l0_2 x3_2).f4))) (ds := []) #[false, false, false, false, false, false, false, false, false, false, false, false, false, false, false, false, false, false, false, false, false, false] (by kernel_rfl) rfl rfl ⟨bc_ BK217 0, bc_ BK217 1, bc_ BK217 2, bc_ BK217 3, (bh_ HB hw223_0 :), (bh_ HB hw223_1 :), (bh_ HB hw223_2 :), (bh_ HB hw223_3 :), (bh_ HB hw223_4 :), (bh_ HB hw224_0 :), (bh_ HB hw224_1 :), (bh_ HB hw224_2 :), (bh_ HB hw224_3 :), (bh_ HB hw224_4 :), (bh_ HB hw225_0 :), (bh_ HB hw225_1 :), (bh_ HB hw225_2 :), (bh_ HB hw225_3 :), (bh_ HB hw225_4 :)⟩ (fun hHeld => ?_); refine with_tabW spec_l25Good.tab11 spec_l25Good.bits11 (fun HT_ HW_ => ?_)
                  generalize wr.drew = w29 at BK217 HB hx223_0 hx223_1 hx223_2 hx223_3 hx223_4 hx224_0 hx224_1 hx224_2 hx224_3 hx224_4 hx225_0 hx225_1 hx225_2 hx225_3 hx225_4 hHeld ⊢
                  refine pureA (N := some 47) 0 HT_ ?_
                  refine pureA (N := some 49) 2 HT_ ?_
                  refine takeA (N := some 48) 1 HT_ HW_ hHeld ?_
                  refine pureA (N := some 50) 3 HT_ ?_
                  refine pureA (N := some 51) 4 HT_ ?_
                  refine takeA (N := some 52) 5 HT_ HW_ hHeld ?_
                  refine pureA (N := some 53) 6 HT_ ?_
                  refine pureA (N := some 54) 7 HT_ ?_
                  refine pureA (N := some 55) 8 HT_ ?_
                  refine pureA (N := some 57) 10 HT_ ?_
                  refine pureA (N := some 61) 14 HT_ ?_
                  refine pureA (N := some 63) 16 HT_ ?_
                  refine takeA (N := some 56) 9 HT_ HW_ hHeld ?_
                  refine pureA (N := some 58) 11 HT_ ?_
                  refine pureA (N := some 59) 12 HT_ ?_
                  refine takeA (N := some 60) 13 HT_ HW_ hHeld ?_
                  refine takeA (N := some 62) 15 HT_ HW_ hHeld ?_
                  refine pureA (N := some 64) 17 HT_ ?_
                  refine pureA (N := some 65) 18 HT_ ?_
                  refine takeA (N := some 66) 19 HT_ HW_ hHeld ?_
                  refine pureA (N := some 67) 20 HT_ ?_
                  refine pureA (N := some 68) 21 HT_ ?_
                  refine done_ (done_of HT_.out (by kernel_rfl)) ?_
                  try go_wp2
                  go_ret
                  exact ⟨by first | rfl | (simp [errW_none, errW_some] <;> rfl) | (simp [*, errW_none, errW_some] <;> rfl), (bw_ w)⟩
                 ·rw [if_neg c28] at H
                  have c28b0 : (((rd_T34 l0_2 x4_3).f3) == ((rd_T34 l0_2 x3_2).f3)) = false := beq_eq_false_iff_ne.mpr c28
                  have c28b1 : (((rd_T34 l0_2 x4_3).f3) != ((rd_T34 l0_2 x3_2).f3)) = true := bne_iff_ne.mpr c28
                  have H' := Aside0.mk H
                  clear H
                  try go_wp2
                  replace BK217 := Aside0.mk (blk_drew BK217.out)
                  replace HB := Aside0.mk (below_drew1 HB.out)
                  have p223 : 0 ≤ (x3_2 : Int) := of_decide_eq_true (by first | (with_reducible assumption) | assumption)
                  have q223 : x3_2 < (l0_2.length : Int) := of_decide_eq_true (by first | (with_reducible assumption) | assumption)
                  obtain ⟨ad223, e223, hx223_0, hx223_1, hx223_2, hx223_3, hx223_4⟩ := at_T34 HR0_2.out x3_2 p223 q223
                  have hw223_4 := hx223_4
                  have hw223_3 := hx223_3
                  have hw223_2 := hx223_2
                  have hw223_1 := hx223_1
                  have hw223_0 := hx223_0
                  obtain rfl : ad221 = ad223 := (by injection e223)
                  replace hx223_0 := (HB.out.cell (World.block_lt_of_cell? w _ hx223_0)).trans hx223_0
                  replace hx223_1 := (HB.out.cell (World.block_lt_of_cell? w _ hx223_1)).trans hx223_1
                  replace hx223_2 := (HB.out.cell (World.block_lt_of_cell? w _ hx223_2)).trans hx223_2
                  replace hx223_3 := (HB.out.cell (World.block_lt_of_cell? w _ hx223_3)).trans hx223_3
                  replace hx223_4 := (HB.out.cell (World.block_lt_of_cell? w _ hx223_4)).trans hx223_4
                  replace p223 := eq_true p223
                  replace q223 := eq_true q223
                  have p224 : 0 ≤ (x4_3 : Int) := of_decide_eq_true (by first | (with_reducible assumption) | assumption)
                  have q224 : x4_3 < (l0_2.length : Int) := of_decide_eq_true (by first | (with_reducible assumption) | assumption)
                  obtain ⟨ad224, e224, hx224_0, hx224_1, hx224_2, hx224_3, hx224_4⟩ := at_T34 HR0_2.out x4_3 p224 q224
                  have hw224_4 := hx224_4
                  have hw224_3 := hx224_3
                  have hw224_2 := hx224_2
                  have hw224_1 := hx224_1
                  have hw224_0 := hx224_0
                  obtain rfl : ad221 = ad224 := (by injection e224)
                  replace hx224_0 := (HB.out.cell (World.block_lt_of_cell? w _ hx224_0)).trans hx224_0
                  replace hx224_1 := (HB.out.cell (World.block_lt_of_cell? w _ hx224_1)).trans hx224_1
                  replace hx224_2 := (HB.out.cell (World.block_lt_of_cell? w _ hx224_2)).trans hx224_2
                  replace hx224_3 := (HB.out.cell (World.block_lt_of_cell? w _ hx224_3)).trans hx224_3
                  replace hx224_4 := (HB.out.cell (World.block_lt_of_cell? w _ hx224_4)).trans hx224_4
                  replace p224 := eq_true p224
                  replace q224 := eq_true q224
                  have p225 : 0 ≤ (x3_2 : Int) := of_decide_eq_true (by first | (with_reducible assumption) | assumption)
                  have q225 : x3_2 < (l0_2.length : Int) := of_decide_eq_true (by first | (with_reducible assumption) | assumption)
                  obtain ⟨ad225, e225, hx225_0, hx225_1, hx225_2, hx225_3, hx225_4⟩ := at_T34 HR0_2.out x3_2 p225 q225
                  have hw225_4 := hx225_4
                  have hw225_3 := hx225_3
                  have hw225_2 := hx225_2
                  have hw225_1 := hx225_1
                  have hw225_0 := hx225_0
                  obtain rfl : ad221 = ad225 := (by injection e225)
                  replace hx225_0 := (HB.out.cell (World.block_lt_of_cell? w _ hx225_0)).trans hx225_0
                  replace hx225_1 := (HB.out.cell (World.block_lt_of_cell? w _ hx225_1)).trans hx225_1
                  replace hx225_2 := (HB.out.cell (World.block_lt_of_cell? w _ hx225_2)).trans hx225_2
                  replace hx225_3 := (HB.out.cell (World.block_lt_of_cell? w _ hx225_3)).trans hx225_3
                  replace hx225_4 := (HB.out.cell (World.block_lt_of_cell? w _ hx225_4)).trans hx225_4
                  replace p225 := eq_true p225
                  replace q225 := eq_true q225
                  refine start_ (n := 22) (S := fun w' => w'.cell? ⟨gb217, 0, none⟩ = some (.int .i64 a0_0) ∧ w'.cell? ⟨gb217, 1, none⟩ = some (.int .i64 a0_1) ∧ w'.cell? ⟨gb217, 2, none⟩ = some (.slice (some ad221) l0_2.length c0_2) ∧ w'.cell? ⟨gb217, 3, none⟩ = some (.int .i64 a0_3) ∧ w'.cell? (ad221.add ((x3_2).toNat * 5)) = some (.int .i64 ((rd_T34 l0_2 x3_2).f0)) ∧ w'.cell? ⟨(ad221.add ((x3_2).toNat * 5)).block, (ad221.add ((x3_2).toNat * 5)).off + 1, none⟩ = some (.int .i64 ((rd_T34 l0_2 x3_2).f1)) ∧ w'.cell? ⟨(ad221.add ((x3_2).toNat * 5)).block, (ad221.add ((x3_2).toNat * 5)).off + 2, none⟩ = some (.int .i64 ((rd_T34 l0_2 x3_2).f2)) ∧ w'.cell? ⟨(ad221.add ((x3_2).toNat * 5)).block, (ad221.add ((x3_2).toNat * 5)).off + 3, none⟩ = some (.int .i64 ((rd_T34 l0_2 x3_2).f3)) ∧ w'.cell? ⟨(ad221.add ((x3_2).toNat * 5)).block, (ad221.add ((x3_2).toNat * 5)).off + 4, none⟩ = some (.int .i64 ((rd_T34 l0_2 x3_2).f4)) ∧ w'.cell? (ad221.add ((x4_3).toNat * 5)) = some (.int .i64 ((rd_T34 l0_2 x4_3).f0)) ∧ w'.cell? ⟨(ad221.add ((x4_3).toNat * 5)).block, (ad221.add ((x4_3).toNat * 5)).off + 1, none⟩ = some (.int .i64 ((rd_T34 l0_2 x4_3).f1)) ∧ w'.cell? ⟨(ad221.add ((x4_3).toNat * 5)).block, (ad221.add ((x4_3).toNat * 5)).off + 2, none⟩ = some (.int .i64 ((rd_T34 l0_2 x4_3).f2)) ∧ w'.cell? ⟨(ad221.add ((x4_3).toNat * 5)).block, (ad221.add ((x4_3).toNat * 5)).off + 3, none⟩ = some (.int .i64 ((rd_T34 l0_2 x4_3).f3)) ∧ w'.cell? ⟨(ad221.add ((x4_3).toNat * 5)).block, (ad221.add ((x4_3).toNat * 5)).off + 4, none⟩ = some (.int .i64 ((rd_T34 l0_2 x4_3).f4)) ∧ w'.cell? (ad221.add ((x3_2).toNat * 5)) = some (.int .i64 ((rd_T34 l0_2 x3_2).f0)) ∧ w'.cell? ⟨(ad221.add ((x3_2).toNat * 5)).block, (ad221.add ((x3_2).toNat * 5)).off + 1, none⟩ = some (.int .i64 ((rd_T34 l0_2 x3_2).f1)) ∧ w'.cell? ⟨(ad221.add ((x3_2).toNat * 5)).block, (ad221.add ((x3_2).toNat * 5)).off + 2, none⟩ = some (.int .i64 ((rd_T34 l0_2 x3_2).f2)) ∧ w'.cell? ⟨(ad221.add ((x3_2).toNat * 5)).block, (ad221.add ((x3_2).toNat * 5)).off + 3, none⟩ = some (.int .i64 ((rd_T34 l0_2 x3_2).f3)) ∧ w'.cell? ⟨(ad221.add ((x3_2).toNat * 5)).block, (ad221.add ((x3_2).toNat * 5)).off + 4, none⟩ = some (.int .i64 ((rd_T34 l0_2 x3_2).f4))) (ds := []) #[false, false, false, false, false, false, false, false, false, false, false, false, false, false, false, false, false, false, false, false, false, false] (by kernel_rfl) rfl rfl ⟨bc_ BK217 0, bc_ BK217 1, bc_ BK217 2, bc_ BK217 3, (bh_ HB hw223_0 :), (bh_ HB hw223_1 :), (bh_ HB hw223_2 :), (bh_ HB hw223_3 :), (bh_ HB hw223_4 :), (bh_ HB hw224_0 :), (bh_ HB hw224_1 :), (bh_ HB hw224_2 :), (bh_ HB hw224_3 :), (bh_ HB hw224_4 :), (bh_ HB hw225_0 :), (bh_ HB hw225_1 :), (bh_ HB hw225_2 :), (bh_ HB hw225_3 :), (bh_ HB hw225_4 :)⟩ (fun hHeld => ?_); refine with_tabW spec_l25Good.tab11 spec_l25Good.bits11 (fun HT_ HW_ => ?_)
                  generalize wr.drew = w30 at BK217 HB hx223_0 hx223_1 hx223_2 hx223_3 hx223_4 hx224_0 hx224_1 hx224_2 hx224_3 hx224_4 hx225_0 hx225_1 hx225_2 hx225_3 hx225_4 hHeld ⊢
                  refine pureA (N := some 47) 0 HT_ ?_
                  refine pureA (N := some 49) 2 HT_ ?_
                  refine takeA (N := some 48) 1 HT_ HW_ hHeld ?_
                  refine pureA (N := some 50) 3 HT_ ?_
                  refine pureA (N := some 51) 4 HT_ ?_
                  refine takeA (N := some 52) 5 HT_ HW_ hHeld ?_
                  refine pureA (N := some 53) 6 HT_ ?_
                  refine pureA (N := some 54) 7 HT_ ?_
                  refine pureA (N := some 55) 8 HT_ ?_
                  refine pureA (N := some 57) 10 HT_ ?_
                  refine pureA (N := some 61) 14 HT_ ?_
                  refine pureA (N := some 63) 16 HT_ ?_
                  refine takeA (N := some 56) 9 HT_ HW_ hHeld ?_
                  refine pureA (N := some 58) 11 HT_ ?_
                  refine pureA (N := some 59) 12 HT_ ?_
                  refine takeA (N := some 60) 13 HT_ HW_ hHeld ?_
                  refine takeA (N := some 62) 15 HT_ HW_ hHeld ?_
                  refine pureA (N := some 64) 17 HT_ ?_
                  refine pureA (N := some 65) 18 HT_ ?_
                  refine takeA (N := some 66) 19 HT_ HW_ hHeld ?_
                  refine pureA (N := some 67) 20 HT_ ?_
                  refine pureA (N := some 68) 21 HT_ ?_
                  refine done_ (done_of HT_.out (by kernel_rfl)) ?_
                  try go_wp2
                  go_roundg k3
                  case measure => have := HJ1.out; have := HK2.out; have := HK3.out; omega
                  case rel => exact ⟨(wrap64 (x4_3 + 1)), (by first | rfl | (simp; done) | (simp [*]; done)), H', ⟨by have := HJ1.out; have := HK2.out; have := HK3.out; omega⟩, ⟨bk_ BK217⟩, ⟨(bw_ w)⟩⟩
                ·rw [if_neg c27] at H
                 exact absurd H (by simp)
               ·rw [if_neg c26] at H
                exact absurd H (by simp)
              ·rw [if_neg c25] at H
               have c25b0 : decide (0 < ((rd_T34 l0_2 x3_2).f3)) = false := decide_eq_false c25
               clear c25
               have H' := Aside0.mk H
               clear H
               try go_wp2
               replace BK217 := Aside0.mk (blk_drew BK217.out)
               replace HB := Aside0.mk (below_drew1 HB.out)
               have p223 : 0 ≤ (x3_2 : Int) := of_decide_eq_true (by first | (with_reducible assumption) | assumption)
               have q223 : x3_2 < (l0_2.length : Int) := of_decide_eq_true (by first | (with_reducible assumption) | assumption)
               obtain ⟨ad223, e223, hx223_0, hx223_1, hx223_2, hx223_3, hx223_4⟩ := at_T34 HR0_2.out x3_2 p223 q223
               have hw223_4 := hx223_4
               have hw223_3 := hx223_3
               have hw223_2 := hx223_2
               have hw223_1 := hx223_1
               have hw223_0 := hx223_0
               obtain rfl : ad221 = ad223 := (by injection e223)
               replace hx223_0 := (HB.out.cell (World.block_lt_of_cell? w _ hx223_0)).trans hx223_0
               replace hx223_1 := (HB.out.cell (World.block_lt_of_cell? w _ hx223_1)).trans hx223_1
               replace hx223_2 := (HB.out.cell (World.block_lt_of_cell? w _ hx223_2)).trans hx223_2
               replace hx223_3 := (HB.out.cell (World.block_lt_of_cell? w _ hx223_3)).trans hx223_3
               replace hx223_4 := (HB.out.cell (World.block_lt_of_cell? w _ hx223_4)).trans hx223_4
               replace p223 := eq_true p223
               replace q223 := eq_true q223
               refine start_ (n := 22) (S := fun w' => w'.cell? ⟨gb217, 0, none⟩ = some (.int .i64 a0_0) ∧ w'.cell? ⟨gb217, 1, none⟩ = some (.int .i64 a0_1) ∧ w'.cell? ⟨gb217, 2, none⟩ = some (.slice (some ad221) l0_2.length c0_2) ∧ w'.cell? ⟨gb217, 3, none⟩ = some (.int .i64 a0_3) ∧ w'.cell? (ad221.add ((x3_2).toNat * 5)) = some (.int .i64 ((rd_T34 l0_2 x3_2).f0)) ∧ w'.cell? ⟨(ad221.add ((x3_2).toNat * 5)).block, (ad221.add ((x3_2).toNat * 5)).off + 1, none⟩ = some (.int .i64 ((rd_T34 l0_2 x3_2).f1)) ∧ w'.cell? ⟨(ad221.add ((x3_2).toNat * 5)).block, (ad221.add ((x3_2).toNat * 5)).off + 2, none⟩ = some (.int .i64 ((rd_T34 l0_2 x3_2).f2)) ∧ w'.cell? ⟨(ad221.add ((x3_2).toNat * 5)).block, (ad221.add ((x3_2).toNat * 5)).off + 3, none⟩ = some (.int .i64 ((rd_T34 l0_2 x3_2).f3)) ∧ w'.cell? ⟨(ad221.add ((x3_2).toNat * 5)).block, (ad221.add ((x3_2).toNat * 5)).off + 4, none⟩ = some (.int .i64 ((rd_T34 l0_2 x3_2).f4))) (ds := []) #[false, false, false, false, false, false, false, false, false, false, false, false, false, false, false, false, false, false, false, false, false, false] (by kernel_rfl) rfl rfl ⟨bc_ BK217 0, bc_ BK217 1, bc_ BK217 2, bc_ BK217 3, (bh_ HB hw223_0 :), (bh_ HB hw223_1 :), (bh_ HB hw223_2 :), (bh_ HB hw223_3 :), (bh_ HB hw223_4 :)⟩ (fun hHeld => ?_); refine with_tabW spec_l25Good.tab11 spec_l25Good.bits11 (fun HT_ HW_ => ?_)
               generalize wr.drew = w31 at BK217 HB hx223_0 hx223_1 hx223_2 hx223_3 hx223_4 hHeld ⊢
               refine pureA (N := some 47) 0 HT_ ?_
               refine pureA (N := some 49) 2 HT_ ?_
               refine takeA (N := some 48) 1 HT_ HW_ hHeld ?_
               refine pureA (N := some 50) 3 HT_ ?_
               refine pureA (N := some 51) 4 HT_ ?_
               refine takeA (N := some 52) 5 HT_ HW_ hHeld ?_
               refine pureA (N := some 53) 6 HT_ ?_
               refine pureA (N := some 54) 7 HT_ ?_
               refine pure_ (i := 8) (N := some 55) (v := undef) (a' := ?_) #[true, true, true, true, true, true, true, true, true, false, false, false, false, false, false, false, false, false, false, false, false, false] rfl rfl (any_of HT_.out (by kernel_rfl)) (fun _ _ _ h => h) (Or.inr ⟨by rfl, rfl⟩) ?_ ?_
               rotate_left
               ·simp only [Act.put, List.setIfInBounds_toArray, List.set_cons_zero, List.set_cons_succ, i64_w, i32_w]
                rfl
               refine pure_ (i := 9) (N := some 56) (v := undef) (a' := ?_) #[true, true, true, true, true, true, true, true, true, true, false, false, false, false, false, false, false, false, false, false, false, false] rfl rfl (any_of HT_.out (by kernel_rfl)) (fun _ _ _ h => h) (Or.inr ⟨by rfl, rfl⟩) ?_ ?_
               rotate_left
               ·simp only [Act.put, List.setIfInBounds_toArray, List.set_cons_zero, List.set_cons_succ, i64_w, i32_w]
                rfl
               refine pure_ (i := 10) (N := some 57) (v := undef) (a' := ?_) #[true, true, true, true, true, true, true, true, true, true, true, false, false, false, false, false, false, false, false, false, false, false] rfl rfl (any_of HT_.out (by kernel_rfl)) (fun _ _ _ h => h) (Or.inr ⟨by rfl, rfl⟩) ?_ ?_
               rotate_left
               ·simp only [Act.put, List.setIfInBounds_toArray, List.set_cons_zero, List.set_cons_succ, i64_w, i32_w]
                rfl
               refine pure_ (i := 11) (N := some 58) (v := undef) (a' := ?_) #[true, true, true, true, true, true, true, true, true, true, true, true, false, false, false, false, false, false, false, false, false, false] rfl rfl (any_of HT_.out (by kernel_rfl)) (fun _ _ _ h => h) (Or.inr ⟨by rfl, rfl⟩) ?_ ?_
               rotate_left
               ·simp only [Act.put, List.setIfInBounds_toArray, List.set_cons_zero, List.set_cons_succ, i64_w, i32_w]
                rfl
               refine pure_ (i := 12) (N := some 59) (v := undef) (a' := ?_) #[true, true, true, true, true, true, true, true, true, true, true, true, true, false, false, false, false, false, false, false, false, false] rfl rfl (any_of HT_.out (by kernel_rfl)) (fun _ _ _ h => h) (Or.inr ⟨by rfl, rfl⟩) ?_ ?_
               rotate_left
               ·simp only [Act.put, List.setIfInBounds_toArray, List.set_cons_zero, List.set_cons_succ, i64_w, i32_w]
                rfl
               refine pure_ (i := 13) (N := some 60) (v := undef) (a' := ?_) #[true, true, true, true, true, true, true, true, true, true, true, true, true, true, false, false, false, false, false, false, false, false] rfl rfl (any_of HT_.out (by kernel_rfl)) (fun _ _ _ h => h) (Or.inr ⟨by rfl, rfl⟩) ?_ ?_
               rotate_left
               ·simp only [Act.put, List.setIfInBounds_toArray, List.set_cons_zero, List.set_cons_succ, i64_w, i32_w]
                rfl
               refine pure_ (i := 14) (N := some 61) (v := undef) (a' := ?_) #[true, true, true, true, true, true, true, true, true, true, true, true, true, true, true, false, false, false, false, false, false, false] rfl rfl (any_of HT_.out (by kernel_rfl)) (fun _ _ _ h => h) (Or.inr ⟨by rfl, rfl⟩) ?_ ?_
               rotate_left
               ·simp only [Act.put, List.setIfInBounds_toArray, List.set_cons_zero, List.set_cons_succ, i64_w, i32_w]
                rfl
               refine pure_ (i := 15) (N := some 62) (v := undef) (a' := ?_) #[true, true, true, true, true, true, true, true, true, true, true, true, true, true, true, true, false, false, false, false, false, false] rfl rfl (any_of HT_.out (by kernel_rfl)) (fun _ _ _ h => h) (Or.inr ⟨by rfl, rfl⟩) ?_ ?_
               rotate_left
               ·simp only [Act.put, List.setIfInBounds_toArray, List.set_cons_zero, List.set_cons_succ, i64_w, i32_w]
                rfl
               refine pure_ (i := 16) (N := some 63) (v := undef) (a' := ?_) #[true, true, true, true, true, true, true, true, true, true, true, true, true, true, true, true, true, false, false, false, false, false] rfl rfl (any_of HT_.out (by kernel_rfl)) (fun _ _ _ h => h) (Or.inr ⟨by rfl, rfl⟩) ?_ ?_
               rotate_left
               ·simp only [Act.put, List.setIfInBounds_toArray, List.set_cons_zero, List.set_cons_succ, i64_w, i32_w]
                rfl
               refine pure_ (i := 17) (N := some 64) (v := undef) (a' := ?_) #[true, true, true, true, true, true, true, true, true, true, true, true, true, true, true, true, true, true, false, false, false, false] rfl rfl (any_of HT_.out (by kernel_rfl)) (fun _ _ _ h => h) (Or.inr ⟨by rfl, rfl⟩) ?_ ?_
               rotate_left
               ·simp only [Act.put, List.setIfInBounds_toArray, List.set_cons_zero, List.set_cons_succ, i64_w, i32_w]
                rfl
               refine pure_ (i := 18) (N := some 65) (v := undef) (a' := ?_) #[true, true, true, true, true, true, true, true, true, true, true, true, true, true, true, true, true, true, true, false, false, false] rfl rfl (any_of HT_.out (by kernel_rfl)) (fun _ _ _ h => h) (Or.inr ⟨by rfl, rfl⟩) ?_ ?_
               rotate_left
               ·simp only [Act.put, List.setIfInBounds_toArray, List.set_cons_zero, List.set_cons_succ, i64_w, i32_w]
                rfl
               refine pure_ (i := 19) (N := some 66) (v := undef) (a' := ?_) #[true, true, true, true, true, true, true, true, true, true, true, true, true, true, true, true, true, true, true, true, false, false] rfl rfl (any_of HT_.out (by kernel_rfl)) (fun _ _ _ h => h) (Or.inr ⟨by rfl, rfl⟩) ?_ ?_
               rotate_left
               ·simp only [Act.put, List.setIfInBounds_toArray, List.set_cons_zero, List.set_cons_succ, i64_w, i32_w]
                rfl
               refine pure_ (i := 20) (N := some 67) (v := undef) (a' := ?_) #[true, true, true, true, true, true, true, true, true, true, true, true, true, true, true, true, true, true, true, true, true, false] rfl rfl (any_of HT_.out (by kernel_rfl)) (fun _ _ _ h => h) (Or.inr ⟨by rfl, rfl⟩) ?_ ?_
               rotate_left
               ·simp only [Act.put, List.setIfInBounds_toArray, List.set_cons_zero, List.set_cons_succ, i64_w, i32_w]
                rfl
               refine pureA (N := some 68) 21 HT_ ?_
               refine done_ (done_of HT_.out (by kernel_rfl)) ?_
               try go_wp2
               go_roundg k3
               case measure => have := HJ1.out; have := HK2.out; have := HK3.out; omega
               case rel => exact ⟨(wrap64 (x4_3 + 1)), (by first | rfl | (simp; done) | (simp [*]; done)), H', ⟨by have := HJ1.out; have := HK2.out; have := HK3.out; omega⟩, ⟨bk_ BK217⟩, ⟨(bw_ w)⟩⟩
             ·rw [if_neg c24] at H
              exact absurd H (by simp)
            ·rw [if_neg c23] at H
             exact absurd H (by simp)
           ·rw [if_neg c22] at H
            have c22b0 : decide (x4_3 < x3_2) = false := decide_eq_false c22
            clear c22
            have H' := Aside0.mk H
            clear H
            go_wp2
            go_roundg k3
            case measure => have := HJ1.out; have := HK2.out; have := HK3.out; omega
            case rel => exact ⟨(wrap64 (x3_2 + 1)), (by first | rfl | (simp; done) | (simp [*]; done)), H', ⟨by have := HJ1.out; have := HK2.out; have := HK3.out; omega⟩, ⟨bk_ BK217⟩, ⟨(bw_ w)⟩⟩
        ·replace c18 := Bool.eq_false_iff.mpr c18
         subst c18
         have H1 : (some false) = some r := by rw [if_neg (show ¬ (false = true) by decide)] at H; exact H
         clear H
         have H := H1
         clear H1
         obtain rfl := Option.some.inj H
         obtain ⟨hcz32_0, hcz32_1, hcz32_2, hcz32_3, hfz32_0, hfz32_1, hfz32_2, hfz32_3⟩ := bc4_ (w := wr) BK217
         try go_wp2
         replace BK217 := Aside0.mk (blk_drew BK217.out)
         replace HB := Aside0.mk (below_drew1 HB.out)
         have p221 : 0 ≤ (x3_2 : Int) := of_decide_eq_true (by first | (with_reducible assumption) | assumption)
         have q221 : x3_2 < (l0_2.length : Int) := of_decide_eq_true (by first | (with_reducible assumption) | assumption)
         obtain ⟨ad221, e221, hx221_0, hx221_1, hx221_2, hx221_3, hx221_4⟩ := at_T34 HR0_2.out x3_2 p221 q221
         have hw221_4 := hx221_4
         have hw221_3 := hx221_3
         have hw221_2 := hx221_2
         have hw221_1 := hx221_1
         have hw221_0 := hx221_0
         cases e221
         replace hx221_0 := (HB.out.cell (World.block_lt_of_cell? w _ hx221_0)).trans hx221_0
         replace hx221_1 := (HB.out.cell (World.block_lt_of_cell? w _ hx221_1)).trans hx221_1
         replace hx221_2 := (HB.out.cell (World.block_lt_of_cell? w _ hx221_2)).trans hx221_2
         replace hx221_3 := (HB.out.cell (World.block_lt_of_cell? w _ hx221_3)).trans hx221_3
         replace hx221_4 := (HB.out.cell (World.block_lt_of_cell? w _ hx221_4)).trans hx221_4
         replace p221 := eq_true p221
         replace q221 := eq_true q221
         refine start_ (n := 8) (S := fun w' => w'.cell? ⟨gb217, 0, none⟩ = some (.int .i64 a0_0) ∧ w'.cell? ⟨gb217, 1, none⟩ = some (.int .i64 a0_1) ∧ w'.cell? ⟨gb217, 2, none⟩ = some (.slice (some ad221) l0_2.length c0_2) ∧ w'.cell? ⟨gb217, 3, none⟩ = some (.int .i64 a0_3) ∧ w'.cell? (ad221.add ((x3_2).toNat * 5)) = some (.int .i64 ((rd_T34 l0_2 x3_2).f0)) ∧ w'.cell? ⟨(ad221.add ((x3_2).toNat * 5)).block, (ad221.add ((x3_2).toNat * 5)).off + 1, none⟩ = some (.int .i64 ((rd_T34 l0_2 x3_2).f1)) ∧ w'.cell? ⟨(ad221.add ((x3_2).toNat * 5)).block, (ad221.add ((x3_2).toNat * 5)).off + 2, none⟩ = some (.int .i64 ((rd_T34 l0_2 x3_2).f2)) ∧ w'.cell? ⟨(ad221.add ((x3_2).toNat * 5)).block, (ad221.add ((x3_2).toNat * 5)).off + 3, none⟩ = some (.int .i64 ((rd_T34 l0_2 x3_2).f3)) ∧ w'.cell? ⟨(ad221.add ((x3_2).toNat * 5)).block, (ad221.add ((x3_2).toNat * 5)).off + 4, none⟩ = some (.int .i64 ((rd_T34 l0_2 x3_2).f4))) (ds := []) #[false, false, false, false, false, false, false, false] (by kernel_rfl) rfl rfl ⟨bc_ BK217 0, bc_ BK217 1, bc_ BK217 2, bc_ BK217 3, (bh_ HB hw221_0 :), (bh_ HB hw221_1 :), (bh_ HB hw221_2 :), (bh_ HB hw221_3 :), (bh_ HB hw221_4 :)⟩ (fun hHeld => ?_); refine with_tabW spec_l25Good.tab6 spec_l25Good.bits6 (fun HT_ HW_ => ?_)
         generalize wr.drew = w33 at BK217 HB hx221_0 hx221_1 hx221_2 hx221_3 hx221_4 hHeld ⊢
         refine pureA (N := some 35) 1 HT_ ?_
         refine pureA (N := some 37) 3 HT_ ?_
         refine takeA (N := some 34) 0 HT_ HW_ hHeld ?_
         refine takeA (N := some 36) 2 HT_ HW_ hHeld ?_
         refine pureA (N := some 38) 4 HT_ ?_
         refine takeA (N := some 39) 5 HT_ HW_ hHeld ?_
         refine oneA (N := some 40) 6 HT_ (fun K hK => ?_)
         refine goesA Try.func114 #[.agg #[.int .i64 a0_0, .int .i64 a0_1, .slice (some ad221) l0_2.length c0_2, .int .i64 a0_3], .agg #[.int .i64 ((rd_T34 l0_2 x3_2).f0), .int .i64 ((rd_T34 l0_2 x3_2).f1), .int .i64 ((rd_T34 l0_2 x3_2).f2), .int .i64 ((rd_T34 l0_2 x3_2).f3), .int .i64 ((rd_T34 l0_2 x3_2).f4)]] ?_
         with_reducible refine (spec_l25Carpet.calls k2 a0_0 a0_1 _ _ l0_2 a0_3 ((rd_T34 l0_2 x3_2).f0) ((rd_T34 l0_2 x3_2).f1) ((rd_T34 l0_2 x3_2).f2) ((rd_T34 l0_2 x3_2).f3) ((rd_T34 l0_2 x3_2).f4) false _ ?side1 ?side2 A17.out).mono ?_
         (case side1 => exact cb_ HR0_2 HB)
         (case side2 => exact HC0_2.out)
         rintro e w34 ⟨rfl, hb⟩
         refine ⟨_, rfl, ?_⟩
         replace BK217 := bb_ BK217 hb
         replace HB := Aside0.mk (below_step (bw_ w) hb)
         (try clear hb)
         (try clear hb2)
         (try clear hk)
         (try clear hi)
         refine hK.out _ _ ⟨bc_ BK217 0, bc_ BK217 1, bc_ BK217 2, bc_ BK217 3, (bh_ HB hw221_0 :), (bh_ HB hw221_1 :), (bh_ HB hw221_2 :), (bh_ HB hw221_3 :), (bh_ HB hw221_4 :)⟩ (fun hHeld => ?_)
         clear hK K
         refine normA (N := some 40) ?_
         refine pureA (N := some 41) 7 HT_ ?_
         refine done_ (done_of HT_.out (by kernel_rfl)) ?_
         try go_wp2
         go_ret
         exact ⟨by first | rfl | (simp [errW_none, errW_some] <;> rfl) | (simp [*, errW_none, errW_some] <;> rfl), (bw_ w)⟩
       ·rw [if_neg c16] at H
        exact absurd H (by simp)
      ·rw [if_neg c15] at H
       have c15b0 : decide (x3_2 < (l0_2.length : Int)) = false := decide_eq_false c15
       clear c15
       obtain rfl := Option.some.inj H
       obtain ⟨hcz35_0, hcz35_1, hcz35_2, hcz35_3, hfz35_0, hfz35_1, hfz35_2, hfz35_3⟩ := bc4_ (w := wr) BK217
       go_wp2
       go_ret
       exact ⟨by first | rfl | (simp [errW_none, errW_some] <;> rfl) | (simp [*, errW_none, errW_some] <;> rfl), (bw_ w)⟩

end Go.Proofs.Ytahglcpndiadnaa.PFnExactStepShop
