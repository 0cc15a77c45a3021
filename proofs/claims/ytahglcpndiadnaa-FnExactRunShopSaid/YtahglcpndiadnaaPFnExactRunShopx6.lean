-- Printed by this session's own program (wip/tool/myprint.py, over the kit's print); Lean checks it.
import Derived.Test.YtahglcpndiadnaaPFnExactRunShopx0
import Derived.Test.YtahglcpndiadnaaPFnExactRunShopx4
import Derived.Test.YtahglcpndiadnaaPFnExactRunShopx5
namespace Go.Proofs.Ytahglcpndiadnaa.PFnExactRunShop
open Go.RowKit Go.Proofs.YtahglcpndiadnaaW.PrintWords Go.Proofs.YtahglcpndiadnaaW.PrintLast Go.Proofs.YtahglcpndiadnaaW.PrintMore
attribute [local go_sem] max2_int min2_int max_two min_two max_three min_three max_four min_four   -- for this text's walks alone
set_option linter.unusedVariables false
set_option linter.unusedSimpArgs false

/-! ### spec_l25Good: function 63 -/
mutual
def spec_l25Good.j0 : Nat → Bool → Int → Int → List (S34) → Int → Option (Bool)
  | 0, _, _, _, _, _ => none
  | k + 1, x26, x225000, x225001, x225002, x225003 => if x26 = true then (some false) else (spec_l25Good.l0 k 0 x225000 x225001 x225002 x225003)
def spec_l25Good.l0 : Nat → Int → Int → Int → List (S34) → Int → Option (Bool)
  | 0, _, _, _, _, _ => none
  | k + 1, x3, x225000, x225001, x225002, x225003 => if x3 < (x225002.length : Int) then (if 0 ≤ x3 then ((spec_l25Carpet.f k x225000 x225001 x225002 x225003 ((rd_T34 x225002 x3).f0) ((rd_T34 x225002 x3).f1) ((rd_T34 x225002 x3).f2) ((rd_T34 x225002 x3).f3) ((rd_T34 x225002 x3).f4)).bind fun t229 => (if t229 = true then (spec_l25Good.l1 k x3 0 x225000 x225001 x225002 x225003) else (some false))) else (none)) else (some true)
def spec_l25Good.l1 : Nat → Int → Int → Int → Int → List (S34) → Int → Option (Bool)
  | 0, _, _, _, _, _, _ => none
  | k + 1, x3, x4, x225000, x225001, x225002, x225003 => if x4 < x3 then (if 0 ≤ x3 then (if x3 < (x225002.length : Int) then (if ((rd_T34 x225002 x3).f3) > 0 then (if 0 ≤ x4 then (if x4 < (x225002.length : Int) then (if ((rd_T34 x225002 x4).f3) = ((rd_T34 x225002 x3).f3) then (some false) else (spec_l25Good.l1 k x3 (wrap64 (x4 + 1)) x225000 x225001 x225002 x225003)) else (none)) else (none)) else (spec_l25Good.l1 k x3 (wrap64 (x4 + 1)) x225000 x225001 x225002 x225003)) else (none)) else (none)) else (spec_l25Good.l0 k (wrap64 (x3 + 1)) x225000 x225001 x225002 x225003)
end
def spec_l25Good.f (k : Nat) (a0_0 : Int) (a0_1 : Int) (l0_2 : List (S34)) (a0_3 : Int) : Option (Bool) := (spec_l2Day.f a0_0).bind fun t225 => (if t225 = true then ((spec_l1In.f a0_1 1 4).bind fun t226 => (if t226 = true then ((spec_l1In.f a0_3 0 1000000).bind fun t227 => (if t227 = true then (spec_l25Good.j0 k (decide ((l0_2.length : Int) > 8)) a0_0 a0_1 l0_2 a0_3) else (spec_l25Good.j0 k true a0_0 a0_1 l0_2 a0_3))) else (spec_l25Good.j0 k true a0_0 a0_1 l0_2 a0_3))) else (spec_l25Good.j0 k true a0_0 a0_1 l0_2 a0_3))
theorem spec_l25Good.mono_l : ∀ k, (∀ y0 y1 y2 y3 y4, LeO (spec_l25Good.j0 k y0 y1 y2 y3 y4) (spec_l25Good.j0 (k + 1) y0 y1 y2 y3 y4)) ∧ (∀ y0 y1 y2 y3 y4, LeO (spec_l25Good.l0 k y0 y1 y2 y3 y4) (spec_l25Good.l0 (k + 1) y0 y1 y2 y3 y4)) ∧ (∀ y0 y1 y2 y3 y4 y5, LeO (spec_l25Good.l1 k y0 y1 y2 y3 y4 y5) (spec_l25Good.l1 (k + 1) y0 y1 y2 y3 y4 y5))
  | 0 => ⟨fun _ _ _ _ _ r h => by simp [spec_l25Good.j0] at h, fun _ _ _ _ _ r h => by simp [spec_l25Good.l0] at h, fun _ _ _ _ _ _ r h => by simp [spec_l25Good.l1] at h⟩
  | k + 1 => by
    obtain ⟨ih0, ih1, ih2⟩ := spec_l25Good.mono_l k
    refine ⟨?_, ?_, ?_⟩
    · intro y0 y1 y2 y3 y4
      unfold spec_l25Good.j0
      repeat' first
      | (with_reducible exact ih0 _ _ _ _ _)
      | (with_reducible exact ih1 _ _ _ _ _)
      | (with_reducible exact ih2 _ _ _ _ _ _)
      | (with_reducible exact spec_l25Carpet.mono _ _ _ _ _ _ _ _ _ _)
      | (with_reducible exact LeO.refl _)
      | (with_reducible exact LeO.none _)
      | (with_reducible refine LeO.ite ?_ ?_)
      | (with_reducible refine LeO.bind ?_ (fun _ => ?_))
      | exact ih0 _ _ _ _ _
      | exact ih1 _ _ _ _ _
      | exact ih2 _ _ _ _ _ _
      | exact spec_l25Carpet.mono _ _ _ _ _ _ _ _ _ _
      | exact LeO.none _
      | refine LeO.ite ?_ ?_
      | refine LeO.bind ?_ (fun _ => ?_)
    · intro y0 y1 y2 y3 y4
      unfold spec_l25Good.l0
      repeat' first
      | (with_reducible exact ih0 _ _ _ _ _)
      | (with_reducible exact ih1 _ _ _ _ _)
      | (with_reducible exact ih2 _ _ _ _ _ _)
      | (with_reducible exact spec_l25Carpet.mono _ _ _ _ _ _ _ _ _ _)
      | (with_reducible exact LeO.refl _)
      | (with_reducible exact LeO.none _)
      | (with_reducible refine LeO.ite ?_ ?_)
      | (with_reducible refine LeO.bind ?_ (fun _ => ?_))
      | exact ih0 _ _ _ _ _
      | exact ih1 _ _ _ _ _
      | exact ih2 _ _ _ _ _ _
      | exact spec_l25Carpet.mono _ _ _ _ _ _ _ _ _ _
      | exact LeO.none _
      | refine LeO.ite ?_ ?_
      | refine LeO.bind ?_ (fun _ => ?_)
    · intro y0 y1 y2 y3 y4 y5
      unfold spec_l25Good.l1
      repeat' first
      | (with_reducible exact ih0 _ _ _ _ _)
      | (with_reducible exact ih1 _ _ _ _ _)
      | (with_reducible exact ih2 _ _ _ _ _ _)
      | (with_reducible exact spec_l25Carpet.mono _ _ _ _ _ _ _ _ _ _)
      | (with_reducible exact LeO.refl _)
      | (with_reducible exact LeO.none _)
      | (with_reducible refine LeO.ite ?_ ?_)
      | (with_reducible refine LeO.bind ?_ (fun _ => ?_))
      | exact ih0 _ _ _ _ _
      | exact ih1 _ _ _ _ _
      | exact ih2 _ _ _ _ _ _
      | exact spec_l25Carpet.mono _ _ _ _ _ _ _ _ _ _
      | exact LeO.none _
      | refine LeO.ite ?_ ?_
      | refine LeO.bind ?_ (fun _ => ?_)
theorem spec_l25Good.mono : ∀ a0 a1 a2 a3 k, LeO (spec_l25Good.f k a0 a1 a2 a3) (spec_l25Good.f (k + 1) a0 a1 a2 a3) := by
  intro a0 a1 a2 a3 k
  obtain ⟨ih0, ih1, ih2⟩ := spec_l25Good.mono_l k
  unfold spec_l25Good.f
  repeat' first
      | (with_reducible exact ih0 _ _ _ _ _)
      | (with_reducible exact ih1 _ _ _ _ _)
      | (with_reducible exact ih2 _ _ _ _ _ _)
      | (with_reducible exact spec_l25Carpet.mono _ _ _ _ _ _ _ _ _ _)
      | (with_reducible exact LeO.refl _)
      | (with_reducible exact LeO.none _)
      | (with_reducible refine LeO.ite ?_ ?_)
      | (with_reducible refine LeO.bind ?_ (fun _ => ?_))
      | exact ih0 _ _ _ _ _
      | exact ih1 _ _ _ _ _
      | exact ih2 _ _ _ _ _ _
      | exact spec_l25Carpet.mono _ _ _ _ _ _ _ _ _ _
      | exact LeO.none _
      | refine LeO.ite ?_ ?_
      | refine LeO.bind ?_ (fun _ => ?_)
def spec_l25Good.T6 : Bool × List (List Nat × List Nat) := (true, [([], []), ([], []), ([1], [1]), ([], []), ([2, 3], [2, 3]), ([4], [4]), ([0, 5], [0, 5]), ([6], [6])])
def spec_l25Good.B6 : List Nat := [0, 0, 2, 0, 14, 30, 63, 127]
theorem spec_l25Good.tab6 : rtab .any (opsOf Try.f63 6) = spec_l25Good.T6 := by kernel_rfl
theorem spec_l25Good.bits6 : waitsOk spec_l25Good.T6.2 spec_l25Good.B6 = true := by kernel_rfl
def spec_l25Good.T11 : Bool × List (List Nat × List Nat) := (true, [([], []), ([0], [0]), ([], []), ([1, 2], [1, 2]), ([3], [3]), ([4], [4]), ([5], [5]), ([6], [6]), ([7], [7]), ([8, 7], [7, 8]), ([7], [7]), ([9, 10, 7], [7, 9, 10]), ([11, 7], [7, 11]), ([12, 7], [7, 12]), ([7], [7]), ([14, 7], [7, 14]), ([7], [7]), ([15, 16, 7], [7, 15, 16]), ([17, 7], [7, 17]), ([18, 7], [7, 18]), ([13, 19, 7], [7, 13, 19]), ([7, 20], [7, 20])])
def spec_l25Good.B11 : List Nat := [0, 1, 0, 7, 15, 31, 63, 127, 255, 511, 255, 2047, 4095, 8191, 255, 16639, 255, 114943, 246015, 508159, 1048575, 2097151]
theorem spec_l25Good.tab11 : rtab .any (opsOf Try.f63 11) = spec_l25Good.T11 := by kernel_rfl
theorem spec_l25Good.bits11 : waitsOk spec_l25Good.T11.2 spec_l25Good.B11 = true := by kernel_rfl
set_option maxHeartbeats 8000000 in
set_option maxRecDepth 100000 in
theorem spec_l25Good.calls (k : Nat) (a0_0 : Int) (a0_1 : Int) (A0_2 : Option Addr) (c0_2 : Nat) (l0_2 : List (S34)) (a0_3 : Int) (r : Bool) (w : World) (hr0_2 : Kd.C k34 w A0_2 l0_2.length l0_2) (hc0_2 : l0_2.length ≤ c0_2) (h : spec_l25Good.f k a0_0 a0_1 l0_2 a0_3 = some r) :
  Calls Try.prog 63 #[.agg #[.int .i64 a0_0, .int .i64 a0_1, .slice A0_2 l0_2.length c0_2, .int .i64 a0_3]] w fun e w' => e = .returned (.bool r) ∧ Below w.heap.size w w' := by
 have hu24 := Try.underlying24
 have hu34 := Try.underlying34
 have HR0_2 := Aside0.mk hr0_2
 have HC0_2 := Aside0.mk hc0_2
 clear hr0_2 hc0_2
 have HB := Aside0.mk (Below.refl w.heap.size w)
 have H : ((spec_l2Day.f a0_0).bind fun t225 => (if t225 = true then ((spec_l1In.f a0_1 1 4).bind fun t226 => (if t226 = true then ((spec_l1In.f a0_3 0 1000000).bind fun t227 => (if t227 = true then (spec_l25Good.j0 k (decide ((l0_2.length : Int) > 8)) a0_0 a0_1 l0_2 a0_3) else (spec_l25Good.j0 k true a0_0 a0_1 l0_2 a0_3))) else (spec_l25Good.j0 k true a0_0 a0_1 l0_2 a0_3))) else (spec_l25Good.j0 k true a0_0 a0_1 l0_2 a0_3))) = some r := h
 clear h
 have HC2 := Aside0.mk H
 clear H
 go_enter Try.func63, Try.ntmps63
 go_upto_region 1 with (first | ((with_reducible refine gate_dst (N := 1) rfl ?_); refine box_ (N := 1) (cs := #[.int .i64 a0_0, .int .i64 a0_1, .slice A0_2 l0_2.length c0_2, .int .i64 a0_3]) (t := 24) ?_; intro gb224 hg w3 hbox hb; have BK224 := Aside0.mk (hbox); have GW224 := gz_ w hg; have GE224 := gz_ w hg; replace HB := hb_ w hb; clear hb hbox hg))
 (try simp only [Act.put, List.setIfInBounds_toArray, List.set_cons_zero, List.set_cons_succ])
 go_cut [26] (fun v26 wc => ∃ (kq : Nat) (x26_1 : Bool), v26 = .bool x26_1 ∧ Aside0 (spec_l25Good.j0 kq x26_1 a0_0 a0_1 l0_2 a0_3 = some r) ∧ Aside0 (kq ≤ k) ∧ Aside0 (wc.heap[gb224]? = some (.cells #[.int .i64 a0_0, .int .i64 a0_1, (.slice A0_2 l0_2.length c0_2), .int .i64 a0_3] 24 (0, 0))) ∧ Aside0 (Below w.heap.size w wc))
 case first =>
  have H := HC2.out
  clear HC2
  replace H := Option.bind_eq_some_iff.mp H
  obtain ⟨t225, A40, H⟩ := H
  (try dsimp only at H)
  have A4 := Aside0.mk A40
  clear A40
  by_cases c5 : t225 = true
  ·subst c5
   rw [if_pos rfl] at H
   replace H := Option.bind_eq_some_iff.mp H
   obtain ⟨t226, A60, H⟩ := H
   (try dsimp only at H)
   have A6 := Aside0.mk A60
   clear A60
   by_cases c7 : t226 = true
   ·subst c7
    rw [if_pos rfl] at H
    replace H := Option.bind_eq_some_iff.mp H
    obtain ⟨t227, A80, H⟩ := H
    (try dsimp only at H)
    have A8 := Aside0.mk A80
    clear A80
    by_cases c9 : t227 = true
    ·subst c9
     rw [if_pos rfl] at H
     have H' := Aside0.mk H
     clear H
     obtain ⟨hcz10_0, hcz10_1, hcz10_2, hcz10_3, hfz10_0, hfz10_1, hfz10_2, hfz10_3⟩ := bc4_ (w := w3) BK224
     go_wp2_with (first | ((with_reducible refine gate_callee (f := 113) rfl ?_); refine goesB (some 7) Try.func113 #[.int .i64 a0_0] ?_; (with_reducible refine (spec_l2Day.calls a0_0 true _ A4.out).mono ?_); rintro e w' ⟨rfl, ⟨nd, rfl⟩⟩; refine ⟨_, rfl, ?_⟩) | (go_at_call 82; (with_reducible refine (spec_l1In.calls a0_1 1 4 true _ A6.out).mono ?_); rintro e w' ⟨rfl, ⟨nd, rfl⟩⟩) | (go_at_call 82; (with_reducible refine (spec_l1In.calls a0_3 0 1000000 true _ A8.out).mono ?_); rintro e w' ⟨rfl, ⟨nd, rfl⟩⟩))
     go_meet
     case rel => exact ⟨_, (decide ((l0_2.length : Int) > 8)), (by first | rfl | (simp; done) | (simp [*]; done)), H', ⟨by first | omega | exact Nat.le_refl _⟩, ⟨bk_ BK224⟩, ⟨(bw_ w)⟩⟩
    ·replace c9 := Bool.eq_false_iff.mpr c9
     subst c9
     rw [if_neg (show ¬ (false = true) by decide)] at H
     have H' := Aside0.mk H
     clear H
     obtain ⟨hcz11_0, hcz11_1, hcz11_2, hcz11_3, hfz11_0, hfz11_1, hfz11_2, hfz11_3⟩ := bc4_ (w := w3) BK224
     go_wp2_with (first | ((with_reducible refine gate_callee (f := 113) rfl ?_); refine goesB (some 7) Try.func113 #[.int .i64 a0_0] ?_; (with_reducible refine (spec_l2Day.calls a0_0 true _ A4.out).mono ?_); rintro e w' ⟨rfl, ⟨nd, rfl⟩⟩; refine ⟨_, rfl, ?_⟩) | (go_at_call 82; (with_reducible refine (spec_l1In.calls a0_1 1 4 true _ A6.out).mono ?_); rintro e w' ⟨rfl, ⟨nd, rfl⟩⟩) | (go_at_call 82; (with_reducible refine (spec_l1In.calls a0_3 0 1000000 false _ A8.out).mono ?_); rintro e w' ⟨rfl, ⟨nd, rfl⟩⟩))
     go_meet
     case rel => exact ⟨_, (true), (by first | rfl | (simp; done) | (simp [*]; done)), H', ⟨by first | omega | exact Nat.le_refl _⟩, ⟨bk_ BK224⟩, ⟨(bw_ w)⟩⟩
   ·replace c7 := Bool.eq_false_iff.mpr c7
    subst c7
    rw [if_neg (show ¬ (false = true) by decide)] at H
    have H' := Aside0.mk H
    clear H
    obtain ⟨hcz12_0, hcz12_1, hcz12_2, hcz12_3, hfz12_0, hfz12_1, hfz12_2, hfz12_3⟩ := bc4_ (w := w3) BK224
    go_wp2_with (first | ((with_reducible refine gate_callee (f := 113) rfl ?_); refine goesB (some 7) Try.func113 #[.int .i64 a0_0] ?_; (with_reducible refine (spec_l2Day.calls a0_0 true _ A4.out).mono ?_); rintro e w' ⟨rfl, ⟨nd, rfl⟩⟩; refine ⟨_, rfl, ?_⟩) | (go_at_call 82; (with_reducible refine (spec_l1In.calls a0_1 1 4 false _ A6.out).mono ?_); rintro e w' ⟨rfl, ⟨nd, rfl⟩⟩))
    go_meet
    case rel => exact ⟨_, (true), (by first | rfl | (simp; done) | (simp [*]; done)), H', ⟨by first | omega | exact Nat.le_refl _⟩, ⟨bk_ BK224⟩, ⟨(bw_ w)⟩⟩
  ·replace c5 := Bool.eq_false_iff.mpr c5
   subst c5
   rw [if_neg (show ¬ (false = true) by decide)] at H
   have H' := Aside0.mk H
   clear H
   obtain ⟨hcz13_0, hcz13_1, hcz13_2, hcz13_3, hfz13_0, hfz13_1, hfz13_2, hfz13_3⟩ := bc4_ (w := w3) BK224
   go_wp2_with (first | ((with_reducible refine gate_callee (f := 113) rfl ?_); refine goesB (some 7) Try.func113 #[.int .i64 a0_0] ?_; (with_reducible refine (spec_l2Day.calls a0_0 false _ A4.out).mono ?_); rintro e w' ⟨rfl, ⟨nd, rfl⟩⟩; refine ⟨_, rfl, ?_⟩))
   go_meet
   case rel => exact ⟨_, (true), (by first | rfl | (simp; done) | (simp [*]; done)), H', ⟨by first | omega | exact Nat.le_refl _⟩, ⟨bk_ BK224⟩, ⟨(bw_ w)⟩⟩
 case rest =>
  clear HC2
  try clear c1
  try clear p2
  try clear c5
  try clear c6
  try clear c7
  try clear c9
  try clear c11
  try clear hcz10_0 hcz10_1 hcz10_2 hcz10_3
  try clear hcz11_0 hcz11_1 hcz11_2 hcz11_3
  try clear hcz12_0 hcz12_1 hcz12_2 hcz12_3
  try clear hcz13_0 hcz13_1 hcz13_2 hcz13_3
  try clear hfz10_0 hfz10_1 hfz10_2 hfz10_3
  try clear hfz11_0 hfz11_1 hfz11_2 hfz11_3
  try clear hfz12_0 hfz12_1 hfz12_2 hfz12_3
  try clear hfz13_0 hfz13_1 hfz13_2 hfz13_3
  obtain ⟨kq, x26_1, rfl, HA, HJ1, BK224, HB⟩ := hcut
  cases kq with
  | zero => exact absurd HA.out (by simp [spec_l25Good.j0])
  | succ kj1 =>
   have H := HA.out
   clear HA
   simp only [spec_l25Good.j0] at H
   by_cases c14 : x26_1 = true
   ·subst c14
    rw [if_pos rfl] at H
    obtain rfl := Option.some.inj H
    go_wp2
    go_ret
    exact ⟨by first | rfl | (simp [errW_none, errW_some] <;> rfl) | (simp [*, errW_none, errW_some] <;> rfl), (bw_ w)⟩
   ·replace c14 := Bool.eq_false_iff.mpr c14
    subst c14
    rw [if_neg (show ¬ (false = true) by decide)] at H
    have H' := Aside0.mk H
    clear H
    go_wp2
    go_loopg [3] kj1 (fun kq v3 w' => ∃ (x3_2 : Int), v3 = .int .i64 x3_2 ∧ Aside0 (spec_l25Good.l0 kq x3_2 a0_0 a0_1 l0_2 a0_3 = some r) ∧ Aside0 (kq ≤ kj1) ∧ Aside0 (w'.heap[gb224]? = some (.cells #[.int .i64 a0_0, .int .i64 a0_1, (.slice A0_2 l0_2.length c0_2), .int .i64 a0_3] 24 (0, 0))) ∧ Aside0 (Below w.heap.size w w'))
    case atStart => exact ⟨(0), (by first | rfl | (simp; done) | (simp [*]; done)), H', ⟨Nat.le_refl _⟩, ⟨bk_ BK224⟩, ⟨(bw_ w)⟩⟩
    case round =>
     clear H'
     try clear c1
     try clear p2
     try clear c5
     try clear c6
     try clear c7
     try clear c9
     try clear c11
     try clear c14
     try clear hcz10_0 hcz10_1 hcz10_2 hcz10_3
     try clear hcz11_0 hcz11_1 hcz11_2 hcz11_3
     try clear hcz12_0 hcz12_1 hcz12_2 hcz12_3
     try clear hcz13_0 hcz13_1 hcz13_2 hcz13_3
     try clear hfz10_0 hfz10_1 hfz10_2 hfz10_3
     try clear hfz11_0 hfz11_1 hfz11_2 hfz11_3
     try clear hfz12_0 hfz12_1 hfz12_2 hfz12_3
     try clear hfz13_0 hfz13_1 hfz13_2 hfz13_3
     try clear p2
     obtain ⟨x3_2, rfl, HA, HK2, BK224, HB⟩ := hrel
     cases gk with
     | zero => exact absurd HA.out (by simp [spec_l25Good.l0])
     | succ k2 =>
      have H := HA.out
      clear HA
      simp only [spec_l25Good.l0] at H
      by_cases c15 : x3_2 < (l0_2.length : Int)
      ·rw [if_pos c15] at H
       have c15b0 := decide_eq_true c15
       clear c15
       by_cases c16 : 0 ≤ x3_2
       ·rw [if_pos c16] at H
        have c16b0 := decide_eq_true c16
        clear c16
        replace H := Option.bind_eq_some_iff.mp H
        obtain ⟨t229, A170, H⟩ := H
        (try dsimp only at H)
        have A17 := Aside0.mk A170
        clear A170
        by_cases c18 : t229 = true
        ·subst c18
         rw [if_pos rfl] at H
         have H' := Aside0.mk H
         clear H
         obtain ⟨hcz19_0, hcz19_1, hcz19_2, hcz19_3, hfz19_0, hfz19_1, hfz19_2, hfz19_3⟩ := bc4_ (w := wr) BK224
         try go_wp2
         replace BK224 := Aside0.mk (blk_drew BK224.out)
         replace HB := Aside0.mk (below_drew1 HB.out)
         have p228 : 0 ≤ (x3_2 : Int) := of_decide_eq_true (by first | (with_reducible assumption) | assumption)
         have q228 : x3_2 < (l0_2.length : Int) := of_decide_eq_true (by first | (with_reducible assumption) | assumption)
         obtain ⟨ad228, e228, hx228_0, hx228_1, hx228_2, hx228_3, hx228_4⟩ := at_T34 HR0_2.out x3_2 p228 q228
         have hw228_4 := hx228_4
         have hw228_3 := hx228_3
         have hw228_2 := hx228_2
         have hw228_1 := hx228_1
         have hw228_0 := hx228_0
         cases e228
         replace hx228_0 := (HB.out.cell (World.block_lt_of_cell? w _ hx228_0)).trans hx228_0
         replace hx228_1 := (HB.out.cell (World.block_lt_of_cell? w _ hx228_1)).trans hx228_1
         replace hx228_2 := (HB.out.cell (World.block_lt_of_cell? w _ hx228_2)).trans hx228_2
         replace hx228_3 := (HB.out.cell (World.block_lt_of_cell? w _ hx228_3)).trans hx228_3
         replace hx228_4 := (HB.out.cell (World.block_lt_of_cell? w _ hx228_4)).trans hx228_4
         replace p228 := eq_true p228
         replace q228 := eq_true q228
         refine start_ (n := 8) (S := fun w' => w'.cell? ⟨gb224, 0, none⟩ = some (.int .i64 a0_0) ∧ w'.cell? ⟨gb224, 1, none⟩ = some (.int .i64 a0_1) ∧ w'.cell? ⟨gb224, 2, none⟩ = some (.slice (some ad228) l0_2.length c0_2) ∧ w'.cell? ⟨gb224, 3, none⟩ = some (.int .i64 a0_3) ∧ w'.cell? (ad228.add ((x3_2).toNat * 5)) = some (.int .i64 ((rd_T34 l0_2 x3_2).f0)) ∧ w'.cell? ⟨(ad228.add ((x3_2).toNat * 5)).block, (ad228.add ((x3_2).toNat * 5)).off + 1, none⟩ = some (.int .i64 ((rd_T34 l0_2 x3_2).f1)) ∧ w'.cell? ⟨(ad228.add ((x3_2).toNat * 5)).block, (ad228.add ((x3_2).toNat * 5)).off + 2, none⟩ = some (.int .i64 ((rd_T34 l0_2 x3_2).f2)) ∧ w'.cell? ⟨(ad228.add ((x3_2).toNat * 5)).block, (ad228.add ((x3_2).toNat * 5)).off + 3, none⟩ = some (.int .i64 ((rd_T34 l0_2 x3_2).f3)) ∧ w'.cell? ⟨(ad228.add ((x3_2).toNat * 5)).block, (ad228.add ((x3_2).toNat * 5)).off + 4, none⟩ = some (.int .i64 ((rd_T34 l0_2 x3_2).f4))) (ds := []) #[false, false, false, false, false, false, false, false] (by kernel_rfl) rfl rfl ⟨bc_ BK224 0, bc_ BK224 1, bc_ BK224 2, bc_ BK224 3, (bh_ HB hw228_0 :), (bh_ HB hw228_1 :), (bh_ HB hw228_2 :), (bh_ HB hw228_3 :), (bh_ HB hw228_4 :)⟩ (fun hHeld => ?_); refine with_tabW spec_l25Good.tab6 spec_l25Good.bits6 (fun HT_ HW_ => ?_)
         generalize wr.drew = w20 at BK224 HB hx228_0 hx228_1 hx228_2 hx228_3 hx228_4 hHeld ⊢
         refine pureA (N := some 35) 1 HT_ ?_
         refine pureA (N := some 37) 3 HT_ ?_
         refine takeA (N := some 34) 0 HT_ HW_ hHeld ?_
         refine takeA (N := some 36) 2 HT_ HW_ hHeld ?_
         refine pureA (N := some 38) 4 HT_ ?_
         refine takeA (N := some 39) 5 HT_ HW_ hHeld ?_
         refine oneA (N := some 40) 6 HT_ (fun K hK => ?_)
         refine goesA Try.func114 #[.agg #[.int .i64 a0_0, .int .i64 a0_1, .slice (some ad228) l0_2.length c0_2, .int .i64 a0_3], .agg #[.int .i64 ((rd_T34 l0_2 x3_2).f0), .int .i64 ((rd_T34 l0_2 x3_2).f1), .int .i64 ((rd_T34 l0_2 x3_2).f2), .int .i64 ((rd_T34 l0_2 x3_2).f3), .int .i64 ((rd_T34 l0_2 x3_2).f4)]] ?_
         with_reducible refine (spec_l25Carpet.calls k2 a0_0 a0_1 _ _ l0_2 a0_3 ((rd_T34 l0_2 x3_2).f0) ((rd_T34 l0_2 x3_2).f1) ((rd_T34 l0_2 x3_2).f2) ((rd_T34 l0_2 x3_2).f3) ((rd_T34 l0_2 x3_2).f4) true _ ?side1 ?side2 A17.out).mono ?_
         (case side1 => exact cb_ HR0_2 HB)
         (case side2 => exact HC0_2.out)
         rintro e w21 ⟨rfl, hb⟩
         refine ⟨_, rfl, ?_⟩
         replace BK224 := bb_ BK224 hb
         replace HB := hb_ w hb
         clear hb
         refine hK.out _ _ ⟨bc_ BK224 0, bc_ BK224 1, bc_ BK224 2, bc_ BK224 3, (bh_ HB hw228_0 :), (bh_ HB hw228_1 :), (bh_ HB hw228_2 :), (bh_ HB hw228_3 :), (bh_ HB hw228_4 :)⟩ (fun hHeld => ?_)
         clear hK K
         refine normA (N := some 40) ?_
         refine pureA (N := some 41) 7 HT_ ?_
         refine done_ (done_of HT_.out (by kernel_rfl)) ?_
         try go_wp2
         go_loopg [4] k2 (fun kq v4 w' => ∃ (x4_3 : Int), v4 = .int .i64 x4_3 ∧ Aside0 (spec_l25Good.l1 kq x3_2 x4_3 a0_0 a0_1 l0_2 a0_3 = some r) ∧ Aside0 (kq ≤ k2) ∧ Aside0 (w'.heap[gb224]? = some (.cells #[.int .i64 a0_0, .int .i64 a0_1, (.slice (some ad228) l0_2.length c0_2), .int .i64 a0_3] 24 (0, 0))) ∧ Aside0 (Below w.heap.size w w'))
         case atStart => exact ⟨(0), (by first | rfl | (simp; done) | (simp [*]; done)), H', ⟨Nat.le_refl _⟩, ⟨bk_ BK224⟩, ⟨(bw_ w)⟩⟩
         case round =>
          clear H'
          try clear c1
          try clear p2
          try clear q2
          try clear hx2
          try clear c5
          try clear c6
          try clear c7
          try clear c9
          try clear c11
          try clear c14
          try clear c15
          try clear c15b0
          try clear c16
          try clear c16b0
          try clear c18
          try clear hcz10_0 hcz10_1 hcz10_2 hcz10_3
          try clear hcz11_0 hcz11_1 hcz11_2 hcz11_3
          try clear hcz12_0 hcz12_1 hcz12_2 hcz12_3
          try clear hcz13_0 hcz13_1 hcz13_2 hcz13_3
          try clear hcz19_0 hcz19_1 hcz19_2 hcz19_3
          try clear hfz10_0 hfz10_1 hfz10_2 hfz10_3
          try clear hfz11_0 hfz11_1 hfz11_2 hfz11_3
          try clear hfz12_0 hfz12_1 hfz12_2 hfz12_3
          try clear hfz13_0 hfz13_1 hfz13_2 hfz13_3
          try clear hfz19_0 hfz19_1 hfz19_2 hfz19_3
          try clear hx228_0
          try clear hx228_1
          try clear hx228_2
          try clear hx228_3
          try clear hx228_4
          try clear p2
          try clear p228
          try clear q228
          obtain ⟨x4_3, rfl, HA, HK3, BK224, HB⟩ := hrel
          cases gk with
          | zero => exact absurd HA.out (by simp [spec_l25Good.l1])
          | succ k3 =>
           have H := HA.out
           clear HA
           simp only [spec_l25Good.l1] at H
           by_cases c22 : x4_3 < x3_2
           ·rw [if_pos c22] at H
            have c22b0 := decide_eq_true c22
            clear c22
            by_cases c23 : 0 ≤ x3_2
            ·rw [if_pos c23] at H
             have c23b0 := decide_eq_true c23
             clear c23
             by_cases c24 : x3_2 < (l0_2.length : Int)
             ·rw [if_pos c24] at H
              have c24b0 := decide_eq_true c24
              clear c24
              by_cases c25 : ((rd_T34 l0_2 x3_2).f3) > 0
              ·rw [if_pos c25] at H
               have c25b0 : decide (0 < ((rd_T34 l0_2 x3_2).f3)) = true := decide_eq_true c25
               clear c25
               by_cases c26 : 0 ≤ x4_3
               ·rw [if_pos c26] at H
                have c26b0 := decide_eq_true c26
                clear c26
                by_cases c27 : x4_3 < (l0_2.length : Int)
                ·rw [if_pos c27] at H
                 have c27b0 := decide_eq_true c27
                 clear c27
                 by_cases c28 : ((rd_T34 l0_2 x4_3).f3) = ((rd_T34 l0_2 x3_2).f3)
                 ·rw [if_pos c28] at H
                  have c28b0 := beq_iff_eq.mpr c28
                  have c28b1 := bne_eq_false_iff_eq.mpr c28
                  clear c28
                  obtain rfl := Option.some.inj H
                  try go_wp2
                  replace BK224 := Aside0.mk (blk_drew BK224.out)
                  replace HB := Aside0.mk (below_drew1 HB.out)
                  have p230 : 0 ≤ (x3_2 : Int) := of_decide_eq_true (by first | (with_reducible assumption) | assumption)
                  have q230 : x3_2 < (l0_2.length : Int) := of_decide_eq_true (by first | (with_reducible assumption) | assumption)
                  obtain ⟨ad230, e230, hx230_0, hx230_1, hx230_2, hx230_3, hx230_4⟩ := at_T34 HR0_2.out x3_2 p230 q230
                  have hw230_4 := hx230_4
                  have hw230_3 := hx230_3
                  have hw230_2 := hx230_2
                  have hw230_1 := hx230_1
                  have hw230_0 := hx230_0
                  obtain rfl : ad228 = ad230 := (by injection e230)
                  replace hx230_0 := (HB.out.cell (World.block_lt_of_cell? w _ hx230_0)).trans hx230_0
                  replace hx230_1 := (HB.out.cell (World.block_lt_of_cell? w _ hx230_1)).trans hx230_1
                  replace hx230_2 := (HB.out.cell (World.block_lt_of_cell? w _ hx230_2)).trans hx230_2
                  replace hx230_3 := (HB.out.cell (World.block_lt_of_cell? w _ hx230_3)).trans hx230_3
                  replace hx230_4 := (HB.out.cell (World.block_lt_of_cell? w _ hx230_4)).trans hx230_4
                  replace p230 := eq_true p230
                  replace q230 := eq_true q230
                  have p231 : 0 ≤ (x4_3 : Int) := of_decide_eq_true (by first | (with_reducible assumption) | assumption)
                  have q231 : x4_3 < (l0_2.length : Int) := of_decide_eq_true (by first | (with_reducible assumption) | assumption)
                  obtain ⟨ad231, e231, hx231_0, hx231_1, hx231_2, hx231_3, hx231_4⟩ := at_T34 HR0_2.out x4_3 p231 q231
                  have hw231_4 := hx231_4
                  have hw231_3 := hx231_3
                  have hw231_2 := hx231_2
                  have hw231_1 := hx231_1
                  have hw231_0 := hx231_0
                  obtain rfl : ad228 = ad231 := (by injection e231)
                  replace hx231_0 := (HB.out.cell (World.block_lt_of_cell? w _ hx231_0)).trans hx231_0
                  replace hx231_1 := (HB.out.cell (World.block_lt_of_cell? w _ hx231_1)).trans hx231_1
                  replace hx231_2 := (HB.out.cell (World.block_lt_of_cell? w _ hx231_2)).trans hx231_2
                  replace hx231_3 := (HB.out.cell (World.block_lt_of_cell? w _ hx231_3)).trans hx231_3
                  replace hx231_4 := (HB.out.cell (World.block_lt_of_cell? w _ hx231_4)).trans hx231_4
                  replace p231 := eq_true p231
                  replace q231 := eq_true q231
                  have p232 : 0 ≤ (x3_2 : Int) := of_decide_eq_true (by first | (with_reducible assumption) | assumption)
                  have q232 : x3_2 < (l0_2.length : Int) := of_decide_eq_true (by first | (with_reducible assumption) | assumption)
                  obtain ⟨ad232, e232, hx232_0, hx232_1, hx232_2, hx232_3, hx232_4⟩ := at_T34 HR0_2.out x3_2 p232 q232
                  have hw232_4 := hx232_4
                  have hw232_3 := hx232_3
                  have hw232_2 := hx232_2
                  have hw232_1 := hx232_1
                  have hw232_0 := hx232_0
                  obtain rfl : ad228 = ad232 := (by injection e232)
                  replace hx232_0 := (HB.out.cell (World.block_lt_of_cell? w _ hx232_0)).trans hx232_0
                  replace hx232_1 := (HB.out.cell (World.block_lt_of_cell? w _ hx232_1)).trans hx232_1
                  replace hx232_2 := (HB.out.cell (World.block_lt_of_cell? w _ hx232_2)).trans hx232_2
                  replace hx232_3 := (HB.out.cell (World.block_lt_of_cell? w _ hx232_3)).trans hx232_3
                  replace hx232_4 := (HB.out.cell (World.block_lt_of_cell? w _ hx232_4)).trans hx232_4
                  replace p232 := eq_true p232
                  replace q232 := eq_true q232
                  refine start_ (n := 22) (S := fun w' => w'.cell? ⟨gb224, 0, none⟩ = some (.int .i64 a0_0) ∧ w'.cell? ⟨gb224, 1, none⟩ = some (.int .i64 a0_1) ∧ w'.cell? ⟨gb224, 2, none⟩ = some (.slice (some ad228) l0_2.length c0_2) ∧ w'.cell? ⟨gb224, 3, none⟩ = some (.int .i64 a0_3) ∧ w'.cell? (ad228.add ((x3_2).toNat * 5)) = some (.int .i64 ((rd_T34 l0_2 x3_2).f0)) ∧ w'.cell? ⟨(ad228.add ((x3_2).toNat * 5)).block, (ad228.add ((x3_2).toNat * 5)).off + 1, none⟩ = some (.int .i64 ((rd_T34 l0_2 x3_2).f1)) ∧ w'.cell? ⟨(ad228.add ((x3_2).toNat * 5)).block, (ad228.add ((x3_2).toNat * 5)).off + 2, none⟩ = some (.int .i64 ((rd_T34 l0_2 x3_2).f2)) ∧ w'.cell? ⟨(ad228.add ((x3_2).toNat * 5)).block, (ad228.add ((x3_2).toNat * 5)).off + 3, none⟩ = some (.int .i64 ((rd_T34 l0_2 x3_2).f3)) ∧ w'.cell? ⟨(ad228.add ((x3_2).toNat * 5)).block, (ad228.add ((x3_2).toNat * 5)).off + 4, none⟩ = some (.int .i64 ((rd_T34 l0_2 x3_2).f4)) ∧ w'.cell? (ad228.add ((x4_3).toNat * 5)) = some (.int .i64 ((rd_T34 l0_2 x4_3).f0)) ∧ w'.cell? ⟨(ad228.add ((x4_3).toNat * 5)).block, (ad228.add ((x4_3).toNat * 5)).off + 1, none⟩ = some (.int .i64 ((rd_T34 l0_2 x4_3).f1)) ∧ w'.cell? ⟨(ad228.add ((x4_3).toNat * 5)).block, (ad228.add ((x4_3).toNat * 5)).off + 2, none⟩ = some (.int .i64 ((rd_T34 l0_2 x4_3).f2)) ∧ w'.cell? ⟨(ad228.add ((x4_3).toNat * 5)).block, (ad228.add ((x4_3).toNat * 5)).off + 3, none⟩ = some (.int .i64 ((rd_T34 l0_2 x4_3).f3)) ∧ w'.cell? ⟨(ad228.add ((x4_3).toNat * 5)).block, (ad228.add ((x4_3).toNat * 5)).off + 4, none⟩ = some (.int .i64 ((rd_T34 l0_2 x4_3).f4)) ∧ w'.cell? (ad228.add ((x3_2).toNat * 5)) = some (.int .i64 ((rd_T34 l0_2 x3_2).f0)) ∧ w'.cell? ⟨(ad228.add ((x3_2).toNat * 5)).block, (ad228.add ((x3_2).toNat * 5)).off + 1, none⟩ = some (.int .i64 ((rd_T34 l0_2 x3_2).f1)) ∧ w'.cell? ⟨(ad228.add ((x3_2).toNat * 5)).block, (ad228.add ((x3_2).toNat * 5)).off + 2, none⟩ = some (.int .i64 ((rd_T34 l0_2 x3_2).f2)) ∧ w'.cell? ⟨(ad228.add ((x3_2).toNat * 5)).block, (ad228.add ((x3_2).toNat * 5)).off + 3, none⟩ = some (.int .i64 ((rd_T34 l0_2 x3_2).f3)) ∧ w'.cell? ⟨(ad228.add ((x3_2).toNat * 5)).block, (ad228.add ((x3_2).toNat * 5)).off + 4, none⟩ = some (.int .i64 ((rd_T34 l0_2 x3_2).f4))) (ds := []) #[false, false, false, false, false, false, false, false, false, false, false, false, false, false, false, false, false, false, false, false, false, false] (by kernel_rfl) rfl rfl ⟨bc_ BK224 0, bc_ BK224 1, bc_ BK224 2, bc_ BK224 3, (bh_ HB hw230_0 :), (bh_ HB hw230_1 :), (bh_ HB hw230_2 :), (bh_ HB hw230_3 :), (bh_ HB hw230_4 :), (bh_ HB hw231_0 :), (bh_ HB hw231_1 :), (bh_ HB hw231_2 :), (bh_ HB hw231_3 :), (bh_ HB hw231_4 :), (bh_ HB hw232_0 :), (bh_ HB hw232_1 :), (bh_ HB hw232_2 :), (bh_ HB hw232_3 :), (bh_ HB hw232_4 :)⟩ (fun hHeld => ?_); refine with_tabW spec_l25Good.tab11 spec_l25Good.bits11 (fun HT_ HW_ => ?_)
                  generalize wr.drew = w29 at BK224 HB hx230_0 hx230_1 hx230_2 hx230_3 hx230_4 hx231_0 hx231_1 hx231_2 hx231_3 hx231_4 hx232_0 hx232_1 hx232_2 hx232_3 hx232_4 hHeld ⊢
                  refine pureA (N := some 47) 0 HT_ ?_
                  refine pureA (N := some 49) 2 HT_ ?_
                  refine takeA (N := some 48) 1 HT_ HW_ hHeld ?_
                  refine pureA (N := some 50) 3 HT_ ?_
                  refine pureA (N := some 51) 4 HT_ ?_
                  refine takeA (N := some 52) 5 HT_ HW_ hHeld ?_
                  refine pureA (N := some 53) 6 HT_ ?_
                  refine pureA (N := some 54) 7 HT_ ?_
                  refine pureA (N := some 55) 8 HT_ ?_
                  refine pureA (N := some 57) 10 HT_ ?_
                  refine pureA (N := some 61) 14 HT_ ?_
                  refine pureA (N := some 63) 16 HT_ ?_
                  refine takeA (N := some 56) 9 HT_ HW_ hHeld ?_
                  refine pureA (N := some 58) 11 HT_ ?_
                  refine pureA (N := some 59) 12 HT_ ?_
                  refine takeA (N := some 60) 13 HT_ HW_ hHeld ?_
                  refine takeA (N := some 62) 15 HT_ HW_ hHeld ?_
                  refine pureA (N := some 64) 17 HT_ ?_
                  refine pureA (N := some 65) 18 HT_ ?_
                  refine takeA (N := some 66) 19 HT_ HW_ hHeld ?_
                  refine pureA (N := some 67) 20 HT_ ?_
                  refine pureA (N := some 68) 21 HT_ ?_
                  refine done_ (done_of HT_.out (by kernel_rfl)) ?_
                  try go_wp2
                  go_ret
                  exact ⟨by first | rfl | (simp [errW_none, errW_some] <;> rfl) | (simp [*, errW_none, errW_some] <;> rfl), (bw_ w)⟩
                 ·rw [if_neg c28] at H
                  have c28b0 := beq_eq_false_iff_ne.mpr c28
                  have c28b1 := bne_iff_ne.mpr c28
                  have H' := Aside0.mk H
                  clear H
                  try go_wp2
                  replace BK224 := Aside0.mk (blk_drew BK224.out)
                  replace HB := Aside0.mk (below_drew1 HB.out)
                  have p230 : 0 ≤ (x3_2 : Int) := of_decide_eq_true (by first | (with_reducible assumption) | assumption)
                  have q230 : x3_2 < (l0_2.length : Int) := of_decide_eq_true (by first | (with_reducible assumption) | assumption)
                  obtain ⟨ad230, e230, hx230_0, hx230_1, hx230_2, hx230_3, hx230_4⟩ := at_T34 HR0_2.out x3_2 p230 q230
                  have hw230_4 := hx230_4
                  have hw230_3 := hx230_3
                  have hw230_2 := hx230_2
                  have hw230_1 := hx230_1
                  have hw230_0 := hx230_0
                  obtain rfl : ad228 = ad230 := (by injection e230)
                  replace hx230_0 := (HB.out.cell (World.block_lt_of_cell? w _ hx230_0)).trans hx230_0
                  replace hx230_1 := (HB.out.cell (World.block_lt_of_cell? w _ hx230_1)).trans hx230_1
                  replace hx230_2 := (HB.out.cell (World.block_lt_of_cell? w _ hx230_2)).trans hx230_2
                  replace hx230_3 := (HB.out.cell (World.block_lt_of_cell? w _ hx230_3)).trans hx230_3
                  replace hx230_4 := (HB.out.cell (World.block_lt_of_cell? w _ hx230_4)).trans hx230_4
                  replace p230 := eq_true p230
                  replace q230 := eq_true q230
                  have p231 : 0 ≤ (x4_3 : Int) := of_decide_eq_true (by first | (with_reducible assumption) | assumption)
                  have q231 : x4_3 < (l0_2.length : Int) := of_decide_eq_true (by first | (with_reducible assumption) | assumption)
                  obtain ⟨ad231, e231, hx231_0, hx231_1, hx231_2, hx231_3, hx231_4⟩ := at_T34 HR0_2.out x4_3 p231 q231
                  have hw231_4 := hx231_4
                  have hw231_3 := hx231_3
                  have hw231_2 := hx231_2
                  have hw231_1 := hx231_1
                  have hw231_0 := hx231_0
                  obtain rfl : ad228 = ad231 := (by injection e231)
                  replace hx231_0 := (HB.out.cell (World.block_lt_of_cell? w _ hx231_0)).trans hx231_0
                  replace hx231_1 := (HB.out.cell (World.block_lt_of_cell? w _ hx231_1)).trans hx231_1
                  replace hx231_2 := (HB.out.cell (World.block_lt_of_cell? w _ hx231_2)).trans hx231_2
                  replace hx231_3 := (HB.out.cell (World.block_lt_of_cell? w _ hx231_3)).trans hx231_3
                  replace hx231_4 := (HB.out.cell (World.block_lt_of_cell? w _ hx231_4)).trans hx231_4
                  replace p231 := eq_true p231
                  replace q231 := eq_true q231
                  have p232 : 0 ≤ (x3_2 : Int) := of_decide_eq_true (by first | (with_reducible assumption) | assumption)
                  have q232 : x3_2 < (l0_2.length : Int) := of_decide_eq_true (by first | (with_reducible assumption) | assumption)
                  obtain ⟨ad232, e232, hx232_0, hx232_1, hx232_2, hx232_3, hx232_4⟩ := at_T34 HR0_2.out x3_2 p232 q232
                  have hw232_4 := hx232_4
                  have hw232_3 := hx232_3
                  have hw232_2 := hx232_2
                  have hw232_1 := hx232_1
                  have hw232_0 := hx232_0
                  obtain rfl : ad228 = ad232 := (by injection e232)
                  replace hx232_0 := (HB.out.cell (World.block_lt_of_cell? w _ hx232_0)).trans hx232_0
                  replace hx232_1 := (HB.out.cell (World.block_lt_of_cell? w _ hx232_1)).trans hx232_1
                  replace hx232_2 := (HB.out.cell (World.block_lt_of_cell? w _ hx232_2)).trans hx232_2
                  replace hx232_3 := (HB.out.cell (World.block_lt_of_cell? w _ hx232_3)).trans hx232_3
                  replace hx232_4 := (HB.out.cell (World.block_lt_of_cell? w _ hx232_4)).trans hx232_4
                  replace p232 := eq_true p232
                  replace q232 := eq_true q232
                  refine start_ (n := 22) (S := fun w' => w'.cell? ⟨gb224, 0, none⟩ = some (.int .i64 a0_0) ∧ w'.cell? ⟨gb224, 1, none⟩ = some (.int .i64 a0_1) ∧ w'.cell? ⟨gb224, 2, none⟩ = some (.slice (some ad228) l0_2.length c0_2) ∧ w'.cell? ⟨gb224, 3, none⟩ = some (.int .i64 a0_3) ∧ w'.cell? (ad228.add ((x3_2).toNat * 5)) = some (.int .i64 ((rd_T34 l0_2 x3_2).f0)) ∧ w'.cell? ⟨(ad228.add ((x3_2).toNat * 5)).block, (ad228.add ((x3_2).toNat * 5)).off + 1, none⟩ = some (.int .i64 ((rd_T34 l0_2 x3_2).f1)) ∧ w'.cell? ⟨(ad228.add ((x3_2).toNat * 5)).block, (ad228.add ((x3_2).toNat * 5)).off + 2, none⟩ = some (.int .i64 ((rd_T34 l0_2 x3_2).f2)) ∧ w'.cell? ⟨(ad228.add ((x3_2).toNat * 5)).block, (ad228.add ((x3_2).toNat * 5)).off + 3, none⟩ = some (.int .i64 ((rd_T34 l0_2 x3_2).f3)) ∧ w'.cell? ⟨(ad228.add ((x3_2).toNat * 5)).block, (ad228.add ((x3_2).toNat * 5)).off + 4, none⟩ = some (.int .i64 ((rd_T34 l0_2 x3_2).f4)) ∧ w'.cell? (ad228.add ((x4_3).toNat * 5)) = some (.int .i64 ((rd_T34 l0_2 x4_3).f0)) ∧ w'.cell? ⟨(ad228.add ((x4_3).toNat * 5)).block, (ad228.add ((x4_3).toNat * 5)).off + 1, none⟩ = some (.int .i64 ((rd_T34 l0_2 x4_3).f1)) ∧ w'.cell? ⟨(ad228.add ((x4_3).toNat * 5)).block, (ad228.add ((x4_3).toNat * 5)).off + 2, none⟩ = some (.int .i64 ((rd_T34 l0_2 x4_3).f2)) ∧ w'.cell? ⟨(ad228.add ((x4_3).toNat * 5)).block, (ad228.add ((x4_3).toNat * 5)).off + 3, none⟩ = some (.int .i64 ((rd_T34 l0_2 x4_3).f3)) ∧ w'.cell? ⟨(ad228.add ((x4_3).toNat * 5)).block, (ad228.add ((x4_3).toNat * 5)).off + 4, none⟩ = some (.int .i64 ((rd_T34 l0_2 x4_3).f4)) ∧ w'.cell? (ad228.add ((x3_2).toNat * 5)) = some (.int .i64 ((rd_T34 l0_2 x3_2).f0)) ∧ w'.cell? ⟨(ad228.add ((x3_2).toNat * 5)).block, (ad228.add ((x3_2).toNat * 5)).off + 1, none⟩ = some (.int .i64 ((rd_T34 l0_2 x3_2).f1)) ∧ w'.cell? ⟨(ad228.add ((x3_2).toNat * 5)).block, (ad228.add ((x3_2).toNat * 5)).off + 2, none⟩ = some (.int .i64 ((rd_T34 l0_2 x3_2).f2)) ∧ w'.cell? ⟨(ad228.add ((x3_2).toNat * 5)).block, (ad228.add ((x3_2).toNat * 5)).off + 3, none⟩ = some (.int .i64 ((rd_T34 l0_2 x3_2).f3)) ∧ w'.cell? ⟨(ad228.add ((x3_2).toNat * 5)).block, (ad228.add ((x3_2).toNat * 5)).off + 4, none⟩ = some (.int .i64 ((rd_T34 l0_2 x3_2).f4))) (ds := []) #[false, false, false, false, false, false, false, false, false, false, false, false, false, false, false, false, false, false, false, false, false, false] (by kernel_rfl) rfl rfl ⟨bc_ BK224 0, bc_ BK224 1, bc_ BK224 2, bc_ BK224 3, (bh_ HB hw230_0 :), (bh_ HB hw230_1 :), (bh_ HB hw230_2 :), (bh_ HB hw230_3 :), (bh_ HB hw230_4 :), (bh_ HB hw231_0 :), (bh_ HB hw231_1 :), (bh_ HB hw231_2 :), (bh_ HB hw231_3 :), (bh_ HB hw231_4 :), (bh_ HB hw232_0 :), (bh_ HB hw232_1 :), (bh_ HB hw232_2 :), (bh_ HB hw232_3 :), (bh_ HB hw232_4 :)⟩ (fun hHeld => ?_); refine with_tabW spec_l25Good.tab11 spec_l25Good.bits11 (fun HT_ HW_ => ?_)
                  generalize wr.drew = w30 at BK224 HB hx230_0 hx230_1 hx230_2 hx230_3 hx230_4 hx231_0 hx231_1 hx231_2 hx231_3 hx231_4 hx232_0 hx232_1 hx232_2 hx232_3 hx232_4 hHeld ⊢
                  refine pureA (N := some 47) 0 HT_ ?_
                  refine pureA (N := some 49) 2 HT_ ?_
                  refine takeA (N := some 48) 1 HT_ HW_ hHeld ?_
                  refine pureA (N := some 50) 3 HT_ ?_
                  refine pureA (N := some 51) 4 HT_ ?_
                  refine takeA (N := some 52) 5 HT_ HW_ hHeld ?_
                  refine pureA (N := some 53) 6 HT_ ?_
                  refine pureA (N := some 54) 7 HT_ ?_
                  refine pureA (N := some 55) 8 HT_ ?_
                  refine pureA (N := some 57) 10 HT_ ?_
                  refine pureA (N := some 61) 14 HT_ ?_
                  refine pureA (N := some 63) 16 HT_ ?_
                  refine takeA (N := some 56) 9 HT_ HW_ hHeld ?_
                  refine pureA (N := some 58) 11 HT_ ?_
                  refine pureA (N := some 59) 12 HT_ ?_
                  refine takeA (N := some 60) 13 HT_ HW_ hHeld ?_
                  refine takeA (N := some 62) 15 HT_ HW_ hHeld ?_
                  refine pureA (N := some 64) 17 HT_ ?_
                  refine pureA (N := some 65) 18 HT_ ?_
                  refine takeA (N := some 66) 19 HT_ HW_ hHeld ?_
                  refine pureA (N := some 67) 20 HT_ ?_
                  refine pureA (N := some 68) 21 HT_ ?_
                  refine done_ (done_of HT_.out (by kernel_rfl)) ?_
                  try go_wp2
                  go_roundg k3
                  case measure => have := HJ1.out; have := HK2.out; have := HK3.out; omega
                  case rel => exact ⟨(wrap64 (x4_3 + 1)), (by first | rfl | (simp; done) | (simp [*]; done)), H', ⟨by have := HJ1.out; have := HK2.out; have := HK3.out; omega⟩, ⟨bk_ BK224⟩, ⟨(bw_ w)⟩⟩
                ·rw [if_neg c27] at H
                 exact absurd H (by simp)
               ·rw [if_neg c26] at H
                exact absurd H (by simp)
              ·rw [if_neg c25] at H
               have c25b0 : decide (0 < ((rd_T34 l0_2 x3_2).f3)) = false := decide_eq_false c25
               clear c25
               have H' := Aside0.mk H
               clear H
               try go_wp2
               replace BK224 := Aside0.mk (blk_drew BK224.out)
               replace HB := Aside0.mk (below_drew1 HB.out)
               have p230 : 0 ≤ (x3_2 : Int) := of_decide_eq_true (by first | (with_reducible assumption) | assumption)
               have q230 : x3_2 < (l0_2.length : Int) := of_decide_eq_true (by first | (with_reducible assumption) | assumption)
               obtain ⟨ad230, e230, hx230_0, hx230_1, hx230_2, hx230_3, hx230_4⟩ := at_T34 HR0_2.out x3_2 p230 q230
               have hw230_4 := hx230_4
               have hw230_3 := hx230_3
               have hw230_2 := hx230_2
               have hw230_1 := hx230_1
               have hw230_0 := hx230_0
               obtain rfl : ad228 = ad230 := (by injection e230)
               replace hx230_0 := (HB.out.cell (World.block_lt_of_cell? w _ hx230_0)).trans hx230_0
               replace hx230_1 := (HB.out.cell (World.block_lt_of_cell? w _ hx230_1)).trans hx230_1
               replace hx230_2 := (HB.out.cell (World.block_lt_of_cell? w _ hx230_2)).trans hx230_2
               replace hx230_3 := (HB.out.cell (World.block_lt_of_cell? w _ hx230_3)).trans hx230_3
               replace hx230_4 := (HB.out.cell (World.block_lt_of_cell? w _ hx230_4)).trans hx230_4
               replace p230 := eq_true p230
               replace q230 := eq_true q230
               refine start_ (n := 22) (S := fun w' => w'.cell? ⟨gb224, 0, none⟩ = some (.int .i64 a0_0) ∧ w'.cell? ⟨gb224, 1, none⟩ = some (.int .i64 a0_1) ∧ w'.cell? ⟨gb224, 2, none⟩ = some (.slice (some ad228) l0_2.length c0_2) ∧ w'.cell? ⟨gb224, 3, none⟩ = some (.int .i64 a0_3) ∧ w'.cell? (ad228.add ((x3_2).toNat * 5)) = some (.int .i64 ((rd_T34 l0_2 x3_2).f0)) ∧ w'.cell? ⟨(ad228.add ((x3_2).toNat * 5)).block, (ad228.add ((x3_2).toNat * 5)).off + 1, none⟩ = some (.int .i64 ((rd_T34 l0_2 x3_2).f1)) ∧ w'.cell? ⟨(ad228.add ((x3_2).toNat * 5)).block, (ad228.add ((x3_2).toNat * 5)).off + 2, none⟩ = some (.int .i64 ((rd_T34 l0_2 x3_2).f2)) ∧ w'.cell? ⟨(ad228.add ((x3_2).toNat * 5)).block, (ad228.add ((x3_2).toNat * 5)).off + 3, none⟩ = some (.int .i64 ((rd_T34 l0_2 x3_2).f3)) ∧ w'.cell? ⟨(ad228.add ((x3_2).toNat * 5)).block, (ad228.add ((x3_2).toNat * 5)).off + 4, none⟩ = some (.int .i64 ((rd_T34 l0_2 x3_2).f4))) (ds := []) #[false, false, false, false, false, false, false, false, false, false, false, false, false, false, false, false, false, false, false, false, false, false] (by kernel_rfl) rfl rfl ⟨bc_ BK224 0, bc_ BK224 1, bc_ BK224 2, bc_ BK224 3, (bh_ HB hw230_0 :), (bh_ HB hw230_1 :), (bh_ HB hw230_2 :), (bh_ HB hw230_3 :), (bh_ HB hw230_4 :)⟩ (fun hHeld => ?_); refine with_tabW spec_l25Good.tab11 spec_l25Good.bits11 (fun HT_ HW_ => ?_)
               generalize wr.drew = w31 at BK224 HB hx230_0 hx230_1 hx230_2 hx230_3 hx230_4 hHeld ⊢
               refine pureA (N := some 47) 0 HT_ ?_
               refine pureA (N := some 49) 2 HT_ ?_
               refine takeA (N := some 48) 1 HT_ HW_ hHeld ?_
               refine pureA (N := some 50) 3 HT_ ?_
               refine pureA (N := some 51) 4 HT_ ?_
               refine takeA (N := some 52) 5 HT_ HW_ hHeld ?_
               refine pureA (N := some 53) 6 HT_ ?_
               refine pureA (N := some 54) 7 HT_ ?_
               refine pure_ (i := 8) (N := some 55) (v := undef) (a' := ?_) #[true, true, true, true, true, true, true, true, true, false, false, false, false, false, false, false, false, false, false, false, false, false] rfl rfl (any_of HT_.out (by kernel_rfl)) (fun _ _ _ h => h) (Or.inr ⟨by rfl, rfl⟩) ?_ ?_
               rotate_left
               ·simp only [Act.put, List.setIfInBounds_toArray, List.set_cons_zero, List.set_cons_succ, i64_w, i32_w]
                rfl
               refine pure_ (i := 9) (N := some 56) (v := undef) (a' := ?_) #[true, true, true, true, true, true, true, true, true, true, false, false, false, false, false, false, false, false, false, false, false, false] rfl rfl (any_of HT_.out (by kernel_rfl)) (fun _ _ _ h => h) (Or.inr ⟨by rfl, rfl⟩) ?_ ?_
               rotate_left
               ·simp only [Act.put, List.setIfInBounds_toArray, List.set_cons_zero, List.set_cons_succ, i64_w, i32_w]
                rfl
               refine pure_ (i := 10) (N := some 57) (v := undef) (a' := ?_) #[true, true, true, true, true, true, true, true, true, true, true, false, false, false, false, false, false, false, false, false, false, false] rfl rfl (any_of HT_.out (by kernel_rfl)) (fun _ _ _ h => h) (Or.inr ⟨by rfl, rfl⟩) ?_ ?_
               rotate_left
               ·simp only [Act.put, List.setIfInBounds_toArray, List.set_cons_zero, List.set_cons_succ, i64_w, i32_w]
                rfl
               refine pure_ (i := 11) (N := some 58) (v := undef) (a' := ?_) #[true, true, true, true, true, true, true, true, true, true, true, true, false, false, false, false, false, false, false, false, false, false] rfl rfl (any_of HT_.out (by kernel_rfl)) (fun _ _ _ h => h) (Or.inr ⟨by rfl, rfl⟩) ?_ ?_
               rotate_left
               ·simp only [Act.put, List.setIfInBounds_toArray, List.set_cons_zero, List.set_cons_succ, i64_w, i32_w]
                rfl
               refine pure_ (i := 12) (N := some 59) (v := undef) (a' := ?_) #[true, true, true, true, true, true, true, true, true, true, true, true, true, false, false, false, false, false, false, false, false, false] rfl rfl (any_of HT_.out (by kernel_rfl)) (fun _ _ _ h => h) (Or.inr ⟨by rfl, rfl⟩) ?_ ?_
               rotate_left
               ·simp only [Act.put, List.setIfInBounds_toArray, List.set_cons_zero, List.set_cons_succ, i64_w, i32_w]
                rfl
               refine pure_ (i := 13) (N := some 60) (v := undef) (a' := ?_) #[true, true, true, true, true, true, true, true, true, true, true, true, true, true, false, false, false, false, false, false, false, false] rfl rfl (any_of HT_.out (by kernel_rfl)) (fun _ _ _ h => h) (Or.inr ⟨by rfl, rfl⟩) ?_ ?_
               rotate_left
               ·simp only [Act.put, List.setIfInBounds_toArray, List.set_cons_zero, List.set_cons_succ, i64_w, i32_w]
                rfl
               refine pure_ (i := 14) (N := some 61) (v := undef) (a' := ?_) #[true, true, true, true, true, true, true, true, true, true, true, true, true, true, true, false, false, false, false, false, false, false] rfl rfl (any_of HT_.out (by kernel_rfl)) (fun _ _ _ h => h) (Or.inr ⟨by rfl, rfl⟩) ?_ ?_
               rotate_left
               ·simp only [Act.put, List.setIfInBounds_toArray, List.set_cons_zero, List.set_cons_succ, i64_w, i32_w]
                rfl
               refine pure_ (i := 15) (N := some 62) (v := undef) (a' := ?_) #[true, true, true, true, true, true, true, true, true, true, true, true, true, true, true, true, false, false, false, false, false, false] rfl rfl (any_of HT_.out (by kernel_rfl)) (fun _ _ _ h => h) (Or.inr ⟨by rfl, rfl⟩) ?_ ?_
               rotate_left
               ·simp only [Act.put, List.setIfInBounds_toArray, List.set_cons_zero, List.set_cons_succ, i64_w, i32_w]
                rfl
               refine pure_ (i := 16) (N := some 63) (v := undef) (a' := ?_) #[true, true, true, true, true, true, true, true, true, true, true, true, true, true, true, true, true, false, false, false, false, false] rfl rfl (any_of HT_.out (by kernel_rfl)) (fun _ _ _ h => h) (Or.inr ⟨by rfl, rfl⟩) ?_ ?_
               rotate_left
               ·simp only [Act.put, List.setIfInBounds_toArray, List.set_cons_zero, List.set_cons_succ, i64_w, i32_w]
                rfl
               refine pure_ (i := 17) (N := some 64) (v := undef) (a' := ?_) #[true, true, true, true, true, true, true, true, true, true, true, true, true, true, true, true, true, true, false, false, false, false] rfl rfl (any_of HT_.out (by kernel_rfl)) (fun _ _ _ h => h) (Or.inr ⟨by rfl, rfl⟩) ?_ ?_
               rotate_left
               ·simp only [Act.put, List.setIfInBounds_toArray, List.set_cons_zero, List.set_cons_succ, i64_w, i32_w]
                rfl
               refine pure_ (i := 18) (N := some 65) (v := undef) (a' := ?_) #[true, true, true, true, true, true, true, true, true, true, true, true, true, true, true, true, true, true, true, false, false, false] rfl rfl (any_of HT_.out (by kernel_rfl)) (fun _ _ _ h => h) (Or.inr ⟨by rfl, rfl⟩) ?_ ?_
               rotate_left
               ·simp only [Act.put, List.setIfInBounds_toArray, List.set_cons_zero, List.set_cons_succ, i64_w, i32_w]
                rfl
               refine pure_ (i := 19) (N := some 66) (v := undef) (a' := ?_) #[true, true, true, true, true, true, true, true, true, true, true, true, true, true, true, true, true, true, true, true, false, false] rfl rfl (any_of HT_.out (by kernel_rfl)) (fun _ _ _ h => h) (Or.inr ⟨by rfl, rfl⟩) ?_ ?_
               rotate_left
               ·simp only [Act.put, List.setIfInBounds_toArray, List.set_cons_zero, List.set_cons_succ, i64_w, i32_w]
                rfl
               refine pure_ (i := 20) (N := some 67) (v := undef) (a' := ?_) #[true, true, true, true, true, true, true, true, true, true, true, true, true, true, true, true, true, true, true, true, true, false] rfl rfl (any_of HT_.out (by kernel_rfl)) (fun _ _ _ h => h) (Or.inr ⟨by rfl, rfl⟩) ?_ ?_
               rotate_left
               ·simp only [Act.put, List.setIfInBounds_toArray, List.set_cons_zero, List.set_cons_succ, i64_w, i32_w]
                rfl
               refine pureA (N := some 68) 21 HT_ ?_
               refine done_ (done_of HT_.out (by kernel_rfl)) ?_
               try go_wp2
               go_roundg k3
               case measure => have := HJ1.out; have := HK2.out; have := HK3.out; omega
               case rel => exact ⟨(wrap64 (x4_3 + 1)), (by first | rfl | (simp; done) | (simp [*]; done)), H', ⟨by have := HJ1.out; have := HK2.out; have := HK3.out; omega⟩, ⟨bk_ BK224⟩, ⟨(bw_ w)⟩⟩
             ·rw [if_neg c24] at H
              exact absurd H (by simp)
            ·rw [if_neg c23] at H
             exact absurd H (by simp)
           ·rw [if_neg c22] at H
            have c22b0 := decide_eq_false c22
            clear c22
            have H' := Aside0.mk H
            clear H
            go_wp2
            go_roundg k3
            case measure => have := HJ1.out; have := HK2.out; have := HK3.out; omega
            case rel => exact ⟨(wrap64 (x3_2 + 1)), (by first | rfl | (simp; done) | (simp [*]; done)), H', ⟨by have := HJ1.out; have := HK2.out; have := HK3.out; omega⟩, ⟨bk_ BK224⟩, ⟨(bw_ w)⟩⟩
        ·replace c18 := Bool.eq_false_iff.mpr c18
         subst c18
         rw [if_neg (show ¬ (false = true) by decide)] at H
         obtain rfl := Option.some.inj H
         obtain ⟨hcz32_0, hcz32_1, hcz32_2, hcz32_3, hfz32_0, hfz32_1, hfz32_2, hfz32_3⟩ := bc4_ (w := wr) BK224
         try go_wp2
         replace BK224 := Aside0.mk (blk_drew BK224.out)
         replace HB := Aside0.mk (below_drew1 HB.out)
         have p228 : 0 ≤ (x3_2 : Int) := of_decide_eq_true (by first | (with_reducible assumption) | assumption)
         have q228 : x3_2 < (l0_2.length : Int) := of_decide_eq_true (by first | (with_reducible assumption) | assumption)
         obtain ⟨ad228, e228, hx228_0, hx228_1, hx228_2, hx228_3, hx228_4⟩ := at_T34 HR0_2.out x3_2 p228 q228
         have hw228_4 := hx228_4
         have hw228_3 := hx228_3
         have hw228_2 := hx228_2
         have hw228_1 := hx228_1
         have hw228_0 := hx228_0
         cases e228
         replace hx228_0 := (HB.out.cell (World.block_lt_of_cell? w _ hx228_0)).trans hx228_0
         replace hx228_1 := (HB.out.cell (World.block_lt_of_cell? w _ hx228_1)).trans hx228_1
         replace hx228_2 := (HB.out.cell (World.block_lt_of_cell? w _ hx228_2)).trans hx228_2
         replace hx228_3 := (HB.out.cell (World.block_lt_of_cell? w _ hx228_3)).trans hx228_3
         replace hx228_4 := (HB.out.cell (World.block_lt_of_cell? w _ hx228_4)).trans hx228_4
         replace p228 := eq_true p228
         replace q228 := eq_true q228
         refine start_ (n := 8) (S := fun w' => w'.cell? ⟨gb224, 0, none⟩ = some (.int .i64 a0_0) ∧ w'.cell? ⟨gb224, 1, none⟩ = some (.int .i64 a0_1) ∧ w'.cell? ⟨gb224, 2, none⟩ = some (.slice (some ad228) l0_2.length c0_2) ∧ w'.cell? ⟨gb224, 3, none⟩ = some (.int .i64 a0_3) ∧ w'.cell? (ad228.add ((x3_2).toNat * 5)) = some (.int .i64 ((rd_T34 l0_2 x3_2).f0)) ∧ w'.cell? ⟨(ad228.add ((x3_2).toNat * 5)).block, (ad228.add ((x3_2).toNat * 5)).off + 1, none⟩ = some (.int .i64 ((rd_T34 l0_2 x3_2).f1)) ∧ w'.cell? ⟨(ad228.add ((x3_2).toNat * 5)).block, (ad228.add ((x3_2).toNat * 5)).off + 2, none⟩ = some (.int .i64 ((rd_T34 l0_2 x3_2).f2)) ∧ w'.cell? ⟨(ad228.add ((x3_2).toNat * 5)).block, (ad228.add ((x3_2).toNat * 5)).off + 3, none⟩ = some (.int .i64 ((rd_T34 l0_2 x3_2).f3)) ∧ w'.cell? ⟨(ad228.add ((x3_2).toNat * 5)).block, (ad228.add ((x3_2).toNat * 5)).off + 4, none⟩ = some (.int .i64 ((rd_T34 l0_2 x3_2).f4))) (ds := []) #[false, false, false, false, false, false, false, false] (by kernel_rfl) rfl rfl ⟨bc_ BK224 0, bc_ BK224 1, bc_ BK224 2, bc_ BK224 3, (bh_ HB hw228_0 :), (bh_ HB hw228_1 :), (bh_ HB hw228_2 :), (bh_ HB hw228_3 :), (bh_ HB hw228_4 :)⟩ (fun hHeld => ?_); refine with_tabW spec_l25Good.tab6 spec_l25Good.bits6 (fun HT_ HW_ => ?_)
         generalize wr.drew = w33 at BK224 HB hx228_0 hx228_1 hx228_2 hx228_3 hx228_4 hHeld ⊢
         refine pureA (N := some 35) 1 HT_ ?_
         refine pureA (N := some 37) 3 HT_ ?_
         refine takeA (N := some 34) 0 HT_ HW_ hHeld ?_
         refine takeA (N := some 36) 2 HT_ HW_ hHeld ?_
         refine pureA (N := some 38) 4 HT_ ?_
         refine takeA (N := some 39) 5 HT_ HW_ hHeld ?_
         refine oneA (N := some 40) 6 HT_ (fun K hK => ?_)
         refine goesA Try.func114 #[.agg #[.int .i64 a0_0, .int .i64 a0_1, .slice (some ad228) l0_2.length c0_2, .int .i64 a0_3], .agg #[.int .i64 ((rd_T34 l0_2 x3_2).f0), .int .i64 ((rd_T34 l0_2 x3_2).f1), .int .i64 ((rd_T34 l0_2 x3_2).f2), .int .i64 ((rd_T34 l0_2 x3_2).f3), .int .i64 ((rd_T34 l0_2 x3_2).f4)]] ?_
         with_reducible refine (spec_l25Carpet.calls k2 a0_0 a0_1 _ _ l0_2 a0_3 ((rd_T34 l0_2 x3_2).f0) ((rd_T34 l0_2 x3_2).f1) ((rd_T34 l0_2 x3_2).f2) ((rd_T34 l0_2 x3_2).f3) ((rd_T34 l0_2 x3_2).f4) false _ ?side1 ?side2 A17.out).mono ?_
         (case side1 => exact cb_ HR0_2 HB)
         (case side2 => exact HC0_2.out)
         rintro e w34 ⟨rfl, hb⟩
         refine ⟨_, rfl, ?_⟩
         replace BK224 := bb_ BK224 hb
         replace HB := hb_ w hb
         clear hb
         refine hK.out _ _ ⟨bc_ BK224 0, bc_ BK224 1, bc_ BK224 2, bc_ BK224 3, (bh_ HB hw228_0 :), (bh_ HB hw228_1 :), (bh_ HB hw228_2 :), (bh_ HB hw228_3 :), (bh_ HB hw228_4 :)⟩ (fun hHeld => ?_)
         clear hK K
         refine normA (N := some 40) ?_
         refine pureA (N := some 41) 7 HT_ ?_
         refine done_ (done_of HT_.out (by kernel_rfl)) ?_
         try go_wp2
         go_ret
         exact ⟨by first | rfl | (simp [errW_none, errW_some] <;> rfl) | (simp [*, errW_none, errW_some] <;> rfl), (bw_ w)⟩
       ·rw [if_neg c16] at H
        exact absurd H (by simp)
      ·rw [if_neg c15] at H
       have c15b0 := decide_eq_false c15
       clear c15
       obtain rfl := Option.some.inj H
       obtain ⟨hcz35_0, hcz35_1, hcz35_2, hcz35_3, hfz35_0, hfz35_1, hfz35_2, hfz35_3⟩ := bc4_ (w := wr) BK224
       go_wp2
       go_ret
       exact ⟨by first | rfl | (simp [errW_none, errW_some] <;> rfl) | (simp [*, errW_none, errW_some] <;> rfl), (bw_ w)⟩

/-! ### spec_l25Own: function 64 -/
def spec_l25Own.f (a0_0 : Int) (a0_1 : Int) (l0_2 : List (S34)) (a0_3 : Int) : Option (Int × Int × (List (S34)) × Int) := (some (([] : List (S34)) : List (S34))).bind fun y235 => (if y235.length + l0_2.length < 3518437208883 then (some (a0_0, a0_1, (y235 ++ l0_2), a0_3)) else (none))
def spec_l25Own.T1 : Bool × List (List Nat × List Nat) := (true, [([], []), ([0], [0]), ([], []), ([2], [2]), ([], []), ([], []), ([5], [5]), ([4, 6], [4, 6]), ([], []), ([8], [8]), ([1, 3, 7, 9], [1, 3, 7, 9]), ([10, 7, 0, 1, 2, 3, 4, 5, 6, 7, 8, 9, 10], [10])])
def spec_l25Own.B1 : List Nat := [0, 1, 0, 4, 0, 0, 32, 112, 0, 256, 1023, 2047]
theorem spec_l25Own.tab1 : rtab .any (opsOf Try.f64 1) = spec_l25Own.T1 := by kernel_rfl
theorem spec_l25Own.bits1 : waitsOk spec_l25Own.T1.2 spec_l25Own.B1 = true := by kernel_rfl
set_option maxHeartbeats 8000000 in
set_option maxRecDepth 100000 in
theorem spec_l25Own.calls (a0_0 : Int) (a0_1 : Int) (A0_2 : Option Addr) (c0_2 : Nat) (l0_2 : List (S34)) (a0_3 : Int) (r1 : Int) (r2 : Int) (r3 : List (S34)) (r4 : Int) (w : World) (hr0_2 : Kd.C k34 w A0_2 l0_2.length l0_2) (hc0_2 : l0_2.length ≤ c0_2) (h : spec_l25Own.f a0_0 a0_1 l0_2 a0_3 = some (r1, r2, r3, r4)) :
  Calls Try.prog 64 #[.agg #[.int .i64 a0_0, .int .i64 a0_1, .slice A0_2 l0_2.length c0_2, .int .i64 a0_3]] w fun e w' => ∃ v2_ : Value, e = .returned (.agg #[.int .i64 r1, .int .i64 r2, v2_, .int .i64 r4]) ∧ Kd.R k34 34 w' w.heap.size (fun _ => True) v2_ r3 ∧ Below w.heap.size w w' := by
 have hu24 := Try.underlying24
 have HR0_2 := Aside0.mk hr0_2
 have HC0_2 := Aside0.mk hc0_2
 clear hr0_2 hc0_2
 have HB := Aside0.mk (Below.refl w.heap.size w)
 have H : ((some (([] : List (S34)) : List (S34))).bind fun y235 => (if y235.length + l0_2.length < 3518437208883 then (some (a0_0, a0_1, (y235 ++ l0_2), a0_3)) else (none))) = some (r1, r2, r3, r4) := h
 clear h
 obtain ⟨y235, hy235⟩ : ∃ y_ : List (S34), y_ = (([] : List (S34))) := ⟨_, rfl⟩
 replace H : (if y235.length + l0_2.length < 3518437208883 then (some (a0_0, a0_1, (y235 ++ l0_2), a0_3)) else (none)) = some (r1, r2, r3, r4) := by first | (rw [hy235]; with_reducible exact H) | (have H2_ := (Option.bind_some _ _).symm.trans H; rw [hy235]; with_reducible exact H2_) | (have H2_ := (Option.bind_some _ _).symm.trans H; with_reducible exact H2_) | with_reducible exact H | (rw [hy235]; exact H) | exact H
 have Ny235 := Aside0.mk hy235
 clear hy235
 by_cases c2 : y235.length + l0_2.length < 3518437208883
 ·rw [if_pos c2] at H
  have LMc2 := Aside0.mk c2
  clear c2
  obtain ⟨y238, hy238⟩ : ∃ y_ : List (S34), y_ = (y235 ++ l0_2) := ⟨_, rfl⟩
  replace H : (some (a0_0, a0_1, y238, a0_3)) = some (r1, r2, r3, r4) := by first | (rw [hy238]; with_reducible exact H) | (have H2_ := (Option.bind_some _ _).symm.trans H; rw [hy238]; with_reducible exact H2_) | (have H2_ := (Option.bind_some _ _).symm.trans H; with_reducible exact H2_) | with_reducible exact H | (rw [hy238]; exact H) | exact H
  have Ny238 := Aside0.mk hy238
  clear hy238
  simp only [Option.some.injEq, Prod.mk.injEq] at H
  obtain ⟨rfl, rfl, rfl, rfl⟩ := H
  go_enter Try.func64, Try.ntmps64
  try go_wp2_with (first | ((with_reducible refine gate_dst (N := 1) rfl ?_); refine box_ (N := 1) (cs := #[.int .i64 a0_0, .int .i64 a0_1, .slice A0_2 l0_2.length c0_2, .int .i64 a0_3]) (t := 24) ?_; intro gb233 hg w3 hbox hb; have BK233 := Aside0.mk (hbox); have GW233 := gz_ w hg; have GE233 := gz_ w hg; replace HB := hb_ w hb; clear hb hbox hg) | ((with_reducible refine gate_dst (N := 2) rfl ?_); refine box_ (N := 2) (cs := #[.int .i64 0, .int .i64 0, .slice none 0 0, .int .i64 0]) (t := 24) ?_; intro gb234 hg w4 hbox hb; have BK234 := Aside0.mk (hbox); have GW234 := gz_ w hg; have GE234 := gz_ w hg; have NB233_234 := ne_ hg BK233; have NB234_233 := en_ hg BK233; replace BK233 := bb_ BK233 hb; replace HB := hb_ w hb; clear hb hbox hg))
  replace BK233 := Aside0.mk (blk_drew BK233.out)
  replace BK234 := Aside0.mk (blk_drew BK234.out)
  replace HB := Aside0.mk (below_drew1 HB.out)
  refine start_ (n := 12) (S := fun w' => w'.cell? ⟨gb233, 0, none⟩ = some (.int .i64 a0_0) ∧ w'.cell? ⟨gb233, 1, none⟩ = some (.int .i64 a0_1) ∧ w'.cell? ⟨gb233, 2, none⟩ = some (.slice A0_2 l0_2.length c0_2) ∧ w'.cell? ⟨gb233, 3, none⟩ = some (.int .i64 a0_3)) (ds := []) #[false, false, false, false, false, false, false, false, false, false, false, false] (by kernel_rfl) rfl rfl ⟨bc_ BK233 0, bc_ BK233 1, bc_ BK233 2, bc_ BK233 3⟩ (fun hHeld => ?_); refine with_tabW spec_l25Own.tab1 spec_l25Own.bits1 (fun HT_ HW_ => ?_)
  generalize w4.drew = w5 at BK233 BK234 HB hHeld ⊢
  refine pureA (N := some 3) 0 HT_ ?_
  refine pureA (N := some 5) 2 HT_ ?_
  refine pureA (N := some 8) 5 HT_ ?_
  refine pureA (N := some 11) 8 HT_ ?_
  refine takeA (N := some 4) 1 HT_ HW_ hHeld ?_
  refine takeA (N := some 6) 3 HT_ HW_ hHeld ?_
  refine takeA (N := some 9) 6 HT_ HW_ hHeld ?_
  refine takeA (N := some 12) 9 HT_ HW_ hHeld ?_
  refine oneA (N := some 7) 4 HT_ (fun K hK => ?_)
  refine Kd.R_lit_step k34 _ 34 ?hg (N := 7) ?hd (xs := ([] : List (S34))) (inner := []) (ok := fun _ => True) (okp := fun _ => True) ?hr ?hp (fun _ hk => hk) trivial (Below.refl _ _) (Nat.le_refl _) (by simp) ?_; (case hd => rfl); (case hg => rfl); (case hr => first | (go_simp; done) | (go_simp; rfl)); (case hp => exact (Reps.none _ _))
  intro v236 w6 ho7 hb hg_ hnew_
  clear hg_ hnew_
  (first | rw [← Ny235.out] at ho7 | (simp only [Int.reduceToNat] at ho7; rw [← Ny235.out] at ho7))
  have HO237 := Aside0.mk (Kd.R_lower ho7 (below_size (bw_ w)))
  replace BK233 := bb_ BK233 hb
  replace BK234 := bb_ BK234 hb
  replace HB := hb_ w hb
  clear hb ho7
  refine hK.out _ _ ⟨bc_ BK233 0, bc_ BK233 1, bc_ BK233 2, bc_ BK233 3⟩ (fun hHeld => ?_)
  clear hK K
  refine normA (N := some 7) ?_
  refine oneA (N := some 10) 7 HT_ (fun K hK => ?_)
  refine Kd.R_append_rows_step k34 (w0 := w) w.heap.size (by rfl) (.tmp 7) (.tmp 9) 22 34 (.agg #[(.int .i64 0), (.int .i64 0), (.int .i64 0), (.int .i64 0), (.int .i64 0)]) 40 rfl Try.underlying22 info34 rfl (by decide) (by omega) v236 y235 l0_2 _ _ _ (fun _ => True) (fun _ => False) rfl rfl ?aO ?aR (fun _ _ h => h) (fun _ h => h.elim) ?aF ?aB ?aS ?aL ?_
  (case aR => repeat (first | exact (Kd.C_below HR0_2.out HB.out) | (with_reducible refine Kd.C_alloc ?_ _) | (with_reducible refine Kd.C_drewN ?_ _) | (with_reducible refine Kd.C_drew ?_)))
  (case aB => exact (bw_ w))
  (case aF => exact (fun _ _ => trivial))
  (case aO => exact (ra_ HO237))
  (case aS => exact (below_size (bw_ w)))
  (case aL => have := LMc2.out; omega)
  intro v239 w8 ho hb hg hat
  rw [← Ny238.out] at ho
  replace BK233 := Aside0.mk (blk_grown (g := gb233) (o := .cells #[.int .i64 a0_0, .int .i64 a0_1, .slice A0_2 l0_2.length c0_2, .int .i64 a0_3] 24 (0, 0)) (bk_ BK233) hg (Kd.R_ne HO237.out BK233.out (by decide)))
  replace BK234 := Aside0.mk (blk_grown (g := gb234) (o := .cells #[.int .i64 0, .int .i64 0, .slice none 0 0, .int .i64 0] 24 (0, 0)) (bk_ BK234) hg (Kd.R_ne HO237.out BK234.out (by decide)))
  have HO240 := Aside0.mk (ho)
  replace HB := Aside0.mk (hb)
  clear HO237
  clear ho hb hg hat
  obtain ⟨Ao9, co9, eo9⟩ := Kd.R_slice HO240.out
  (first | subst eo9 | (injection eo9 with f1_ f2_ f3_; have f4_ := f1_.symm; have f5_ := f3_.symm; clear f1_ f2_ f3_; subst f4_; subst f5_))
  refine hK.out _ _ ⟨bc_ BK233 0, bc_ BK233 1, bc_ BK233 2, bc_ BK233 3⟩ (fun hHeld => ?_)
  clear hK K
  refine normA (N := some 10) ?_
  refine pureA (N := some 13) 10 HT_ ?_
  refine oneA (N := none) 11 HT_ (fun K hK => ?_)
  have hs10 : w8.cell? ⟨gb234, 0, none⟩ = some (.int .i64 0) := bc_ BK234 0
  have hfs10 := blk_frozen BK234.out 0
  have hns10_0 := NB233_234.out
  have hms10_0 := NB234_233.out
  have hs11 : w8.cell? ⟨gb234, 1, none⟩ = some (.int .i64 0) := bc_ BK234 1
  have hfs11 := blk_frozen BK234.out 1
  have hns11_0 := NB233_234.out
  have hms11_0 := NB234_233.out
  have hs12 : w8.cell? ⟨gb234, 2, none⟩ = some (.slice none 0 0) := bc_ BK234 2
  have hfs12 := blk_frozen BK234.out 2
  have hns12_0 := NB233_234.out
  have hms12_0 := NB234_233.out
  have hs13 : w8.cell? ⟨gb234, 3, none⟩ = some (.int .i64 0) := bc_ BK234 3
  have hfs13 := blk_frozen BK234.out 3
  have hns13_0 := NB233_234.out
  have hms13_0 := NB234_233.out
  refine skip_ (w1 := ?_) (by rfl) rfl ?_ ?_
  rotate_left
  ·go_simp
   rfl
  refine hK.out _ _ ⟨((cn_ NB233_234).trans (((cn_ NB233_234).trans (((cn_ NB233_234).trans (((cn_ NB233_234).trans (hHeld.1)))))))), ((cn_ NB233_234).trans (((cn_ NB233_234).trans (((cn_ NB233_234).trans (((cn_ NB233_234).trans (hHeld.2.1)))))))), ((cn_ NB233_234).trans (((cn_ NB233_234).trans (((cn_ NB233_234).trans (((cn_ NB233_234).trans (hHeld.2.2.1)))))))), ((cn_ NB233_234).trans (((cn_ NB233_234).trans (((cn_ NB233_234).trans (((cn_ NB233_234).trans (hHeld.2.2.2))))))))⟩ (fun hHeld => ?_)
  clear hK K
  refine done_ (done_of HT_.out (by kernel_rfl)) ?_
  try go_wp2
  refine bodyPost_ret (results_cell_row rfl _ _ gb234 24 #[.int .i64 a0_0, .int .i64 a0_1, .slice Ao9 y238.length co9, .int .i64 a0_3] (0, 0) _ rfl (bq_ BK234) Try.underlying24 rfl (by kernel_rfl)) rfl ?_
  exact ⟨_, by first | rfl | (simp [errW_none, errW_some] <;> rfl) | (simp [*, errW_none, errW_some] <;> rfl), by exact rf_ (Kd.R_types HO240.out BK234.out (by decide)) (fun _ hk => trivial), (bw_ w)⟩
 ·rw [if_neg c2] at H
  exact absurd H (by simp)

end Go.Proofs.Ytahglcpndiadnaa.PFnExactRunShop
