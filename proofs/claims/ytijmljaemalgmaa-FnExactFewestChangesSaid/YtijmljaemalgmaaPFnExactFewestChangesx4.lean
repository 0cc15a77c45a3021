-- Printed by this session's own program (wip/tool/myprint.py, over the kit's print); Lean checks it.
import Derived.Test.YtijmljaemalgmaaPFnExactFewestChangesx0
import Derived.Test.YtijmljaemalgmaaPFnExactFewestChangesx2
import Derived.Test.YtijmljaemalgmaaPFnExactFewestChangesx3
namespace Go.Proofs.Ytijmljaemalgmaa.PFnExactFewestChanges
open Go.RowKit Go.Proofs.YtijmljaemalgmaaW.PrintWords Go.Proofs.YtijmljaemalgmaaW.PrintLast Go.Proofs.YtijmljaemalgmaaW.PrintMore
attribute [local go_sem] max2_int min2_int max_two min_two max_three min_three max_four min_four   -- for this text's walks alone
set_option linter.unusedVariables false
set_option linter.unusedSimpArgs false

/-! ### spec_l4Complete: function 145 -/
mutual
def spec_l4Complete.l0 : Nat → Int → List Int → Int → List Int → Int → Int → List Int → Int → Int → List Int → Option (Int × Int × List Int × Int)
  | 0, _, _, _, _, _, _, _, _, _, _ => none
  | k + 1, x7, x9, x10, x23, x200000, x200001, x200002, x207000, x207001, x207002 => if x10 < (x200002.length : Int) then ((spec_l1Has.f k x9 x10).bind fun t213 => (if t213 = true then (spec_l4Complete.l0 k x7 x9 (wrap64 (x10 + 1)) x23 x200000 x200001 x200002 x207000 x207001 x207002) else (spec_l4Complete.l1 k x7 x23 x9 x10 (([] : List Int)) x10 x23 x200000 x200001 x200002 x207000 x207001 x207002))) else (some (x207000, x207001, x207002, x7))
def spec_l4Complete.l1 : Nat → Int → List Int → List Int → Int → List Int → Int → List Int → Int → Int → List Int → Int → Int → List Int → Option (Int × Int × List Int × Int)
  | 0, _, _, _, _, _, _, _, _, _, _, _, _, _ => none
  | k + 1, x7, x8, x9, x10, x11, x12, x23, x200000, x200001, x200002, x207000, x207001, x207002 => (spec_l1Has.f k x11 x12).bind fun t217 => (if t217 = true then (if x9.length + x11.length < 17592186044416 then (spec_l4Complete.l2 k x7 (x9 ++ x11) x10 x11 0 0 0 x23 x200000 x200001 x200002 x207000 x207001 x207002) else (none)) else (if x11.length < 17592186044416 then (if 0 ≤ x12 then (if x12 < (x8.length : Int) then (spec_l4Complete.l1 k x7 x8 x9 x10 (x11 ++ [x12]) (rd x8 x12) x23 x200000 x200001 x200002 x207000 x207001 x207002) else (none)) else (none)) else (none)))
def spec_l4Complete.l2 : Nat → Int → List Int → Int → List Int → Int → Int → Int → List Int → Int → Int → List Int → Int → Int → List Int → Option (Int × Int × List Int × Int)
  | 0, _, _, _, _, _, _, _, _, _, _, _, _, _, _ => none
  | k + 1, x7, x9, x10, x11, x13, x14, x15, x23, x200000, x200001, x200002, x207000, x207001, x207002 => if x15 < 6 then (spec_l4Complete.l3 k x7 x9 x10 x11 x13 x14 x15 0 0 x23 x200000 x200001 x200002 x207000 x207001 x207002) else (spec_l4Complete.l4 k (wrap64 ((wrap64 (x7 + (x11.length : Int))) - x14)) x9 x10 x13 0 x23 x11 x200000 x200001 x200002 x207000 x207001 x207002)
def spec_l4Complete.l3 : Nat → Int → List Int → Int → List Int → Int → Int → Int → Int → Int → List Int → Int → Int → List Int → Int → Int → List Int → Option (Int × Int × List Int × Int)
  | 0, _, _, _, _, _, _, _, _, _, _, _, _, _, _, _, _ => none
  | k + 1, x7, x9, x10, x11, x13, x14, x15, x16, x17, x23, x200000, x200001, x200002, x207000, x207001, x207002 => if x17 < (x11.length : Int) then (if 0 ≤ x17 then (if 0 ≤ (rd x11 x17) then (if (rd x11 x17) < (x200002.length : Int) then (if (rd x200002 (rd x11 x17)) = x15 then (spec_l4Complete.l3 k x7 x9 x10 x11 x13 x14 x15 (wrap64 (x16 + 1)) (wrap64 (x17 + 1)) x23 x200000 x200001 x200002 x207000 x207001 x207002) else (spec_l4Complete.l3 k x7 x9 x10 x11 x13 x14 x15 x16 (wrap64 (x17 + 1)) x23 x200000 x200001 x200002 x207000 x207001 x207002)) else (none)) else (none)) else (none)) else (if x16 > x14 then (spec_l4Complete.l2 k x7 x9 x10 x11 x15 x16 (wrap64 (x15 + 1)) x23 x200000 x200001 x200002 x207000 x207001 x207002) else (spec_l4Complete.l2 k x7 x9 x10 x11 x13 x14 (wrap64 (x15 + 1)) x23 x200000 x200001 x200002 x207000 x207001 x207002))
def spec_l4Complete.l4 : Nat → Int → List Int → Int → Int → Int → List Int → List Int → Int → Int → List Int → Int → Int → List Int → Option (Int × Int × List Int × Int)
  | 0, _, _, _, _, _, _, _, _, _, _, _, _, _ => none
  | k + 1, x7, x9, x10, x13, x18, x23, x80, x200000, x200001, x200002, x207000, x207001, x207002 => if x18 < (x80.length : Int) then (if 0 ≤ x18 then (if 0 ≤ (rd x80 x18) then (if (rd x80 x18) < (x207002.length : Int) then (spec_l4Complete.l4 k x7 x9 x10 x13 (wrap64 (x18 + 1)) x23 x80 x200000 x200001 x200002 x207000 x207001 (x207002.set ((rd x80 x18) : Int).toNat x13)) else (none)) else (none)) else (none)) else (spec_l4Complete.l0 k x7 x9 (wrap64 (x10 + 1)) x23 x200000 x200001 x200002 x207000 x207001 x207002)
end
def spec_l4Complete.f (k : Nat) (a0_0 : Int) (a0_1 : Int) (l0_2 : List Int) (a1 : Int) : Option (Int × Int × List Int × Int) := (spec_l2Own.f a0_0 a0_1 l0_2).bind fun bt201 => ((spec_l4Places.f k a0_0 a0_1 l0_2 a1).bind fun t207 => (spec_l4Complete.l0 k 0 (([] : List Int)) 0 t207 a0_0 a0_1 l0_2 bt201.1 bt201.2.1 bt201.2.2))
theorem spec_l4Complete.mono_l : ∀ k, (∀ y0 y1 y2 y3 y4 y5 y6 y7 y8 y9, LeO (spec_l4Complete.l0 k y0 y1 y2 y3 y4 y5 y6 y7 y8 y9) (spec_l4Complete.l0 (k + 1) y0 y1 y2 y3 y4 y5 y6 y7 y8 y9)) ∧ (∀ y0 y1 y2 y3 y4 y5 y6 y7 y8 y9 y10 y11 y12, LeO (spec_l4Complete.l1 k y0 y1 y2 y3 y4 y5 y6 y7 y8 y9 y10 y11 y12) (spec_l4Complete.l1 (k + 1) y0 y1 y2 y3 y4 y5 y6 y7 y8 y9 y10 y11 y12)) ∧ (∀ y0 y1 y2 y3 y4 y5 y6 y7 y8 y9 y10 y11 y12 y13, LeO (spec_l4Complete.l2 k y0 y1 y2 y3 y4 y5 y6 y7 y8 y9 y10 y11 y12 y13) (spec_l4Complete.l2 (k + 1) y0 y1 y2 y3 y4 y5 y6 y7 y8 y9 y10 y11 y12 y13)) ∧ (∀ y0 y1 y2 y3 y4 y5 y6 y7 y8 y9 y10 y11 y12 y13 y14 y15, LeO (spec_l4Complete.l3 k y0 y1 y2 y3 y4 y5 y6 y7 y8 y9 y10 y11 y12 y13 y14 y15) (spec_l4Complete.l3 (k + 1) y0 y1 y2 y3 y4 y5 y6 y7 y8 y9 y10 y11 y12 y13 y14 y15)) ∧ (∀ y0 y1 y2 y3 y4 y5 y6 y7 y8 y9 y10 y11 y12, LeO (spec_l4Complete.l4 k y0 y1 y2 y3 y4 y5 y6 y7 y8 y9 y10 y11 y12) (spec_l4Complete.l4 (k + 1) y0 y1 y2 y3 y4 y5 y6 y7 y8 y9 y10 y11 y12))
  | 0 => ⟨fun _ _ _ _ _ _ _ _ _ _ r h => by simp [spec_l4Complete.l0] at h, fun _ _ _ _ _ _ _ _ _ _ _ _ _ r h => by simp [spec_l4Complete.l1] at h, fun _ _ _ _ _ _ _ _ _ _ _ _ _ _ r h => by simp [spec_l4Complete.l2] at h, fun _ _ _ _ _ _ _ _ _ _ _ _ _ _ _ _ r h => by simp [spec_l4Complete.l3] at h, fun _ _ _ _ _ _ _ _ _ _ _ _ _ r h => by simp [spec_l4Complete.l4] at h⟩
  | k + 1 => by
    obtain ⟨ih0, ih1, ih2, ih3, ih4⟩ := spec_l4Complete.mono_l k
    refine ⟨?_, ?_, ?_, ?_, ?_⟩
    · intro y0 y1 y2 y3 y4 y5 y6 y7 y8 y9
      unfold spec_l4Complete.l0
      repeat' first
      | (with_reducible exact ih0 _ _ _ _ _ _ _ _ _ _)
      | (with_reducible exact ih1 _ _ _ _ _ _ _ _ _ _ _ _ _)
      | (with_reducible exact ih2 _ _ _ _ _ _ _ _ _ _ _ _ _ _)
      | (with_reducible exact ih3 _ _ _ _ _ _ _ _ _ _ _ _ _ _ _ _)
      | (with_reducible exact ih4 _ _ _ _ _ _ _ _ _ _ _ _ _)
      | (with_reducible exact spec_l1Has.mono _ _ _)
      | (with_reducible exact spec_l4Places.mono _ _ _ _ _)
      | (with_reducible exact LeO.refl _)
      | (with_reducible exact LeO.none _)
      | (with_reducible refine LeO.ite ?_ ?_)
      | (with_reducible refine LeO.bind ?_ (fun _ => ?_))
      | exact ih0 _ _ _ _ _ _ _ _ _ _
      | exact ih1 _ _ _ _ _ _ _ _ _ _ _ _ _
      | exact ih2 _ _ _ _ _ _ _ _ _ _ _ _ _ _
      | exact ih3 _ _ _ _ _ _ _ _ _ _ _ _ _ _ _ _
      | exact ih4 _ _ _ _ _ _ _ _ _ _ _ _ _
      | exact spec_l1Has.mono _ _ _
      | exact spec_l4Places.mono _ _ _ _ _
      | exact LeO.none _
      | refine LeO.ite ?_ ?_
      | refine LeO.bind ?_ (fun _ => ?_)
    · intro y0 y1 y2 y3 y4 y5 y6 y7 y8 y9 y10 y11 y12
      unfold spec_l4Complete.l1
      repeat' first
      | (with_reducible exact ih0 _ _ _ _ _ _ _ _ _ _)
      | (with_reducible exact ih1 _ _ _ _ _ _ _ _ _ _ _ _ _)
      | (with_reducible exact ih2 _ _ _ _ _ _ _ _ _ _ _ _ _ _)
      | (with_reducible exact ih3 _ _ _ _ _ _ _ _ _ _ _ _ _ _ _ _)
      | (with_reducible exact ih4 _ _ _ _ _ _ _ _ _ _ _ _ _)
      | (with_reducible exact spec_l1Has.mono _ _ _)
      | (with_reducible exact spec_l4Places.mono _ _ _ _ _)
      | (with_reducible exact LeO.refl _)
      | (with_reducible exact LeO.none _)
      | (with_reducible refine LeO.ite ?_ ?_)
      | (with_reducible refine LeO.bind ?_ (fun _ => ?_))
      | exact ih0 _ _ _ _ _ _ _ _ _ _
      | exact ih1 _ _ _ _ _ _ _ _ _ _ _ _ _
      | exact ih2 _ _ _ _ _ _ _ _ _ _ _ _ _ _
      | exact ih3 _ _ _ _ _ _ _ _ _ _ _ _ _ _ _ _
      | exact ih4 _ _ _ _ _ _ _ _ _ _ _ _ _
      | exact spec_l1Has.mono _ _ _
      | exact spec_l4Places.mono _ _ _ _ _
      | exact LeO.none _
      | refine LeO.ite ?_ ?_
      | refine LeO.bind ?_ (fun _ => ?_)
    · intro y0 y1 y2 y3 y4 y5 y6 y7 y8 y9 y10 y11 y12 y13
      unfold spec_l4Complete.l2
      repeat' first
      | (with_reducible exact ih0 _ _ _ _ _ _ _ _ _ _)
      | (with_reducible exact ih1 _ _ _ _ _ _ _ _ _ _ _ _ _)
      | (with_reducible exact ih2 _ _ _ _ _ _ _ _ _ _ _ _ _ _)
      | (with_reducible exact ih3 _ _ _ _ _ _ _ _ _ _ _ _ _ _ _ _)
      | (with_reducible exact ih4 _ _ _ _ _ _ _ _ _ _ _ _ _)
      | (with_reducible exact spec_l1Has.mono _ _ _)
      | (with_reducible exact spec_l4Places.mono _ _ _ _ _)
      | (with_reducible exact LeO.refl _)
      | (with_reducible exact LeO.none _)
      | (with_reducible refine LeO.ite ?_ ?_)
      | (with_reducible refine LeO.bind ?_ (fun _ => ?_))
      | exact ih0 _ _ _ _ _ _ _ _ _ _
      | exact ih1 _ _ _ _ _ _ _ _ _ _ _ _ _
      | exact ih2 _ _ _ _ _ _ _ _ _ _ _ _ _ _
      | exact ih3 _ _ _ _ _ _ _ _ _ _ _ _ _ _ _ _
      | exact ih4 _ _ _ _ _ _ _ _ _ _ _ _ _
      | exact spec_l1Has.mono _ _ _
      | exact spec_l4Places.mono _ _ _ _ _
      | exact LeO.none _
      | refine LeO.ite ?_ ?_
      | refine LeO.bind ?_ (fun _ => ?_)
    · intro y0 y1 y2 y3 y4 y5 y6 y7 y8 y9 y10 y11 y12 y13 y14 y15
      unfold spec_l4Complete.l3
      repeat' first
      | (with_reducible exact ih0 _ _ _ _ _ _ _ _ _ _)
      | (with_reducible exact ih1 _ _ _ _ _ _ _ _ _ _ _ _ _)
      | (with_reducible exact ih2 _ _ _ _ _ _ _ _ _ _ _ _ _ _)
      | (with_reducible exact ih3 _ _ _ _ _ _ _ _ _ _ _ _ _ _ _ _)
      | (with_reducible exact ih4 _ _ _ _ _ _ _ _ _ _ _ _ _)
      | (with_reducible exact spec_l1Has.mono _ _ _)
      | (with_reducible exact spec_l4Places.mono _ _ _ _ _)
      | (with_reducible exact LeO.refl _)
      | (with_reducible exact LeO.none _)
      | (with_reducible refine LeO.ite ?_ ?_)
      | (with_reducible refine LeO.bind ?_ (fun _ => ?_))
      | exact ih0 _ _ _ _ _ _ _ _ _ _
      | exact ih1 _ _ _ _ _ _ _ _ _ _ _ _ _
      | exact ih2 _ _ _ _ _ _ _ _ _ _ _ _ _ _
      | exact ih3 _ _ _ _ _ _ _ _ _ _ _ _ _ _ _ _
      | exact ih4 _ _ _ _ _ _ _ _ _ _ _ _ _
      | exact spec_l1Has.mono _ _ _
      | exact spec_l4Places.mono _ _ _ _ _
      | exact LeO.none _
      | refine LeO.ite ?_ ?_
      | refine LeO.bind ?_ (fun _ => ?_)
    · intro y0 y1 y2 y3 y4 y5 y6 y7 y8 y9 y10 y11 y12
      unfold spec_l4Complete.l4
      repeat' first
      | (with_reducible exact ih0 _ _ _ _ _ _ _ _ _ _)
      | (with_reducible exact ih1 _ _ _ _ _ _ _ _ _ _ _ _ _)
      | (with_reducible exact ih2 _ _ _ _ _ _ _ _ _ _ _ _ _ _)
      | (with_reducible exact ih3 _ _ _ _ _ _ _ _ _ _ _ _ _ _ _ _)
      | (with_reducible exact ih4 _ _ _ _ _ _ _ _ _ _ _ _ _)
      | (with_reducible exact spec_l1Has.mono _ _ _)
      | (with_reducible exact spec_l4Places.mono _ _ _ _ _)
      | (with_reducible exact LeO.refl _)
      | (with_reducible exact LeO.none _)
      | (with_reducible refine LeO.ite ?_ ?_)
      | (with_reducible refine LeO.bind ?_ (fun _ => ?_))
      | exact ih0 _ _ _ _ _ _ _ _ _ _
      | exact ih1 _ _ _ _ _ _ _ _ _ _ _ _ _
      | exact ih2 _ _ _ _ _ _ _ _ _ _ _ _ _ _
      | exact ih3 _ _ _ _ _ _ _ _ _ _ _ _ _ _ _ _
      | exact ih4 _ _ _ _ _ _ _ _ _ _ _ _ _
      | exact spec_l1Has.mono _ _ _
      | exact spec_l4Places.mono _ _ _ _ _
      | exact LeO.none _
      | refine LeO.ite ?_ ?_
      | refine LeO.bind ?_ (fun _ => ?_)
theorem spec_l4Complete.mono : ∀ a0 a1 a2 a3 k, LeO (spec_l4Complete.f k a0 a1 a2 a3) (spec_l4Complete.f (k + 1) a0 a1 a2 a3) := by
  intro a0 a1 a2 a3 k
  obtain ⟨ih0, ih1, ih2, ih3, ih4⟩ := spec_l4Complete.mono_l k
  unfold spec_l4Complete.f
  repeat' first
      | (with_reducible exact ih0 _ _ _ _ _ _ _ _ _ _)
      | (with_reducible exact ih1 _ _ _ _ _ _ _ _ _ _ _ _ _)
      | (with_reducible exact ih2 _ _ _ _ _ _ _ _ _ _ _ _ _ _)
      | (with_reducible exact ih3 _ _ _ _ _ _ _ _ _ _ _ _ _ _ _ _)
      | (with_reducible exact ih4 _ _ _ _ _ _ _ _ _ _ _ _ _)
      | (with_reducible exact spec_l1Has.mono _ _ _)
      | (with_reducible exact spec_l4Places.mono _ _ _ _ _)
      | (with_reducible exact LeO.refl _)
      | (with_reducible exact LeO.none _)
      | (with_reducible refine LeO.ite ?_ ?_)
      | (with_reducible refine LeO.bind ?_ (fun _ => ?_))
      | exact ih0 _ _ _ _ _ _ _ _ _ _
      | exact ih1 _ _ _ _ _ _ _ _ _ _ _ _ _
      | exact ih2 _ _ _ _ _ _ _ _ _ _ _ _ _ _
      | exact ih3 _ _ _ _ _ _ _ _ _ _ _ _ _ _ _ _
      | exact ih4 _ _ _ _ _ _ _ _ _ _ _ _ _
      | exact spec_l1Has.mono _ _ _
      | exact spec_l4Places.mono _ _ _ _ _
      | exact LeO.none _
      | refine LeO.ite ?_ ?_
      | refine LeO.bind ?_ (fun _ => ?_)
def spec_l4Complete.T22 : Bool × List (List Nat × List Nat) := (true, [([], []), ([0], [0]), ([], []), ([], []), ([2, 3], [2, 3]), ([4], [4]), ([1, 5], [1, 5]), ([6], [6]), ([], []), ([7, 8], [7, 8])])
def spec_l4Complete.B22 : List Nat := [0, 1, 0, 0, 12, 28, 63, 127, 0, 511]
theorem spec_l4Complete.tab22 : rtab .any (opsOf Try.f145 22) = spec_l4Complete.T22 := by kernel_rfl
theorem spec_l4Complete.bits22 : waitsOk spec_l4Complete.T22.2 spec_l4Complete.B22 = true := by kernel_rfl
def spec_l4Complete.T31 : Bool × List (List Nat × List Nat) := (true, [([], []), ([0], [0]), ([], []), ([], []), ([2, 3], [2, 3]), ([4], [4]), ([], []), ([1, 5, 0, 1, 2, 3, 4, 5, 6], [1, 5]), ([7, 6, 0, 1, 2, 3, 4, 5, 6], [6, 7])])
def spec_l4Complete.B31 : List Nat := [0, 1, 0, 0, 12, 28, 0, 127, 255]
theorem spec_l4Complete.tab31 : rtab .any (opsOf Try.f145 31) = spec_l4Complete.T31 := by kernel_rfl
theorem spec_l4Complete.bits31 : waitsOk spec_l4Complete.T31.2 spec_l4Complete.B31 = true := by kernel_rfl
set_option maxHeartbeats 8000000 in
set_option maxRecDepth 100000 in
theorem spec_l4Complete.calls (k : Nat) (a0_0 : Int) (a0_1 : Int) (A0_2 : Option Addr) (c0_2 : Nat) (l0_2 : List Int) (a1 : Int) (r1 : Int) (r2 : Int) (r3 : List Int) (r4 : Int) (w : World) (hr0_2 : Kd.C (Kd.int .i64) w A0_2 l0_2.length l0_2) (hc0_2 : l0_2.length ≤ c0_2) (h : spec_l4Complete.f k a0_0 a0_1 l0_2 a1 = some (r1, r2, r3, r4)) :
  Calls Try.prog 145 #[.agg #[.int .i64 a0_0, .int .i64 a0_1, .slice A0_2 l0_2.length c0_2], .int .i64 a1] w fun e w' => ∃ v2_ : Value, e = .returned (.tuple #[.agg #[.int .i64 r1, .int .i64 r2, v2_], .int .i64 r4]) ∧ Kd.R (Kd.int .i64) 3 w' w.heap.size (fun _ => True) v2_ r3 ∧ Below w.heap.size w w' := by
 have hu26 := Try.underlying26
 have HR0_2 := Aside0.mk hr0_2
 have HC0_2 := Aside0.mk hc0_2
 clear hr0_2 hc0_2
 have HB := Aside0.mk (Below.refl w.heap.size w)
 have H : ((spec_l2Own.f a0_0 a0_1 l0_2).bind fun bt201 => ((spec_l4Places.f k a0_0 a0_1 l0_2 a1).bind fun t207 => (spec_l4Complete.l0 k 0 (([] : List Int)) 0 t207 a0_0 a0_1 l0_2 bt201.1 bt201.2.1 bt201.2.2))) = some (r1, r2, r3, r4) := h
 clear h
 replace H := Option.bind_eq_some_iff.mp H
 obtain ⟨⟨t201, t202, t203⟩, A30, H⟩ := H
 replace H : ((spec_l4Places.f k a0_0 a0_1 l0_2 a1).bind fun t207 => (spec_l4Complete.l0 k 0 (([] : List Int)) 0 t207 a0_0 a0_1 l0_2 t201 t202 t203)) = some (r1, r2, r3, r4) := H
 have A3 := Aside0.mk A30
 clear A30
 replace H := Option.bind_eq_some_iff.mp H
 obtain ⟨t207, A40, H⟩ := H
 replace H : (spec_l4Complete.l0 k 0 (([] : List Int)) 0 t207 a0_0 a0_1 l0_2 t201 t202 t203) = some (r1, r2, r3, r4) := H
 have A4 := Aside0.mk A40
 clear A40
 obtain ⟨y210, hy210⟩ : ∃ y_ : List Int, y_ = (([] : List Int)) := ⟨_, rfl⟩
 replace H : (spec_l4Complete.l0 k 0 y210 0 t207 a0_0 a0_1 l0_2 t201 t202 t203) = some (r1, r2, r3, r4) := by first | (rw [hy210]; with_reducible exact H) | (have H2_ := (Option.bind_some _ _).symm.trans H; rw [hy210]; with_reducible exact H2_) | (have H2_ := (Option.bind_some _ _).symm.trans H; with_reducible exact H2_) | with_reducible exact H | (rw [hy210]; exact H) | exact H
 have Ny210 := Aside0.mk hy210
 clear hy210
 have H' := Aside0.mk H
 clear H
 go_enter Try.func145, Try.ntmps145
 go_wp2_with (first | ((with_reducible refine gate_dst (N := 2) rfl ?_); refine box_ (N := 2) (cs := #[.int .i64 a0_0, .int .i64 a0_1, .slice A0_2 l0_2.length c0_2]) (t := 26) ?_; intro gb199 hg w5 hbox hb; have BK199 := Aside0.mk (hbox); have GW199 := gz_ w hg; have GE199 := gz_ w hg; replace HB := Aside0.mk (below_step (bw_ w) hb); clear hb hbox hg) | ((with_reducible refine gate_dst (N := 4) rfl ?_); refine box_ (N := 4) (cs := #[.int .i64 0, .int .i64 0, .slice none 0 0]) (t := 26) ?_; intro gb200 hg w6 hbox hb; have n0_ := bb_ BK199 hb; have n1_ := Aside0.mk (below_step (bw_ w) hb); have n2_ := Aside0.mk (hbox); have n3_ := gz_ w hg; have n4_ := gz_ w hg; have n5_ := ne_ hg BK199; have n6_ := en_ hg BK199; clear BK199; clear HB; have BK199 := n0_; have HB := n1_; have BK200 := n2_; have GW200 := n3_; have GE200 := n4_; have NB199_200 := n5_; have NB200_199 := n6_; clear n0_ n1_ n2_ n3_ n4_ n5_ n6_; clear hb hbox hg; have hnb7 := NB199_200.out; have hnc7 := NB200_199.out; obtain ⟨hcz8_0, hcz8_1, hcz8_2, hfz8_0, hfz8_1, hfz8_2⟩ := bc3_ (w := w6) BK199) | ((with_reducible refine gate_callee (f := 135) rfl ?_); refine goesB (some 20) Try.func135 #[.agg #[.int .i64 a0_0, .int .i64 a0_1, .slice A0_2 l0_2.length c0_2]] ?_; (with_reducible refine (spec_l2Own.calls a0_0 a0_1 _ _ l0_2 t201 t202 t203 _ ?side1 ?side2 A3.out).mono ?_); (case side1 => exact cb_ HR0_2 HB); (case side2 => exact HC0_2.out); rintro e w9 ⟨v204, rfl, ho0, hb⟩; refine ⟨_, rfl, ?_⟩; have HO205 := Aside0.mk (Kd.R_lower ho0 (below_size (bw_ w))); replace BK199 := bb_ BK199 hb; replace BK200 := bb_ BK200 hb; replace HB := Aside0.mk (below_step (bw_ w) hb); (try clear hb); (try clear hb2); (try clear hk); (try clear hi); (try clear ho0)) | ((with_reducible refine gate_dst (N := 6) rfl ?_); refine box_ (N := 6) (cs := #[.int .i64 0, .int .i64 0, .slice none 0 0]) (t := 26) ?_; intro gb206 hg w10 hbox hb; have n0_ := Aside0.mk (Kd.R_below (ra_ HO205) hb); have n1_ := bb_ BK199 hb; have n2_ := bb_ BK200 hb; have n3_ := Aside0.mk (below_step (bw_ w) hb); have n4_ := Aside0.mk (hbox); have n5_ := gz_ w hg; have n6_ := gz_ w hg; have n7_ := ne_ hg BK199; have n8_ := en_ hg BK199; have n9_ := ne_ hg BK200; have n10_ := en_ hg BK200; clear HO205; clear BK199; clear BK200; clear HB; have HO205 := n0_; have BK199 := n1_; have BK200 := n2_; have HB := n3_; have BK206 := n4_; have GW206 := n5_; have GE206 := n6_; have NB199_206 := n7_; have NB206_199 := n8_; have NB200_206 := n9_; have NB206_200 := n10_; clear n0_ n1_ n2_ n3_ n4_ n5_ n6_ n7_ n8_ n9_ n10_; clear hb hbox hg; have hnb11 := NB206_199.out; have hnc11 := NB199_206.out; have hnb12 := NB206_200.out; have hnc12 := NB200_206.out; obtain ⟨hcz13_0, hcz13_1, hcz13_2, hfz13_0, hfz13_1, hfz13_2⟩ := bc3_ (w := w10) BK206; obtain ⟨Ao14, co14, eo14⟩ := Kd.R_slice HO205.out; subst eo14; obtain ⟨hcz15_0, hcz15_1, hcz15_2, hfz15_0, hfz15_1, hfz15_2⟩ := bc3_ (w := w10) BK199) | ((with_reducible refine gate_callee (f := 235) rfl ?_); refine goesB (some 23) Try.func235 #[.agg #[.int .i64 a0_0, .int .i64 a0_1, .slice A0_2 l0_2.length c0_2], .int .i64 a1] ?_; (with_reducible refine (spec_l4Places.calls k a0_0 a0_1 _ _ l0_2 a1 t207 _ ?side1 ?side2 A4.out).mono ?_); (case side1 => exact Kd.C_below HR0_2.out (bw_ w)); (case side2 => exact HC0_2.out); rintro e w16 ⟨v208, rfl, ho0, hb⟩; refine ⟨_, rfl, ?_⟩; have n0_ := Aside0.mk (Kd.R_elder' (by exact rf_ (Kd.R_types HO205.out BK206.out (by decide)) (fun _ h_ => h_.1)) (Kd.R_base ho0) hb); have n1_ := Aside0.mk (Kd.R_lower (Kd.R_new' ho0 (Kd.R_lt (by exact rf_ (Kd.R_types HO205.out BK206.out (by decide)) (fun _ h_ => h_.1)))) (below_size (bw_ w))); have n2_ := bb_ BK199 hb; have n3_ := bb_ BK200 hb; have n4_ := Aside0.mk (blk_below (g := gb206) (o := .cells #[.int .i64 t201, .int .i64 t202, .slice Ao14 t203.length co14] 26 (0, 0)) (bq_ BK206) hb); have n5_ := Aside0.mk (below_step (bw_ w) hb); clear HO205; clear BK199; clear BK200; clear BK206; clear HB; have HO205 := n0_; have HO209 := n1_; have BK199 := n2_; have BK200 := n3_; have BK206 := n4_; have HB := n5_; clear n0_ n1_ n2_ n3_ n4_ n5_; (try clear hb); (try clear hb2); (try clear hk); (try clear hi); (try clear ho0)) | ((with_reducible refine gate_dst (N := 24) rfl ?_); refine Kd.R_lit (Kd.int .i64) _ 3 ?hg (N := 24) ?hd (xs := ([] : List Int)) (inner := []) (ok := fun _ => True) (okp := fun _ => True) ?hr ?hp (fun _ hk => hk) trivial (Below.refl _ _) (Nat.le_refl _) (by simp) ?_; (case hd => rfl); (case hg => rfl); (case hr => first | (go_simp; done) | (go_simp; rfl)); (case hp => exact (Reps.none _ _)); intro v211 w17 ho18 hb hg_ hnew_; clear hg_ hnew_; (first | rw [← Ny210.out] at ho18 | (simp only [Int.reduceToNat] at ho18; rw [← Ny210.out] at ho18)); have n0_ := Aside0.mk (Kd.R_elder' (ra_ HO205) (Kd.R_base ho18) hb); have n1_ := Aside0.mk (Kd.R_elder' (ra_ HO209) (Kd.R_base ho18) hb); have n2_ := Aside0.mk (Kd.R_lower (Kd.R_new' (Kd.R_new' ho18 (Kd.R_lt (ra_ HO205))) (Kd.R_lt (ra_ HO209))) (below_size (bw_ w))); have n3_ := bb_ BK199 hb; have n4_ := bb_ BK200 hb; have n5_ := bb_ BK206 hb; have n6_ := Aside0.mk (below_step (bw_ w) hb); clear HO205; clear HO209; clear BK199; clear BK200; clear BK206; clear HB; have HO205 := n0_; have HO209 := n1_; have HO212 := n2_; have BK199 := n3_; have BK200 := n4_; have BK206 := n5_; have HB := n6_; clear n0_ n1_ n2_ n3_ n4_ n5_ n6_; clear hb ho18))
 go_loopg [7, 9, 10] k (fun kq v7 v9 v10 w' => ∃ (x7_1 : Int) (x9_1 : List Int) (x10_1 : Int) (x23_1 : List Int) (x207002_1 : List Int) (u207002 : Value), v7 = .int .i64 x7_1 ∧ v10 = .int .i64 x10_1 ∧ Aside0 (spec_l4Complete.l0 kq x7_1 x9_1 x10_1 x23_1 a0_0 a0_1 l0_2 t201 t202 x207002_1 = some (r1, r2, r3, r4)) ∧ Aside0 (kq ≤ k) ∧ Aside0 (Kd.R (Kd.int .i64) 3 w' w.heap.size (fun k_ => some k_ ≠ (v208 : Value).ownBlock ∧ some k_ ≠ (u207002 : Value).ownBlock) v9 x9_1) ∧ Aside0 (Kd.R (Kd.int .i64) 3 w' w.heap.size (fun k_ => some k_ ≠ (v9 : Value).ownBlock ∧ some k_ ≠ (u207002 : Value).ownBlock) v208 x23_1) ∧ Aside0 (Kd.R (Kd.int .i64) 3 w' w.heap.size (fun k_ => some k_ ≠ (v9 : Value).ownBlock ∧ some k_ ≠ (v208 : Value).ownBlock) u207002 x207002_1) ∧ Aside0 (w'.heap[gb199]? = some (.cells #[.int .i64 a0_0, .int .i64 a0_1, (.slice A0_2 l0_2.length c0_2)] 26 (0, 0))) ∧ Aside0 (w'.heap[gb200]? = some (.cells #[.int .i64 0, .int .i64 0, (.slice none 0 0)] 26 (0, 0))) ∧ Aside0 (w'.heap[gb206]? = some (.cells #[.int .i64 t201, .int .i64 t202, u207002] 26 (0, 0))) ∧ Aside0 (Below w.heap.size w w'))
 case atStart => exact ⟨(0), (y210), (0), (t207), (t203), (.slice Ao14 t203.length co14), (by first | rfl | (simp; done) | (simp [*]; done)), (by first | rfl | (simp; done) | (simp [*]; done)), H', ⟨Nat.le_refl _⟩, ⟨by exact rf_ HO212.out (fun _ hk => ⟨hk.2, hk.1.2⟩)⟩, ⟨by exact rf_ HO209.out (fun _ hk => ⟨hk.2, hk.1.2⟩)⟩, ⟨by exact rf_ HO205.out (fun _ hk => ⟨hk.2, hk.1.2⟩)⟩, ⟨bk_ BK199⟩, ⟨bk_ BK200⟩, ⟨bk_ BK206⟩, ⟨(bw_ w)⟩⟩
 case round =>
  clear H'
  try clear c1
  try clear c2
  try clear p2
  try clear c7
  try clear c11
  try clear c12
  try clear c13
  try clear c14
  try clear hcz13_0
  try clear hcz13_1
  try clear hcz13_2
  try clear hcz15_0
  try clear hcz15_1
  try clear hcz15_2
  try clear hcz8_0
  try clear hcz8_1
  try clear hcz8_2
  try clear hfz13_0
  try clear hfz13_1
  try clear hfz13_2
  try clear hfz15_0
  try clear hfz15_1
  try clear hfz15_2
  try clear hfz8_0
  try clear hfz8_1
  try clear hfz8_2
  obtain ⟨x7_1, x9_1, x10_1, x23_1, x207002_1, u207002, rfl, rfl, HA, HK1, HO_9, HO_23, HO_207002, BK199, BK200, BK206, HB⟩ := hrel
  cases gk with
  | zero => exact absurd HA.out (by simp [spec_l4Complete.l0])
  | succ k1 =>
   have H := HA.out
   clear HA
   simp only [spec_l4Complete.l0] at H
   by_cases c19 : x10_1 < (l0_2.length : Int)
   ·rw [if_pos c19] at H
    have c19b0 : decide (x10_1 < (l0_2.length : Int)) = true := decide_eq_true c19
    clear c19
    replace H := Option.bind_eq_some_iff.mp H
    obtain ⟨t213, A200, H⟩ := H
    replace H : (if t213 = true then (spec_l4Complete.l0 k1 x7_1 x9_1 (wrap64 (x10_1 + 1)) x23_1 a0_0 a0_1 l0_2 t201 t202 x207002_1) else (spec_l4Complete.l1 k1 x7_1 x23_1 x9_1 x10_1 (([] : List Int)) x10_1 x23_1 a0_0 a0_1 l0_2 t201 t202 x207002_1)) = some (r1, r2, r3, r4) := H
    have A20 := Aside0.mk A200
    clear A200
    by_cases c21 : t213 = true
    ·subst c21
     have H1 : (spec_l4Complete.l0 k1 x7_1 x9_1 (wrap64 (x10_1 + 1)) x23_1 a0_0 a0_1 l0_2 t201 t202 x207002_1) = some (r1, r2, r3, r4) := by rw [if_pos rfl] at H; exact H
     clear H
     have H := H1
     clear H1
     have H' := Aside0.mk H
     clear H
     have hnb22 := NB199_200.out
     have hnc22 := NB200_199.out
     have hnb23 := NB199_206.out
     have hnc23 := NB206_199.out
     obtain ⟨hcz24_0, hcz24_1, hcz24_2, hfz24_0, hfz24_1, hfz24_2⟩ := bc3_ (w := wr) BK199
     obtain ⟨Ao25, co25, eo25⟩ := Kd.R_slice HO_9.out
     subst eo25
     go_wp2_with (first | ((with_reducible refine gate_callee (f := 228) rfl ?_); refine goesB (some 34) Try.func228 #[.slice Ao25 x9_1.length co25, .int .i64 x10_1] ?_; (with_reducible refine (spec_l1Has.calls k1 _ _ x9_1 x10_1 true _ ?side1 ?side2 A20.out).mono ?_); (case side1 => exact co_ (Kd.R_reads' HO_9.out).2.2); (case side2 => exact (Kd.R_reads' HO_9.out).2.1); rintro e w' ⟨rfl, ⟨nd, rfl⟩⟩; refine ⟨_, rfl, ?_⟩))
     go_roundg k1
     case measure => have := HK1.out; omega
     case rel => exact ⟨(x7_1), (x9_1), (wrap64 (x10_1 + 1)), (x23_1), (x207002_1), (u207002), (by first | rfl | (simp; done) | (simp [*]; done)), (by first | rfl | (simp; done) | (simp [*]; done)), H', ⟨by have := HK1.out; omega⟩, ⟨ra_ HO_9⟩, ⟨ra_ HO_23⟩, ⟨ra_ HO_207002⟩, ⟨bk_ BK199⟩, ⟨bk_ BK200⟩, ⟨bk_ BK206⟩, ⟨(bw_ w)⟩⟩
    ·replace c21 := Bool.eq_false_iff.mpr c21
     subst c21
     have H1 : (spec_l4Complete.l1 k1 x7_1 x23_1 x9_1 x10_1 (([] : List Int)) x10_1 x23_1 a0_0 a0_1 l0_2 t201 t202 x207002_1) = some (r1, r2, r3, r4) := by rw [if_neg (show ¬ (false = true) by decide)] at H; exact H
     clear H
     have H := H1
     clear H1
     obtain ⟨y214, hy214⟩ : ∃ y_ : List Int, y_ = (([] : List Int)) := ⟨_, rfl⟩
     replace H : (spec_l4Complete.l1 k1 x7_1 x23_1 x9_1 x10_1 y214 x10_1 x23_1 a0_0 a0_1 l0_2 t201 t202 x207002_1) = some (r1, r2, r3, r4) := by first | (rw [hy214]; with_reducible exact H) | (have H2_ := (Option.bind_some _ _).symm.trans H; rw [hy214]; with_reducible exact H2_) | (have H2_ := (Option.bind_some _ _).symm.trans H; with_reducible exact H2_) | with_reducible exact H | (rw [hy214]; exact H) | exact H
     have Ny214 := Aside0.mk hy214
     clear hy214
     have H' := Aside0.mk H
     clear H
     have hnb26 := NB199_200.out
     have hnc26 := NB200_199.out
     have hnb27 := NB199_206.out
     have hnc27 := NB206_199.out
     obtain ⟨hcz28_0, hcz28_1, hcz28_2, hfz28_0, hfz28_1, hfz28_2⟩ := bc3_ (w := wr) BK199
     obtain ⟨Ao29, co29, eo29⟩ := Kd.R_slice HO_9.out
     subst eo29
     go_wp2_with (first | ((with_reducible refine gate_callee (f := 228) rfl ?_); refine goesB (some 34) Try.func228 #[.slice Ao29 x9_1.length co29, .int .i64 x10_1] ?_; (with_reducible refine (spec_l1Has.calls k1 _ _ x9_1 x10_1 false _ ?side1 ?side2 A20.out).mono ?_); (case side1 => exact co_ (Kd.R_reads' HO_9.out).2.2); (case side2 => exact (Kd.R_reads' HO_9.out).2.1); rintro e w' ⟨rfl, ⟨nd, rfl⟩⟩; refine ⟨_, rfl, ?_⟩) | ((with_reducible refine gate_dst (N := 35) rfl ?_); refine Kd.R_lit (Kd.int .i64) _ 3 ?hg (N := 35) ?hd (xs := ([] : List Int)) (inner := []) (ok := fun _ => True) (okp := fun _ => True) ?hr ?hp (fun _ hk => hk) trivial (Below.refl _ _) (Nat.le_refl _) (by simp) ?_; (case hd => rfl); (case hg => rfl); (case hr => first | (go_simp; done) | (go_simp; rfl)); (case hp => exact (Reps.none _ _)); intro v215 w30 ho31 hb hg_ hnew_; clear hg_ hnew_; (first | rw [← Ny214.out] at ho31 | (simp only [Int.reduceToNat] at ho31; rw [← Ny214.out] at ho31)); have n0_ := Aside0.mk (Kd.R_elder' (ra_ HO_9) (Kd.R_base ho31) hb); have n1_ := Aside0.mk (Kd.R_elder' (ra_ HO_23) (Kd.R_base ho31) hb); have n2_ := Aside0.mk (Kd.R_elder' (ra_ HO_207002) (Kd.R_base ho31) hb); have n3_ := Aside0.mk (Kd.R_lower (Kd.R_new' (Kd.R_new' (Kd.R_new' ho31 (Kd.R_lt (ra_ HO_9))) (Kd.R_lt (ra_ HO_23))) (Kd.R_lt (ra_ HO_207002))) (below_size (bw_ w))); have n4_ := bb_ BK199 hb; have n5_ := bb_ BK200 hb; have n6_ := bb_ BK206 hb; have n7_ := Aside0.mk (below_step (bw_ w) hb); clear HO_9; clear HO_23; clear HO_207002; clear BK199; clear BK200; clear BK206; clear HB; have HO_9 := n0_; have HO_23 := n1_; have HO_207002 := n2_; have HO216 := n3_; have BK199 := n4_; have BK200 := n5_; have BK206 := n6_; have HB := n7_; clear n0_ n1_ n2_ n3_ n4_ n5_ n6_ n7_; clear hb ho31))
     go_loopg [11, 12] k1 (fun kq v11 v12 w' => ∃ (x11_2 : List Int) (x12_2 : Int), v12 = .int .i64 x12_2 ∧ Aside0 (spec_l4Complete.l1 kq x7_1 x23_1 x9_1 x10_1 x11_2 x12_2 x23_1 a0_0 a0_1 l0_2 t201 t202 x207002_1 = some (r1, r2, r3, r4)) ∧ Aside0 (kq ≤ k1) ∧ Aside0 (Kd.R (Kd.int .i64) 3 w' w.heap.size (fun k_ => some k_ ≠ ((.slice Ao29 x9_1.length co29) : Value).ownBlock ∧ some k_ ≠ (v11 : Value).ownBlock ∧ some k_ ≠ (u207002 : Value).ownBlock) v208 x23_1) ∧ Aside0 (Kd.R (Kd.int .i64) 3 w' w.heap.size (fun k_ => some k_ ≠ (v208 : Value).ownBlock ∧ some k_ ≠ (v11 : Value).ownBlock ∧ some k_ ≠ (v208 : Value).ownBlock ∧ some k_ ≠ (u207002 : Value).ownBlock) (.slice Ao29 x9_1.length co29) x9_1) ∧ Aside0 (Kd.R (Kd.int .i64) 3 w' w.heap.size (fun k_ => some k_ ≠ (v208 : Value).ownBlock ∧ some k_ ≠ ((.slice Ao29 x9_1.length co29) : Value).ownBlock ∧ some k_ ≠ (v208 : Value).ownBlock ∧ some k_ ≠ (u207002 : Value).ownBlock) v11 x11_2) ∧ Aside0 (Kd.R (Kd.int .i64) 3 w' w.heap.size (fun k_ => some k_ ≠ ((.slice Ao29 x9_1.length co29) : Value).ownBlock ∧ some k_ ≠ (v11 : Value).ownBlock ∧ some k_ ≠ (u207002 : Value).ownBlock) v208 x23_1) ∧ Aside0 (Kd.R (Kd.int .i64) 3 w' w.heap.size (fun k_ => some k_ ≠ (v208 : Value).ownBlock ∧ some k_ ≠ ((.slice Ao29 x9_1.length co29) : Value).ownBlock ∧ some k_ ≠ (v11 : Value).ownBlock ∧ some k_ ≠ (v208 : Value).ownBlock) u207002 x207002_1) ∧ Aside0 (w'.heap[gb199]? = some (.cells #[.int .i64 a0_0, .int .i64 a0_1, (.slice A0_2 l0_2.length c0_2)] 26 (0, 0))) ∧ Aside0 (w'.heap[gb200]? = some (.cells #[.int .i64 0, .int .i64 0, (.slice none 0 0)] 26 (0, 0))) ∧ Aside0 (w'.heap[gb206]? = some (.cells #[.int .i64 t201, .int .i64 t202, u207002] 26 (0, 0))) ∧ Aside0 (Below w.heap.size w w'))
     case atStart => exact ⟨(y214), (x10_1), (by first | rfl | (simp; done) | (simp [*]; done)), H', ⟨Nat.le_refl _⟩, ⟨by exact rf_ HO_23.out (fun _ hk => ⟨hk.1.1, ⟨hk.2, hk.1.2⟩⟩)⟩, ⟨by exact rf_ HO_9.out (fun _ hk => ⟨hk.1.1, ⟨hk.2, ⟨hk.1.1, hk.1.2⟩⟩⟩)⟩, ⟨by exact rf_ HO216.out (fun _ hk => ⟨hk.1.2, ⟨hk.1.1.2, ⟨hk.1.2, hk.2⟩⟩⟩)⟩, ⟨by exact rf_ HO_23.out (fun _ hk => ⟨hk.1.1, ⟨hk.2, hk.1.2⟩⟩)⟩, ⟨by exact rf_ HO_207002.out (fun _ hk => ⟨hk.1.2, ⟨hk.1.1, ⟨hk.2, hk.1.2⟩⟩⟩)⟩, ⟨bk_ BK199⟩, ⟨bk_ BK200⟩, ⟨bk_ BK206⟩, ⟨(bw_ w)⟩⟩
     case round =>
      clear H'
      try clear c1
      try clear c2
      try clear p2
      try clear p6
      try clear c7
      try clear c11
      try clear c12
      try clear c13
      try clear c14
      try clear c19
      try clear c19b0
      try clear c21
      try clear c22
      try clear c23
      try clear c26
      try clear c27
      try clear hcz13_0
      try clear hcz13_1
      try clear hcz13_2
      try clear hcz15_0
      try clear hcz15_1
      try clear hcz15_2
      try clear hcz24_0
      try clear hcz24_1
      try clear hcz24_2
      try clear hcz28_0
      try clear hcz28_1
      try clear hcz28_2
      try clear hcz8_0
      try clear hcz8_1
      try clear hcz8_2
      try clear hfz13_0
      try clear hfz13_1
      try clear hfz13_2
      try clear hfz15_0
      try clear hfz15_1
      try clear hfz15_2
      try clear hfz24_0
      try clear hfz24_1
      try clear hfz24_2
      try clear hfz28_0
      try clear hfz28_1
      try clear hfz28_2
      try clear hfz8_0
      try clear hfz8_1
      try clear hfz8_2
      try clear p2
      obtain ⟨x11_2, x12_2, rfl, HA, HK2, HO_8, HO_9, HO_11, HO_23, HO_207002, BK199, BK200, BK206, HB⟩ := hrel
      cases gk with
      | zero => exact absurd HA.out (by simp [spec_l4Complete.l1])
      | succ k2 =>
       have H := HA.out
       clear HA
       simp only [spec_l4Complete.l1] at H
       replace H := Option.bind_eq_some_iff.mp H
       obtain ⟨t217, A320, H⟩ := H
       replace H : (if t217 = true then (if x9_1.length + x11_2.length < 17592186044416 then (spec_l4Complete.l2 k2 x7_1 (x9_1 ++ x11_2) x10_1 x11_2 0 0 0 x23_1 a0_0 a0_1 l0_2 t201 t202 x207002_1) else (none)) else (if x11_2.length < 17592186044416 then (if 0 ≤ x12_2 then (if x12_2 < (x23_1.length : Int) then (spec_l4Complete.l1 k2 x7_1 x23_1 x9_1 x10_1 (x11_2 ++ [x12_2]) (rd x23_1 x12_2) x23_1 a0_0 a0_1 l0_2 t201 t202 x207002_1) else (none)) else (none)) else (none))) = some (r1, r2, r3, r4) := H
       have A32 := Aside0.mk A320
       clear A320
       by_cases c33 : t217 = true
       ·subst c33
        have H1 : (if x9_1.length + x11_2.length < 17592186044416 then (spec_l4Complete.l2 k2 x7_1 (x9_1 ++ x11_2) x10_1 x11_2 0 0 0 x23_1 a0_0 a0_1 l0_2 t201 t202 x207002_1) else (none)) = some (r1, r2, r3, r4) := by rw [if_pos rfl] at H; exact H
        clear H
        have H := H1
        clear H1
        by_cases c34 : x9_1.length + x11_2.length < 17592186044416
        ·rw [if_pos c34] at H
         have LMc34 := Aside0.mk c34
         clear c34
         obtain ⟨y222, hy222⟩ : ∃ y_ : List Int, y_ = (x9_1 ++ x11_2) := ⟨_, rfl⟩
         replace H : (spec_l4Complete.l2 k2 x7_1 y222 x10_1 x11_2 0 0 0 x23_1 a0_0 a0_1 l0_2 t201 t202 x207002_1) = some (r1, r2, r3, r4) := by first | (rw [hy222]; with_reducible exact H) | (have H2_ := (Option.bind_some _ _).symm.trans H; rw [hy222]; with_reducible exact H2_) | (have H2_ := (Option.bind_some _ _).symm.trans H; with_reducible exact H2_) | with_reducible exact H | (rw [hy222]; exact H) | exact H
         have Ny222 := Aside0.mk hy222
         clear hy222
         have H' := Aside0.mk H
         clear H
         obtain ⟨Ao35, co35, eo35⟩ := Kd.R_slice HO_11.out
         subst eo35
         go_wp2_with (first | ((with_reducible refine gate_callee (f := 228) rfl ?_); refine goesB (some 39) Try.func228 #[.slice Ao35 x11_2.length co35, .int .i64 x12_2] ?_; (with_reducible refine (spec_l1Has.calls k2 _ _ x11_2 x12_2 true _ ?side1 ?side2 A32.out).mono ?_); (case side1 => exact co_ (Kd.R_reads' HO_11.out).2.2); (case side2 => exact (Kd.R_reads' HO_11.out).2.1); rintro e w' ⟨rfl, ⟨nd, rfl⟩⟩; refine ⟨_, rfl, ?_⟩) | ((with_reducible refine gate_builtin (b := .append) (xs := #[.tmp 49, .tmp 50]) rfl ?_); at_builtin; refine Kd.R_append_rows (Kd.int .i64) (w0 := w) w.heap.size rfl (.tmp 49) (.tmp 50) 22 3 (.int .i64 0) 8 rfl Try.underlying22 info3 rfl (by decide) (by omega) (.slice Ao29 x9_1.length co29) x9_1 x11_2 _ _ _ (fun k_ => some k_ ≠ (v208 : Value).ownBlock ∧ some k_ ≠ (.slice Ao35 x11_2.length co35 : Value).ownBlock ∧ some k_ ≠ (v208 : Value).ownBlock ∧ some k_ ≠ (u207002 : Value).ownBlock) (fun _ => False) rfl rfl ?aO ?aR (fun _ _ h => h) (fun _ h => h.elim) ?aF ?aB ?aS ?aL ?_; (case aR => exact co_ (Kd.R_reads' HO_11.out).2.2); (case aB => exact (bw_ w)); (case aF => exact (fun k_ hk => ⟨Kd.fresh' (Kd.R_lt (ra_ HO_8)) k_ hk, Kd.fresh' (Kd.R_lt (ra_ HO_11)) k_ hk, Kd.fresh' (Kd.R_lt (ra_ HO_23)) k_ hk, Kd.fresh' (Kd.R_lt (ra_ HO_207002)) k_ hk⟩)); (case aO => exact (ra_ HO_9)); (case aS => exact (below_size (bw_ w))); (case aL => have := LMc34.out; omega); intro v223 w36 ho hb hg hat; rw [← Ny222.out] at ho; replace HO_8 := Aside0.mk (Kd.R_after (ok := (fun k_ => some k_ ≠ (.slice Ao35 x11_2.length co35 : Value).ownBlock ∧ some k_ ≠ (u207002 : Value).ownBlock)) (by exact rf_ HO_8.out (fun _ hk => ⟨⟨hk.2.1, hk.2.2⟩, hk.1⟩)) hg hat); replace HO_11 := Aside0.mk (Kd.R_after (ok := (fun k_ => some k_ ≠ (v208 : Value).ownBlock ∧ some k_ ≠ (v208 : Value).ownBlock ∧ some k_ ≠ (u207002 : Value).ownBlock)) (by exact rf_ HO_11.out (fun _ hk => ⟨⟨hk.1, ⟨hk.2.2.1, hk.2.2.2⟩⟩, hk.2.1⟩)) hg hat); replace HO_23 := Aside0.mk (Kd.R_after (ok := (fun k_ => some k_ ≠ (.slice Ao35 x11_2.length co35 : Value).ownBlock ∧ some k_ ≠ (u207002 : Value).ownBlock)) (by exact rf_ HO_23.out (fun _ hk => ⟨⟨hk.2.1, hk.2.2⟩, hk.1⟩)) hg hat); replace HO_207002 := Aside0.mk (Kd.R_after (ok := (fun k_ => some k_ ≠ (v208 : Value).ownBlock ∧ some k_ ≠ (.slice Ao35 x11_2.length co35 : Value).ownBlock ∧ some k_ ≠ (v208 : Value).ownBlock)) (by exact rf_ HO_207002.out (fun _ hk => ⟨⟨hk.1, ⟨hk.2.2.1, hk.2.2.2⟩⟩, hk.2.1⟩)) hg hat); replace BK199 := Aside0.mk (blk_grown (g := gb199) (o := .cells #[.int .i64 a0_0, .int .i64 a0_1, .slice A0_2 l0_2.length c0_2] 26 (0, 0)) (bk_ BK199) hg (Kd.R_ne HO_9.out BK199.out (by decide))); replace BK200 := Aside0.mk (blk_grown (g := gb200) (o := .cells #[.int .i64 0, .int .i64 0, .slice none 0 0] 26 (0, 0)) (bk_ BK200) hg (Kd.R_ne HO_9.out BK200.out (by decide))); replace BK206 := Aside0.mk (blk_grown (g := gb206) (o := .cells #[.int .i64 t201, .int .i64 t202, u207002] 26 (0, 0)) (bk_ BK206) hg (Kd.R_ne HO_9.out BK206.out (by decide))); have HO224 := Aside0.mk (ho); replace HB := Aside0.mk (hb); clear HO_9; clear ho hb hg hat))
         go_loopg [13, 14, 15] k2 (fun kq v13 v14 v15 w' => ∃ (x13_3 : Int) (x14_3 : Int) (x15_3 : Int), v13 = .int .i64 x13_3 ∧ v14 = .int .i64 x14_3 ∧ v15 = .int .i64 x15_3 ∧ Aside0 (spec_l4Complete.l2 kq x7_1 y222 x10_1 x11_2 x13_3 x14_3 x15_3 x23_1 a0_0 a0_1 l0_2 t201 t202 x207002_1 = some (r1, r2, r3, r4)) ∧ Aside0 (kq ≤ k2) ∧ Aside0 (Kd.R (Kd.int .i64) 3 w' w.heap.size (fun k_ => some k_ ≠ ((.slice Ao35 x11_2.length co35) : Value).ownBlock ∧ some k_ ≠ (v208 : Value).ownBlock ∧ some k_ ≠ (u207002 : Value).ownBlock) v223 y222) ∧ Aside0 (Kd.R (Kd.int .i64) 3 w' w.heap.size (fun k_ => some k_ ≠ (v223 : Value).ownBlock ∧ some k_ ≠ (v208 : Value).ownBlock ∧ some k_ ≠ (u207002 : Value).ownBlock) (.slice Ao35 x11_2.length co35) x11_2) ∧ Aside0 (Kd.R (Kd.int .i64) 3 w' w.heap.size (fun k_ => some k_ ≠ (v223 : Value).ownBlock ∧ some k_ ≠ ((.slice Ao35 x11_2.length co35) : Value).ownBlock ∧ some k_ ≠ (u207002 : Value).ownBlock) v208 x23_1) ∧ Aside0 (Kd.R (Kd.int .i64) 3 w' w.heap.size (fun k_ => some k_ ≠ (v223 : Value).ownBlock ∧ some k_ ≠ ((.slice Ao35 x11_2.length co35) : Value).ownBlock ∧ some k_ ≠ (v208 : Value).ownBlock) u207002 x207002_1) ∧ Aside0 (w'.heap[gb199]? = some (.cells #[.int .i64 a0_0, .int .i64 a0_1, (.slice A0_2 l0_2.length c0_2)] 26 (0, 0))) ∧ Aside0 (w'.heap[gb200]? = some (.cells #[.int .i64 0, .int .i64 0, (.slice none 0 0)] 26 (0, 0))) ∧ Aside0 (w'.heap[gb206]? = some (.cells #[.int .i64 t201, .int .i64 t202, u207002] 26 (0, 0))) ∧ Aside0 (Below w.heap.size w w'))
         case atStart => exact ⟨(0), (0), (0), (by first | rfl | (simp; done) | (simp [*]; done)), (by first | rfl | (simp; done) | (simp [*]; done)), (by first | rfl | (simp; done) | (simp [*]; done)), H', ⟨Nat.le_refl _⟩, ⟨by exact rf_ HO224.out (fun _ hk => ⟨hk.2.1, ⟨hk.2.2.1, hk.2.2.2⟩⟩)⟩, ⟨by exact rf_ HO_11.out (fun _ hk => ⟨hk.2, ⟨hk.1.2.1, hk.1.2.2⟩⟩)⟩, ⟨by exact rf_ HO_23.out (fun _ hk => ⟨hk.2, ⟨hk.1.1, hk.1.2⟩⟩)⟩, ⟨by exact rf_ HO_207002.out (fun _ hk => ⟨hk.2, ⟨hk.1.2.1, hk.1.2.2⟩⟩)⟩, ⟨bk_ BK199⟩, ⟨bk_ BK200⟩, ⟨bk_ BK206⟩, ⟨(bw_ w)⟩⟩
         case round =>
          clear H'
          try clear c1
          try clear c2
          try clear p2
          try clear c3
          try clear p6
          try clear c7
          try clear c11
          try clear c12
          try clear c13
          try clear c14
          try clear c19
          try clear c19b0
          try clear c21
          try clear c22
          try clear c23
          try clear c26
          try clear c27
          try clear c33
          try clear c34
          try clear hcz13_0
          try clear hcz13_1
          try clear hcz13_2
          try clear hcz15_0
          try clear hcz15_1
          try clear hcz15_2
          try clear hcz24_0
          try clear hcz24_1
          try clear hcz24_2
          try clear hcz28_0
          try clear hcz28_1
          try clear hcz28_2
          try clear hcz8_0
          try clear hcz8_1
          try clear hcz8_2
          try clear hfz13_0
          try clear hfz13_1
          try clear hfz13_2
          try clear hfz15_0
          try clear hfz15_1
          try clear hfz15_2
          try clear hfz24_0
          try clear hfz24_1
          try clear hfz24_2
          try clear hfz28_0
          try clear hfz28_1
          try clear hfz28_2
          try clear hfz8_0
          try clear hfz8_1
          try clear hfz8_2
          try clear p2
          try clear p6
          obtain ⟨x13_3, x14_3, x15_3, rfl, rfl, rfl, HA, HK3, HO_9, HO_11, HO_23, HO_207002, BK199, BK200, BK206, HB⟩ := hrel
          cases gk with
          | zero => exact absurd HA.out (by simp [spec_l4Complete.l2])
          | succ k3 =>
           have H := HA.out
           clear HA
           simp only [spec_l4Complete.l2] at H
           by_cases c37 : x15_3 < 6
           ·rw [if_pos c37] at H
            have c37b0 : decide (x15_3 < 6) = true := decide_eq_true c37
            clear c37
            have H' := Aside0.mk H
            clear H
            go_wp2
            go_loopg [16, 17] k3 (fun kq v16 v17 w' => ∃ (x16_4 : Int) (x17_4 : Int), v16 = .int .i64 x16_4 ∧ v17 = .int .i64 x17_4 ∧ Aside0 (spec_l4Complete.l3 kq x7_1 y222 x10_1 x11_2 x13_3 x14_3 x15_3 x16_4 x17_4 x23_1 a0_0 a0_1 l0_2 t201 t202 x207002_1 = some (r1, r2, r3, r4)) ∧ Aside0 (kq ≤ k3) ∧ Aside0 (Kd.R (Kd.int .i64) 3 w' w.heap.size (fun k_ => some k_ ≠ ((.slice Ao35 x11_2.length co35) : Value).ownBlock ∧ some k_ ≠ (v208 : Value).ownBlock ∧ some k_ ≠ (u207002 : Value).ownBlock) v223 y222) ∧ Aside0 (Kd.R (Kd.int .i64) 3 w' w.heap.size (fun k_ => some k_ ≠ (v223 : Value).ownBlock ∧ some k_ ≠ (v208 : Value).ownBlock ∧ some k_ ≠ (u207002 : Value).ownBlock) (.slice Ao35 x11_2.length co35) x11_2) ∧ Aside0 (Kd.R (Kd.int .i64) 3 w' w.heap.size (fun k_ => some k_ ≠ (v223 : Value).ownBlock ∧ some k_ ≠ ((.slice Ao35 x11_2.length co35) : Value).ownBlock ∧ some k_ ≠ (u207002 : Value).ownBlock) v208 x23_1) ∧ Aside0 (Kd.R (Kd.int .i64) 3 w' w.heap.size (fun k_ => some k_ ≠ (v223 : Value).ownBlock ∧ some k_ ≠ ((.slice Ao35 x11_2.length co35) : Value).ownBlock ∧ some k_ ≠ (v208 : Value).ownBlock) u207002 x207002_1) ∧ Aside0 (w'.heap[gb199]? = some (.cells #[.int .i64 a0_0, .int .i64 a0_1, (.slice A0_2 l0_2.length c0_2)] 26 (0, 0))) ∧ Aside0 (w'.heap[gb200]? = some (.cells #[.int .i64 0, .int .i64 0, (.slice none 0 0)] 26 (0, 0))) ∧ Aside0 (w'.heap[gb206]? = some (.cells #[.int .i64 t201, .int .i64 t202, u207002] 26 (0, 0))) ∧ Aside0 (Below w.heap.size w w'))
            case atStart => exact ⟨(0), (0), (by first | rfl | (simp; done) | (simp [*]; done)), (by first | rfl | (simp; done) | (simp [*]; done)), H', ⟨Nat.le_refl _⟩, ⟨ra_ HO_9⟩, ⟨ra_ HO_11⟩, ⟨ra_ HO_23⟩, ⟨ra_ HO_207002⟩, ⟨bk_ BK199⟩, ⟨bk_ BK200⟩, ⟨bk_ BK206⟩, ⟨(bw_ w)⟩⟩
            case round =>
             clear H'
             try clear c1
             try clear c2
             try clear p2
             try clear c3
             try clear p6
             try clear c7
             try clear c11
             try clear c12
             try clear c13
             try clear c14
             try clear c19
             try clear c19b0
             try clear c21
             try clear c22
             try clear c23
             try clear c26
             try clear c27
             try clear c33
             try clear c34
             try clear c37
             try clear c37b0
             try clear hcz13_0
             try clear hcz13_1
             try clear hcz13_2
             try clear hcz15_0
             try clear hcz15_1
             try clear hcz15_2
             try clear hcz24_0
             try clear hcz24_1
             try clear hcz24_2
             try clear hcz28_0
             try clear hcz28_1
             try clear hcz28_2
             try clear hcz8_0
             try clear hcz8_1
             try clear hcz8_2
             try clear hfz13_0
             try clear hfz13_1
             try clear hfz13_2
             try clear hfz15_0
             try clear hfz15_1
             try clear hfz15_2
             try clear hfz24_0
             try clear hfz24_1
             try clear hfz24_2
             try clear hfz28_0
             try clear hfz28_1
             try clear hfz28_2
             try clear hfz8_0
             try clear hfz8_1
             try clear hfz8_2
             try clear p2
             try clear p6
             obtain ⟨x16_4, x17_4, rfl, rfl, HA, HK4, HO_9, HO_11, HO_23, HO_207002, BK199, BK200, BK206, HB⟩ := hrel
             cases gk with
             | zero => exact absurd HA.out (by simp [spec_l4Complete.l3])
             | succ k4 =>
              have H := HA.out
              clear HA
              simp only [spec_l4Complete.l3] at H
              by_cases c38 : x17_4 < (x11_2.length : Int)
              ·rw [if_pos c38] at H
               have c38b0 : decide (x17_4 < (x11_2.length : Int)) = true := decide_eq_true c38
               clear c38
               by_cases c39 : 0 ≤ x17_4
               ·rw [if_pos c39] at H
                have c39b0 : decide (0 ≤ x17_4) = true := decide_eq_true c39
                clear c39
                by_cases c40 : 0 ≤ (rd x11_2 x17_4)
                ·rw [if_pos c40] at H
                 have c40b0 : decide (0 ≤ (rd x11_2 x17_4)) = true := decide_eq_true c40
                 clear c40
                 by_cases c41 : (rd x11_2 x17_4) < (l0_2.length : Int)
                 ·rw [if_pos c41] at H
                  have c41b0 : decide ((rd x11_2 x17_4) < (l0_2.length : Int)) = true := decide_eq_true c41
                  clear c41
                  by_cases c42 : (rd l0_2 (rd x11_2 x17_4)) = x15_3
                  ·rw [if_pos c42] at H
                   have c42b0 : ((rd l0_2 (rd x11_2 x17_4)) == x15_3) = true := beq_iff_eq.mpr c42
                   have c42b1 : ((rd l0_2 (rd x11_2 x17_4)) != x15_3) = false := bne_eq_false_iff_eq.mpr c42
                   clear c42
                   have H' := Aside0.mk H
                   clear H
                   try go_wp2
                   replace HO_9 := Aside0.mk (Kd.R_drew HO_9.out)
                   replace HO_11 := Aside0.mk (Kd.R_drew HO_11.out)
                   replace HO_23 := Aside0.mk (Kd.R_drew HO_23.out)
                   replace HO_207002 := Aside0.mk (Kd.R_drew HO_207002.out)
                   replace BK199 := Aside0.mk (blk_drew BK199.out)
                   replace BK200 := Aside0.mk (blk_drew BK200.out)
                   replace BK206 := Aside0.mk (blk_drew BK206.out)
                   replace HB := Aside0.mk (below_drew1 HB.out)
                   have p225 : 0 ≤ (x17_4 : Int) := of_decide_eq_true (by first | (with_reducible assumption) | assumption)
                   have q225 : x17_4 < (x11_2.length : Int) := of_decide_eq_true (by first | (with_reducible assumption) | assumption)
                   obtain ⟨ad225, e225, hx225_0⟩ := Kd.at_int (Kd.R_reads' HO_11.out).2.2 x17_4 p225 q225
                   cases e225
                   replace p225 := eq_true p225
                   replace q225 := eq_true q225
                   have p226 : 0 ≤ ((rd x11_2 x17_4) : Int) := of_decide_eq_true (by first | (with_reducible assumption) | assumption)
                   have q226 : (rd x11_2 x17_4) < (l0_2.length : Int) := of_decide_eq_true (by first | (with_reducible assumption) | assumption)
                   obtain ⟨ad226, e226, hx226_0⟩ := Kd.at_int HR0_2.out (rd x11_2 x17_4) p226 q226
                   have hw226_0 := hx226_0
                   cases e226
                   replace hx226_0 := (HB.out.cell (World.block_lt_of_cell? w _ hx226_0)).trans hx226_0
                   replace p226 := eq_true p226
                   replace q226 := eq_true q226
                   refine start_ (n := 10) (S := fun w' => w'.cell? ⟨gb199, 0, none⟩ = some (.int .i64 a0_0) ∧ w'.cell? ⟨gb199, 1, none⟩ = some (.int .i64 a0_1) ∧ w'.cell? ⟨gb199, 2, none⟩ = some (.slice (some ad226) l0_2.length c0_2) ∧ w'.cell? (ad225.add (x17_4).toNat) = some (.int .i64 (rd x11_2 x17_4)) ∧ w'.cell? (ad226.add ((rd x11_2 x17_4)).toNat) = some (.int .i64 (rd l0_2 (rd x11_2 x17_4)))) (ds := []) #[false, false, false, false, false, false, false, false, false, false] (by kernel_rfl) rfl rfl ⟨bc_ BK199 0, bc_ BK199 1, bc_ BK199 2, hx225_0, bh_ HB hw226_0⟩ (fun hHeld => ?_); refine with_tabW spec_l4Complete.tab22 spec_l4Complete.bits22 (fun HT_ HW_ => ?_)
                   generalize wr.drew = w43 at HO_9 HO_11 HO_23 HO_207002 BK199 BK200 BK206 HB hx225_0 hx226_0 hHeld ⊢
                   refine pureA (N := some 62) 0 HT_ ?_
                   refine pureA (N := some 64) 2 HT_ ?_
                   refine pureA (N := some 65) 3 HT_ ?_
                   refine pureA (N := some 66) 4 HT_ ?_
                   refine pureA (N := some 70) 8 HT_ ?_
                   refine takeA (N := some 63) 1 HT_ HW_ hHeld ?_
                   refine takeA (N := some 67) 5 HT_ HW_ hHeld ?_
                   refine pureA (N := some 68) 6 HT_ ?_
                   refine takeA (N := some 69) 7 HT_ HW_ hHeld ?_
                   refine pureA (N := some 71) 9 HT_ ?_
                   refine done_ (done_of HT_.out (by kernel_rfl)) ?_
                   try go_wp2
                   go_roundg k4
                   case measure => have := HK1.out; have := HK2.out; have := HK3.out; have := HK4.out; omega
                   case rel => exact ⟨(wrap64 (x16_4 + 1)), (wrap64 (x17_4 + 1)), (by first | rfl | (simp; done) | (simp [*]; done)), (by first | rfl | (simp; done) | (simp [*]; done)), H', ⟨by have := HK1.out; have := HK2.out; have := HK3.out; have := HK4.out; omega⟩, ⟨ra_ HO_9⟩, ⟨ra_ HO_11⟩, ⟨ra_ HO_23⟩, ⟨ra_ HO_207002⟩, ⟨bk_ BK199⟩, ⟨bk_ BK200⟩, ⟨bk_ BK206⟩, ⟨(bw_ w)⟩⟩
                  ·rw [if_neg c42] at H
                   have c42b0 : ((rd l0_2 (rd x11_2 x17_4)) == x15_3) = false := beq_eq_false_iff_ne.mpr c42
                   have c42b1 : ((rd l0_2 (rd x11_2 x17_4)) != x15_3) = true := bne_iff_ne.mpr c42
                   have H' := Aside0.mk H
                   clear H
                   try go_wp2
                   replace HO_9 := Aside0.mk (Kd.R_drew HO_9.out)
                   replace HO_11 := Aside0.mk (Kd.R_drew HO_11.out)
                   replace HO_23 := Aside0.mk (Kd.R_drew HO_23.out)
                   replace HO_207002 := Aside0.mk (Kd.R_drew HO_207002.out)
                   replace BK199 := Aside0.mk (blk_drew BK199.out)
                   replace BK200 := Aside0.mk (blk_drew BK200.out)
                   replace BK206 := Aside0.mk (blk_drew BK206.out)
                   replace HB := Aside0.mk (below_drew1 HB.out)
                   have p225 : 0 ≤ (x17_4 : Int) := of_decide_eq_true (by first | (with_reducible assumption) | assumption)
                   have q225 : x17_4 < (x11_2.length : Int) := of_decide_eq_true (by first | (with_reducible assumption) | assumption)
                   obtain ⟨ad225, e225, hx225_0⟩ := Kd.at_int (Kd.R_reads' HO_11.out).2.2 x17_4 p225 q225
                   cases e225
                   replace p225 := eq_true p225
                   replace q225 := eq_true q225
                   have p226 : 0 ≤ ((rd x11_2 x17_4) : Int) := of_decide_eq_true (by first | (with_reducible assumption) | assumption)
                   have q226 : (rd x11_2 x17_4) < (l0_2.length : Int) := of_decide_eq_true (by first | (with_reducible assumption) | assumption)
                   obtain ⟨ad226, e226, hx226_0⟩ := Kd.at_int HR0_2.out (rd x11_2 x17_4) p226 q226
                   have hw226_0 := hx226_0
                   cases e226
                   replace hx226_0 := (HB.out.cell (World.block_lt_of_cell? w _ hx226_0)).trans hx226_0
                   replace p226 := eq_true p226
                   replace q226 := eq_true q226
                   refine start_ (n := 10) (S := fun w' => w'.cell? ⟨gb199, 0, none⟩ = some (.int .i64 a0_0) ∧ w'.cell? ⟨gb199, 1, none⟩ = some (.int .i64 a0_1) ∧ w'.cell? ⟨gb199, 2, none⟩ = some (.slice (some ad226) l0_2.length c0_2) ∧ w'.cell? (ad225.add (x17_4).toNat) = some (.int .i64 (rd x11_2 x17_4)) ∧ w'.cell? (ad226.add ((rd x11_2 x17_4)).toNat) = some (.int .i64 (rd l0_2 (rd x11_2 x17_4)))) (ds := []) #[false, false, false, false, false, false, false, false, false, false] (by kernel_rfl) rfl rfl ⟨bc_ BK199 0, bc_ BK199 1, bc_ BK199 2, hx225_0, bh_ HB hw226_0⟩ (fun hHeld => ?_); refine with_tabW spec_l4Complete.tab22 spec_l4Complete.bits22 (fun HT_ HW_ => ?_)
                   generalize wr.drew = w44 at HO_9 HO_11 HO_23 HO_207002 BK199 BK200 BK206 HB hx225_0 hx226_0 hHeld ⊢
                   refine pureA (N := some 62) 0 HT_ ?_
                   refine pureA (N := some 64) 2 HT_ ?_
                   refine pureA (N := some 65) 3 HT_ ?_
                   refine pureA (N := some 66) 4 HT_ ?_
                   refine pureA (N := some 70) 8 HT_ ?_
                   refine takeA (N := some 63) 1 HT_ HW_ hHeld ?_
                   refine takeA (N := some 67) 5 HT_ HW_ hHeld ?_
                   refine pureA (N := some 68) 6 HT_ ?_
                   refine takeA (N := some 69) 7 HT_ HW_ hHeld ?_
                   refine pureA (N := some 71) 9 HT_ ?_
                   refine done_ (done_of HT_.out (by kernel_rfl)) ?_
                   try go_wp2
                   go_roundg k4
                   case measure => have := HK1.out; have := HK2.out; have := HK3.out; have := HK4.out; omega
                   case rel => exact ⟨(x16_4), (wrap64 (x17_4 + 1)), (by first | rfl | (simp; done) | (simp [*]; done)), (by first | rfl | (simp; done) | (simp [*]; done)), H', ⟨by have := HK1.out; have := HK2.out; have := HK3.out; have := HK4.out; omega⟩, ⟨ra_ HO_9⟩, ⟨ra_ HO_11⟩, ⟨ra_ HO_23⟩, ⟨ra_ HO_207002⟩, ⟨bk_ BK199⟩, ⟨bk_ BK200⟩, ⟨bk_ BK206⟩, ⟨(bw_ w)⟩⟩
                 ·rw [if_neg c41] at H
                  exact absurd H (by simp)
                ·rw [if_neg c40] at H
                 exact absurd H (by simp)
               ·rw [if_neg c39] at H
                exact absurd H (by simp)
              ·rw [if_neg c38] at H
               have c38b0 : decide (x17_4 < (x11_2.length : Int)) = false := decide_eq_false c38
               clear c38
               by_cases c45 : x16_4 > x14_3
               ·rw [if_pos c45] at H
                have c45b0 : decide (x14_3 < x16_4) = true := decide_eq_true c45
                clear c45
                have H' := Aside0.mk H
                clear H
                go_wp2
                go_roundg k4
                case measure => have := HK1.out; have := HK2.out; have := HK3.out; have := HK4.out; omega
                case rel => exact ⟨(x15_3), (x16_4), (wrap64 (x15_3 + 1)), (by first | rfl | (simp; done) | (simp [*]; done)), (by first | rfl | (simp; done) | (simp [*]; done)), (by first | rfl | (simp; done) | (simp [*]; done)), H', ⟨by have := HK1.out; have := HK2.out; have := HK3.out; have := HK4.out; omega⟩, ⟨ra_ HO_9⟩, ⟨ra_ HO_11⟩, ⟨ra_ HO_23⟩, ⟨ra_ HO_207002⟩, ⟨bk_ BK199⟩, ⟨bk_ BK200⟩, ⟨bk_ BK206⟩, ⟨(bw_ w)⟩⟩
               ·rw [if_neg c45] at H
                have c45b0 : decide (x14_3 < x16_4) = false := decide_eq_false c45
                clear c45
                have H' := Aside0.mk H
                clear H
                go_wp2
                go_roundg k4
                case measure => have := HK1.out; have := HK2.out; have := HK3.out; have := HK4.out; omega
                case rel => exact ⟨(x13_3), (x14_3), (wrap64 (x15_3 + 1)), (by first | rfl | (simp; done) | (simp [*]; done)), (by first | rfl | (simp; done) | (simp [*]; done)), (by first | rfl | (simp; done) | (simp [*]; done)), H', ⟨by have := HK1.out; have := HK2.out; have := HK3.out; have := HK4.out; omega⟩, ⟨ra_ HO_9⟩, ⟨ra_ HO_11⟩, ⟨ra_ HO_23⟩, ⟨ra_ HO_207002⟩, ⟨bk_ BK199⟩, ⟨bk_ BK200⟩, ⟨bk_ BK206⟩, ⟨(bw_ w)⟩⟩
           ·rw [if_neg c37] at H
            have c37b0 : decide (x15_3 < 6) = false := decide_eq_false c37
            clear c37
            have H' := Aside0.mk H
            clear H
            go_wp2
            go_loopg [18] k3 (fun kq v18 w' => ∃ (x9_4 : List Int) (x18_4 : Int) (x23_4 : List Int) (x80_4 : List Int) (x207002_4 : List Int) (u207002 : Value), v18 = .int .i64 x18_4 ∧ Aside0 (spec_l4Complete.l4 kq (wrap64 ((wrap64 (x7_1 + (x11_2.length : Int))) - x14_3)) x9_4 x10_1 x13_3 x18_4 x23_4 x80_4 a0_0 a0_1 l0_2 t201 t202 x207002_4 = some (r1, r2, r3, r4)) ∧ Aside0 (kq ≤ k3) ∧ Aside0 (Kd.R (Kd.int .i64) 3 w' w.heap.size (fun k_ => some k_ ≠ (v208 : Value).ownBlock ∧ some k_ ≠ ((.slice Ao35 x11_2.length co35) : Value).ownBlock ∧ some k_ ≠ (u207002 : Value).ownBlock) v223 x9_4) ∧ Aside0 (Kd.R (Kd.int .i64) 3 w' w.heap.size (fun k_ => some k_ ≠ (v223 : Value).ownBlock ∧ some k_ ≠ ((.slice Ao35 x11_2.length co35) : Value).ownBlock ∧ some k_ ≠ (u207002 : Value).ownBlock) v208 x23_4) ∧ Aside0 (Kd.R (Kd.int .i64) 3 w' w.heap.size (fun k_ => some k_ ≠ (v223 : Value).ownBlock ∧ some k_ ≠ (v208 : Value).ownBlock ∧ some k_ ≠ (u207002 : Value).ownBlock) (.slice Ao35 x11_2.length co35) x80_4) ∧ Aside0 (Kd.R (Kd.int .i64) 3 w' w.heap.size (fun k_ => some k_ ≠ (v223 : Value).ownBlock ∧ some k_ ≠ (v208 : Value).ownBlock ∧ some k_ ≠ ((.slice Ao35 x11_2.length co35) : Value).ownBlock) u207002 x207002_4) ∧ Aside0 (w'.heap[gb199]? = some (.cells #[.int .i64 a0_0, .int .i64 a0_1, (.slice A0_2 l0_2.length c0_2)] 26 (0, 0))) ∧ Aside0 (w'.heap[gb200]? = some (.cells #[.int .i64 0, .int .i64 0, (.slice none 0 0)] 26 (0, 0))) ∧ Aside0 (w'.heap[gb206]? = some (.cells #[.int .i64 t201, .int .i64 t202, u207002] 26 (0, 0))) ∧ Aside0 (Below w.heap.size w w'))
            case atStart => exact ⟨(y222), (0), (x23_1), (x11_2), (x207002_1), (u207002), (by first | rfl | (simp; done) | (simp [*]; done)), H', ⟨Nat.le_refl _⟩, ⟨by exact rf_ HO_9.out (fun _ hk => ⟨hk.2.1, ⟨hk.1, hk.2.2⟩⟩)⟩, ⟨ra_ HO_23⟩, ⟨ra_ HO_11⟩, ⟨by exact rf_ HO_207002.out (fun _ hk => ⟨hk.1, ⟨hk.2.2, hk.2.1⟩⟩)⟩, ⟨bk_ BK199⟩, ⟨bk_ BK200⟩, ⟨bk_ BK206⟩, ⟨(bw_ w)⟩⟩
            case round =>
             clear H'
             try clear c1
             try clear c2
             try clear p2
             try clear q2
             try clear hx2
             try clear c3
             try clear c4
             try clear p6
             try clear c7
             try clear c11
             try clear c12
             try clear c13
             try clear c14
             try clear c19
             try clear c19b0
             try clear c21
             try clear c22
             try clear p22
             try clear q22
             try clear hx22
             try clear c23
             try clear c26
             try clear c27
             try clear c33
             try clear c34
             try clear c37
             try clear c37b0
             try clear c38
             try clear c38b0
             try clear c39
             try clear c39b0
             try clear c40
             try clear c40b0
             try clear c41
             try clear c41b0
             try clear c42
             try clear c42b0
             try clear c42b1
             try clear c45
             try clear c45b0
             try clear hcz13_0
             try clear hcz13_1
             try clear hcz13_2
             try clear hcz15_0
             try clear hcz15_1
             try clear hcz15_2
             try clear hcz24_0
             try clear hcz24_1
             try clear hcz24_2
             try clear hcz28_0
             try clear hcz28_1
             try clear hcz28_2
             try clear hcz8_0
             try clear hcz8_1
             try clear hcz8_2
             try clear hfz13_0
             try clear hfz13_1
             try clear hfz13_2
             try clear hfz15_0
             try clear hfz15_1
             try clear hfz15_2
             try clear hfz24_0
             try clear hfz24_1
             try clear hfz24_2
             try clear hfz28_0
             try clear hfz28_1
             try clear hfz28_2
             try clear hfz8_0
             try clear hfz8_1
             try clear hfz8_2
             try clear hx225_0
             try clear hx226_0
             try clear p2
             try clear p225
             try clear p226
             try clear p6
             try clear q225
             try clear q226
             obtain ⟨x9_4, x18_4, x23_4, x80_4, x207002_4, u207002, rfl, HA, HK4, HO_9, HO_23, HO_80, HO_207002, BK199, BK200, BK206, HB⟩ := hrel
             have hl80_4 := (Kd.R_reads' HO_80.out).1
             rw [hl80_4] at HO_80
             (try simp only [hl80_4])
             (try simp only [hl80_4] at BK199)
             (try simp only [hl80_4] at BK200)
             (try simp only [hl80_4] at BK206)
             (try simp only [hl80_4] at HO_9)
             (try simp only [hl80_4] at HO_23)
             (try simp only [hl80_4] at HO_207002)
             cases gk with
             | zero => exact absurd HA.out (by simp [spec_l4Complete.l4])
             | succ k4 =>
              have H := HA.out
              clear HA
              simp only [spec_l4Complete.l4] at H
              by_cases c46 : x18_4 < (x80_4.length : Int)
              ·rw [if_pos c46] at H
               have c46b0 : decide (x18_4 < (x80_4.length : Int)) = true := decide_eq_true c46
               (try simp only [hl80_4] at c46b0)
               clear c46
               by_cases c47 : 0 ≤ x18_4
               ·rw [if_pos c47] at H
                have c47b0 : decide (0 ≤ x18_4) = true := decide_eq_true c47
                clear c47
                by_cases c48 : 0 ≤ (rd x80_4 x18_4)
                ·rw [if_pos c48] at H
                 have c48b0 : decide (0 ≤ (rd x80_4 x18_4)) = true := decide_eq_true c48
                 clear c48
                 by_cases c49 : (rd x80_4 x18_4) < (x207002_4.length : Int)
                 ·rw [if_pos c49] at H
                  have c49b0 : decide ((rd x80_4 x18_4) < (x207002_4.length : Int)) = true := decide_eq_true c49
                  (try simp only [hl80_4] at c49b0)
                  clear c49
                  obtain ⟨y228, hy228⟩ : ∃ y_ : List Int, y_ = (x207002_4.set ((rd x80_4 x18_4) : Int).toNat x13_3) := ⟨_, rfl⟩
                  replace H : (spec_l4Complete.l4 k4 (wrap64 ((wrap64 (x7_1 + (x11_2.length : Int))) - x14_3)) x9_4 x10_1 x13_3 (wrap64 (x18_4 + 1)) x23_4 x80_4 a0_0 a0_1 l0_2 t201 t202 y228) = some (r1, r2, r3, r4) := by first | (rw [hy228]; with_reducible exact H) | (have H2_ := (Option.bind_some _ _).symm.trans H; rw [hy228]; with_reducible exact H2_) | (have H2_ := (Option.bind_some _ _).symm.trans H; with_reducible exact H2_) | with_reducible exact H | (rw [hy228]; exact H) | exact H
                  have Ny228 := Aside0.mk hy228
                  clear hy228
                  have H' := Aside0.mk H
                  clear H
                  try go_wp2
                  replace HO_9 := Aside0.mk (Kd.R_drew HO_9.out)
                  replace HO_23 := Aside0.mk (Kd.R_drew HO_23.out)
                  replace HO_80 := Aside0.mk (Kd.R_drew HO_80.out)
                  replace HO_207002 := Aside0.mk (Kd.R_drew HO_207002.out)
                  replace BK199 := Aside0.mk (blk_drew BK199.out)
                  replace BK200 := Aside0.mk (blk_drew BK200.out)
                  replace BK206 := Aside0.mk (blk_drew BK206.out)
                  replace HB := Aside0.mk (below_drew1 HB.out)
                  have p227 : 0 ≤ (x18_4 : Int) := of_decide_eq_true (by first | (with_reducible assumption) | assumption)
                  have q227 : x18_4 < (x80_4.length : Int) := of_decide_eq_true (by first | (with_reducible assumption) | assumption)
                  obtain ⟨ad227, e227, hx227_0⟩ := Kd.at_int (Kd.R_reads' HO_80.out).2.2 x18_4 p227 q227
                  cases e227
                  replace p227 := eq_true p227
                  replace q227 := eq_true q227
                  have p50 : 0 ≤ ((rd x80_4 x18_4) : Int) := of_decide_eq_true (by first | (with_reducible assumption) | assumption)
                  have q50 : ((rd x80_4 x18_4) : Int) < ((x207002_4.length : Int) : Int) := of_decide_eq_true (by first | (with_reducible assumption) | assumption)
                  obtain ⟨go50, co50, eo50, gb50, gl50, cl50, HG50⟩ := Kd.R_form HO_207002.out (by omega)
                  (first | cases eo50 | (injection eo50 with ea_ en_ ec_; (first | subst ea_ | (injection ea_ with ea_; subst ea_)); subst ec_; clear en_))
                  have GB50 := Aside0.mk gb50
                  have GG50 := Aside0.mk HG50
                  clear gb50 gl50 HG50
                  obtain ⟨hx50_0, hf50_0⟩ := Kd.R_celln 0 HO_207002.out ((rd x80_4 x18_4) : Int) p50 q50
                  replace p50 := eq_true p50
                  replace q50 := eq_true q50
                  have HP52 := Kd.R_putn HO_207002.out ((rd x80_4 x18_4) : Int) x13_3
                  rw [← Ny228.out] at HP52
                  have HQ52 := Aside0.mk HP52
                  clear HP52
                  refine start_ (n := 9) (S := fun w' => w'.cell? ⟨gb206, 0, none⟩ = some (.int .i64 t201) ∧ w'.cell? ⟨gb206, 1, none⟩ = some (.int .i64 t202) ∧ w'.cell? ⟨gb206, 2, none⟩ = some (.slice (some ⟨go50, 0, none⟩) x207002_4.length co50) ∧ w'.cell? (ad227.add (x18_4).toNat) = some (.int .i64 (rd x80_4 x18_4))) (ds := [8]) #[false, false, false, false, false, false, false, false, false] (by kernel_rfl) rfl rfl ⟨bc_ BK206 0, bc_ BK206 1, bc_ BK206 2, hx227_0⟩ (fun hHeld => ?_); refine with_tabW spec_l4Complete.tab31 spec_l4Complete.bits31 (fun HT_ HW_ => ?_)
                  generalize wr.drew = w51 at HO_9 HO_23 HO_80 HO_207002 BK199 BK200 BK206 HB GG50 HQ52 hf50_0 hx227_0 hx50_0 hHeld ⊢
                  refine pureA (N := some 91) 0 HT_ ?_
                  refine pureA (N := some 93) 2 HT_ ?_
                  refine pureA (N := some 94) 3 HT_ ?_
                  refine pureA (N := some 95) 4 HT_ ?_
                  refine pureA (N := some 97) 6 HT_ ?_
                  refine takeA (N := some 92) 1 HT_ HW_ hHeld ?_
                  refine takeA (N := some 96) 5 HT_ HW_ hHeld ?_
                  refine pureA (N := some 98) 7 HT_ ?_
                  refine lastA (N := none) 8 HT_ (fun K hK => ?_)
                  refine skip_ (w1 := ?_) (by rfl) rfl ?_ ?_
                  rotate_left
                  ·go_simp
                   rfl
                  refine hK.out _ _ ?_
                  clear hK K
                  refine done_ (done_of HT_.out (by kernel_rfl)) ?_
                  try go_wp2
                  (try simp only [← hl80_4])
                  go_roundg k4
                  case measure => have := HK1.out; have := HK2.out; have := HK3.out; have := HK4.out; omega
                  case rel => exact ⟨(x9_4), (wrap64 (x18_4 + 1)), (x23_4), (x80_4), (y228), (.slice (some ⟨go50, 0, none⟩) x207002_4.length co50), (by first | rfl | (simp; done) | (simp [*]; done)), H', ⟨by have := HK1.out; have := HK2.out; have := HK3.out; have := HK4.out; omega⟩, ⟨by (try simp only [hl80_4]); (with_reducible repeat (first | apply Kd.R_alloc | apply Kd.R_drewN | apply Kd.R_drew)); exact Kd.R_mono (Kd.R_far (p := ⟨go50, ((rd x80_4 x18_4) : Int).toNat, none⟩) (Kd.R_mono HO_9.out (fun k_ hk => (⟨hk, fun e_ => hk.2.2 (by rw [e_]; rfl)⟩ : _ ∧ k_ ≠ go50))) (fun _ hk => hk.2) (.int .i64 x13_3)) (fun _ hk => ⟨hk.1.1, ⟨hk.1.2.1, hk.1.2.2⟩⟩)⟩, ⟨by (try simp only [hl80_4]); (with_reducible repeat (first | apply Kd.R_alloc | apply Kd.R_drewN | apply Kd.R_drew)); exact Kd.R_mono (Kd.R_far (p := ⟨go50, ((rd x80_4 x18_4) : Int).toNat, none⟩) (Kd.R_mono HO_23.out (fun k_ hk => (⟨hk, fun e_ => hk.2.2 (by rw [e_]; rfl)⟩ : _ ∧ k_ ≠ go50))) (fun _ hk => hk.2) (.int .i64 x13_3)) (fun _ hk => ⟨hk.1.1, ⟨hk.1.2.1, hk.1.2.2⟩⟩)⟩, ⟨by (try simp only [hl80_4]); (with_reducible repeat (first | apply Kd.R_alloc | apply Kd.R_drewN | apply Kd.R_drew)); exact Kd.R_mono (Kd.R_far (p := ⟨go50, ((rd x80_4 x18_4) : Int).toNat, none⟩) (Kd.R_mono HO_80.out (fun k_ hk => (⟨hk, fun e_ => hk.2.2 (by rw [e_]; rfl)⟩ : _ ∧ k_ ≠ go50))) (fun _ hk => hk.2) (.int .i64 x13_3)) (fun _ hk => ⟨hk.1.1, ⟨hk.1.2.1, hk.1.2.2⟩⟩)⟩, ⟨by (try simp only [hl80_4]); (with_reducible repeat (first | apply Kd.R_alloc | apply Kd.R_drewN | apply Kd.R_drew)); exact HQ52.out⟩, ⟨by (try simp only [hl80_4]); (with_reducible repeat (first | refine blk_drewN ?_ _ | refine blk_drew ?_ | refine blk_alloc ?_ _)); refine blk_far ?_ (by have h_ := Kd.R_ne HO_207002.out BK199.out (by decide); intro e_; exact h_ (by rw [e_]; rfl)) _; (with_reducible repeat (first | refine blk_drewN ?_ _ | refine blk_drew ?_ | refine blk_alloc ?_ _)); exact BK199.out⟩, ⟨by (try simp only [hl80_4]); (with_reducible repeat (first | refine blk_drewN ?_ _ | refine blk_drew ?_ | refine blk_alloc ?_ _)); refine blk_far ?_ (by have h_ := Kd.R_ne HO_207002.out BK200.out (by decide); intro e_; exact h_ (by rw [e_]; rfl)) _; (with_reducible repeat (first | refine blk_drewN ?_ _ | refine blk_drew ?_ | refine blk_alloc ?_ _)); exact BK200.out⟩, ⟨by (try simp only [hl80_4]); (with_reducible repeat (first | refine blk_drewN ?_ _ | refine blk_drew ?_ | refine blk_alloc ?_ _)); refine blk_far ?_ (by have h_ := Kd.R_ne HO_207002.out BK206.out (by decide); intro e_; exact h_ (by rw [e_]; rfl)) _; (with_reducible repeat (first | refine blk_drewN ?_ _ | refine blk_drew ?_ | refine blk_alloc ?_ _)); exact BK206.out⟩, ⟨by repeat (first | (with_reducible first | exact HB.out | apply below_alloc | apply pw_below_drewN | apply below_drew1 | refine below_set ?_ GB50.out | refine below_set ?_ GE199.out | refine below_set ?_ GE200.out | refine below_set ?_ GE206.out) | exact HB.out)⟩⟩
                 ·rw [if_neg c49] at H
                  exact absurd H (by simp)
                ·rw [if_neg c48] at H
                 exact absurd H (by simp)
               ·rw [if_neg c47] at H
                exact absurd H (by simp)
              ·rw [if_neg c46] at H
               have c46b0 : decide (x18_4 < (x80_4.length : Int)) = false := decide_eq_false c46
               (try simp only [hl80_4] at c46b0)
               clear c46
               have H' := Aside0.mk H
               clear H
               go_wp2
               (try simp only [← hl80_4])
               go_roundg k4
               case measure => have := HK1.out; have := HK2.out; have := HK3.out; have := HK4.out; omega
               case rel => exact ⟨((wrap64 ((wrap64 (x7_1 + (x11_2.length : Int))) - x14_3))), (x9_4), (wrap64 (x10_1 + 1)), (x23_4), (x207002_4), (u207002), (by first | rfl | (simp; done) | (simp [*]; done)), (by first | rfl | (simp; done) | (simp [*]; done)), H', ⟨by have := HK1.out; have := HK2.out; have := HK3.out; have := HK4.out; omega⟩, ⟨by (try simp only [hl80_4]); (with_reducible repeat (first | apply Kd.R_alloc | apply Kd.R_drewN | apply Kd.R_drew)); exact Kd.R_mono HO_9.out (fun _ hk => ⟨hk.1, hk.2.2⟩)⟩, ⟨by (try simp only [hl80_4]); (with_reducible repeat (first | apply Kd.R_alloc | apply Kd.R_drewN | apply Kd.R_drew)); exact Kd.R_mono HO_23.out (fun _ hk => ⟨hk.1, hk.2.2⟩)⟩, ⟨by (try simp only [hl80_4]); (with_reducible repeat (first | apply Kd.R_alloc | apply Kd.R_drewN | apply Kd.R_drew)); exact Kd.R_mono HO_207002.out (fun _ hk => ⟨hk.1, hk.2.1⟩)⟩, ⟨by (try simp only [hl80_4]); (with_reducible repeat (first | refine blk_drewN ?_ _ | refine blk_drew ?_ | refine blk_alloc ?_ _)); exact BK199.out⟩, ⟨by (try simp only [hl80_4]); (with_reducible repeat (first | refine blk_drewN ?_ _ | refine blk_drew ?_ | refine blk_alloc ?_ _)); exact BK200.out⟩, ⟨by (try simp only [hl80_4]); (with_reducible repeat (first | refine blk_drewN ?_ _ | refine blk_drew ?_ | refine blk_alloc ?_ _)); exact BK206.out⟩, ⟨(bw_ w)⟩⟩
        ·rw [if_neg c34] at H
         exact absurd H (by simp)
       ·replace c33 := Bool.eq_false_iff.mpr c33
        subst c33
        have H1 : (if x11_2.length < 17592186044416 then (if 0 ≤ x12_2 then (if x12_2 < (x23_1.length : Int) then (spec_l4Complete.l1 k2 x7_1 x23_1 x9_1 x10_1 (x11_2 ++ [x12_2]) (rd x23_1 x12_2) x23_1 a0_0 a0_1 l0_2 t201 t202 x207002_1) else (none)) else (none)) else (none)) = some (r1, r2, r3, r4) := by rw [if_neg (show ¬ (false = true) by decide)] at H; exact H
        clear H
        have H := H1
        clear H1
        by_cases c53 : x11_2.length < 17592186044416
        ·rw [if_pos c53] at H
         have LMc53 := Aside0.mk c53
         clear c53
         obtain ⟨y218, hy218⟩ : ∃ y_ : List Int, y_ = (x11_2 ++ [x12_2]) := ⟨_, rfl⟩
         replace H : (if 0 ≤ x12_2 then (if x12_2 < (x23_1.length : Int) then (spec_l4Complete.l1 k2 x7_1 x23_1 x9_1 x10_1 y218 (rd x23_1 x12_2) x23_1 a0_0 a0_1 l0_2 t201 t202 x207002_1) else (none)) else (none)) = some (r1, r2, r3, r4) := by first | (rw [hy218]; with_reducible exact H) | (have H2_ := (Option.bind_some _ _).symm.trans H; rw [hy218]; with_reducible exact H2_) | (have H2_ := (Option.bind_some _ _).symm.trans H; with_reducible exact H2_) | with_reducible exact H | (rw [hy218]; exact H) | exact H
         have Ny218 := Aside0.mk hy218
         clear hy218
         by_cases c54 : 0 ≤ x12_2
         ·rw [if_pos c54] at H
          have c54b0 : decide (0 ≤ x12_2) = true := decide_eq_true c54
          clear c54
          by_cases c55 : x12_2 < (x23_1.length : Int)
          ·rw [if_pos c55] at H
           have c55b0 : decide (x12_2 < (x23_1.length : Int)) = true := decide_eq_true c55
           clear c55
           have H' := Aside0.mk H
           clear H
           obtain ⟨Ao56, co56, eo56⟩ := Kd.R_slice HO_11.out
           subst eo56
           go_wp2_with (first | ((with_reducible refine gate_callee (f := 228) rfl ?_); refine goesB (some 39) Try.func228 #[.slice Ao56 x11_2.length co56, .int .i64 x12_2] ?_; (with_reducible refine (spec_l1Has.calls k2 _ _ x11_2 x12_2 false _ ?side1 ?side2 A32.out).mono ?_); (case side1 => exact co_ (Kd.R_reads' HO_11.out).2.2); (case side2 => exact (Kd.R_reads' HO_11.out).2.1); rintro e w' ⟨rfl, ⟨nd, rfl⟩⟩; refine ⟨_, rfl, ?_⟩) | ((with_reducible refine gate_builtin (b := .append) (xs := #[.tmp 45, .tmp 47]) rfl ?_); at_builtin; refine Kd.R_append (Kd.int .i64) (w0 := w) w.heap.size rfl (.tmp 45) (.tmp 47) 22 3 (.int .i64 0) 8 rfl Try.underlying22 info3 rfl (by decide) (by omega) (.slice Ao56 x11_2.length co56) x11_2 x12_2 [.int .i64 x12_2] (fun k_ => some k_ ≠ (v208 : Value).ownBlock ∧ some k_ ≠ (.slice Ao29 x9_1.length co29 : Value).ownBlock ∧ some k_ ≠ (v208 : Value).ownBlock ∧ some k_ ≠ (u207002 : Value).ownBlock) (fun _ => False) rfl rfl ?aP (fun _ hk => hk.elim) ?aF ?aO ?aB ?aS ?aL ?_; (case aP => exact rfl); (case aB => exact (bw_ w)); (case aF => exact (fun k_ hk => ⟨Kd.fresh' (Kd.R_lt (ra_ HO_8)) k_ hk, Kd.fresh' (Kd.R_lt (ra_ HO_9)) k_ hk, Kd.fresh' (Kd.R_lt (ra_ HO_23)) k_ hk, Kd.fresh' (Kd.R_lt (ra_ HO_207002)) k_ hk⟩)); (case aO => exact (ra_ HO_11)); (case aS => exact (below_size (bw_ w))); (case aL => have := LMc53.out; omega); intro v219 w57 ho hb hg hat; rw [← Ny218.out] at ho; replace HO_8 := Aside0.mk (Kd.R_after (ok := (fun k_ => some k_ ≠ (.slice Ao29 x9_1.length co29 : Value).ownBlock ∧ some k_ ≠ (u207002 : Value).ownBlock)) (by exact rf_ HO_8.out (fun _ hk => ⟨⟨hk.1, hk.2.2⟩, hk.2.1⟩)) hg hat); replace HO_9 := Aside0.mk (Kd.R_after (ok := (fun k_ => some k_ ≠ (v208 : Value).ownBlock ∧ some k_ ≠ (v208 : Value).ownBlock ∧ some k_ ≠ (u207002 : Value).ownBlock)) (by exact rf_ HO_9.out (fun _ hk => ⟨⟨hk.1, ⟨hk.2.2.1, hk.2.2.2⟩⟩, hk.2.1⟩)) hg hat); replace HO_23 := Aside0.mk (Kd.R_after (ok := (fun k_ => some k_ ≠ (.slice Ao29 x9_1.length co29 : Value).ownBlock ∧ some k_ ≠ (u207002 : Value).ownBlock)) (by exact rf_ HO_23.out (fun _ hk => ⟨⟨hk.1, hk.2.2⟩, hk.2.1⟩)) hg hat); replace HO_207002 := Aside0.mk (Kd.R_after (ok := (fun k_ => some k_ ≠ (v208 : Value).ownBlock ∧ some k_ ≠ (.slice Ao29 x9_1.length co29 : Value).ownBlock ∧ some k_ ≠ (v208 : Value).ownBlock)) (by exact rf_ HO_207002.out (fun _ hk => ⟨⟨hk.1, ⟨hk.2.1, hk.2.2.2⟩⟩, hk.2.2.1⟩)) hg hat); replace BK199 := Aside0.mk (blk_grown (g := gb199) (o := .cells #[.int .i64 a0_0, .int .i64 a0_1, .slice A0_2 l0_2.length c0_2] 26 (0, 0)) (bk_ BK199) hg (Kd.R_ne HO_11.out BK199.out (by decide))); replace BK200 := Aside0.mk (blk_grown (g := gb200) (o := .cells #[.int .i64 0, .int .i64 0, .slice none 0 0] 26 (0, 0)) (bk_ BK200) hg (Kd.R_ne HO_11.out BK200.out (by decide))); replace BK206 := Aside0.mk (blk_grown (g := gb206) (o := .cells #[.int .i64 t201, .int .i64 t202, u207002] 26 (0, 0)) (bk_ BK206) hg (Kd.R_ne HO_11.out BK206.out (by decide))); have HO220 := Aside0.mk (ho); replace HB := Aside0.mk (hb); clear HO_11; clear ho hb hg hat; obtain ⟨Ao58, co58, eo58⟩ := Kd.R_slice HO_8.out; subst eo58; have p221 : 0 ≤ (x12_2 : Int) := of_decide_eq_true (by first | (with_reducible assumption) | assumption); have q221 : x12_2 < (x23_1.length : Int) := of_decide_eq_true (by first | (with_reducible assumption) | assumption); obtain ⟨ad221, e221, hx221_0⟩ := Kd.at_int (Kd.R_reads' HO_8.out).2.2 x12_2 p221 q221; cases e221; replace p221 := eq_true p221; replace q221 := eq_true q221))
           go_roundg k2
           case measure => have := HK1.out; have := HK2.out; omega
           case rel => exact ⟨(y218), (rd x23_1 x12_2), (by first | rfl | (simp; done) | (simp [*]; done)), H', ⟨by have := HK1.out; have := HK2.out; omega⟩, ⟨by exact rf_ HO_8.out (fun _ hk => ⟨hk.1.1, ⟨hk.2, hk.1.2⟩⟩)⟩, ⟨by exact rf_ HO_9.out (fun _ hk => ⟨hk.1.1, ⟨hk.2, ⟨hk.1.2.1, hk.1.2.2⟩⟩⟩)⟩, ⟨ra_ HO220⟩, ⟨by exact rf_ HO_23.out (fun _ hk => ⟨hk.1.1, ⟨hk.2, hk.1.2⟩⟩)⟩, ⟨by exact rf_ HO_207002.out (fun _ hk => ⟨hk.1.1, ⟨hk.1.2.1, ⟨hk.2, hk.1.2.2⟩⟩⟩)⟩, ⟨bk_ BK199⟩, ⟨bk_ BK200⟩, ⟨bk_ BK206⟩, ⟨(bw_ w)⟩⟩
          ·rw [if_neg c55] at H
           exact absurd H (by simp)
         ·rw [if_neg c54] at H
          exact absurd H (by simp)
        ·rw [if_neg c53] at H
         exact absurd H (by simp)
   ·rw [if_neg c19] at H
    have c19b0 : decide (x10_1 < (l0_2.length : Int)) = false := decide_eq_false c19
    clear c19
    simp only [Option.some.injEq, Prod.mk.injEq] at H
    obtain ⟨rfl, rfl, rfl, rfl⟩ := H
    have hnb59 := NB199_200.out
    have hnc59 := NB200_199.out
    have hnb60 := NB199_206.out
    have hnc60 := NB206_199.out
    obtain ⟨hcz61_0, hcz61_1, hcz61_2, hfz61_0, hfz61_1, hfz61_2⟩ := bc3_ (w := wr) BK199
    have hnb62 := NB206_200.out
    have hnc62 := NB200_206.out
    obtain ⟨hcz63_0, hcz63_1, hcz63_2, hfz63_0, hfz63_1, hfz63_2⟩ := bc3_ (w := wr) BK206
    obtain ⟨hcz64_0, hcz64_1, hcz64_2, hfz64_0, hfz64_1, hfz64_2⟩ := bc3_ (w := wr) BK200
    obtain ⟨Ao65, co65, eo65⟩ := Kd.R_slice HO_207002.out
    subst eo65
    go_wp2
    refine bodyPost_ret (results_ct rfl _ _ gb200 26 #[.int .i64 t201, .int .i64 t202, .slice Ao65 x207002_1.length co65] (0, 0) _ rfl (bq_ BK200) Try.underlying26 rfl (by kernel_rfl)) rfl ?_
    exact ⟨_, by first | rfl | (simp [errW_none, errW_some] <;> rfl) | (simp [*, errW_none, errW_some] <;> rfl), by exact rf_ (Kd.R_types HO_207002.out BK200.out (by decide)) (fun _ hk => trivial), (bw_ w)⟩

end Go.Proofs.Ytijmljaemalgmaa.PFnExactFewestChanges
