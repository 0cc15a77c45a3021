-- Printed by this session's own program (wip/tool/myprint.py, over the kit's print); Lean checks it.
import Derived.Test.YteiaakppjcpgcaaPFnExactAnyWayPlacesx0
import Derived.Test.YteiaakppjcpgcaaPFnExactAnyWayPlacesx1
import Derived.Test.YteiaakppjcpgcaaPFnExactAnyWayPlacesx2
import Derived.Test.YteiaakppjcpgcaaPFnExactAnyWayPlacesx3
import Derived.Test.YteiaakppjcpgcaaPFnExactAnyWayPlacesx4
namespace Go.Proofs.Yteiaakppjcpgcaa.PFnExactAnyWayPlaces
open Go.RowKit Go.Proofs.YteiaakppjcpgcaaW.PrintWords Go.Proofs.YteiaakppjcpgcaaW.PrintLast Go.Proofs.YteiaakppjcpgcaaW.PrintMore
attribute [local go_sem] max2_int min2_int max_two min_two max_three min_three max_four min_four   -- for this text's walks alone
set_option linter.unusedVariables false
set_option linter.unusedSimpArgs false

/-! ### spec_AnyWayPlaces: function 51 -/
mutual
def spec_AnyWayPlaces.j0 : Nat → Bool → Int → Int → List Int → Int → Int → List Int → Option (Int × Bool)
  | 0, _, _, _, _, _, _, _ => none
  | k + 1, x19, x206000, x206001, x206002, x207000, x207001, x207002 => if x19 = true then (some (0, false)) else (spec_AnyWayPlaces.l0 k (([] : List (S26))) 0 0 x206000 x206001 x206002 x207000 x207001 x207002)
def spec_AnyWayPlaces.l0 : Nat → List (S26) → Int → Int → Int → Int → List Int → Int → Int → List Int → Option (Int × Bool)
  | 0, _, _, _, _, _, _, _, _, _ => none
  | k + 1, x6, x7, x8, x206000, x206001, x206002, x207000, x207001, x207002 => if x8 < 8 then ((spec_l4Move.f k x207000 x207001 x207002 x8).bind fun bt212 => (spec_AnyWayPlaces.l1 k x6 x7 x8 false 0 x206000 x206001 x206002 x207000 x207001 x207002 bt212.1 bt212.2.1 bt212.2.2)) else (some (x7, true))
def spec_AnyWayPlaces.l1 : Nat → List (S26) → Int → Int → Bool → Int → Int → Int → List Int → Int → Int → List Int → Int → Int → List Int → Option (Int × Bool)
  | 0, _, _, _, _, _, _, _, _, _, _, _, _, _, _ => none
  | k + 1, x6, x7, x8, x10, x11, x206000, x206001, x206002, x207000, x207001, x207002, x218000, x218001, x218002 => if x11 < (x6.length : Int) then (if x10 = true then (spec_AnyWayPlaces.l1 k x6 x7 x8 true (wrap64 (x11 + 1)) x206000 x206001 x206002 x207000 x207001 x207002 x218000 x218001 x218002) else (if 0 ≤ x11 then ((spec_l4Same.f k ((rd_T26 x6 x11).f0) ((rd_T26 x6 x11).f1) ((rd_T26 x6 x11).f2) x218000 x218001 x218002).bind fun t219 => (spec_AnyWayPlaces.l1 k x6 x7 x8 t219 (wrap64 (x11 + 1)) x206000 x206001 x206002 x207000 x207001 x207002 x218000 x218001 x218002)) else (none))) else (if x10 = true then (spec_AnyWayPlaces.l0 k x6 x7 (wrap64 (x8 + 1)) x206000 x206001 x206002 x207000 x207001 x207002) else (if x6.length < 3518437208883 then ((spec_l6Places.f k x206000 x206001 x206002 x218000 x218001 x218002).bind fun t224 => (spec_AnyWayPlaces.l0 k (x6 ++ [(⟨x218000, x218001, x218002⟩ : S26)]) (wrap64 (x7 + (t224.length : Int))) (wrap64 (x8 + 1)) x206000 x206001 x206002 x207000 x207001 x207002)) else (none)))
end
def spec_AnyWayPlaces.f (k : Nat) (a0_0 : Int) (a0_1 : Int) (l0_2 : List Int) (a1_0 : Int) (a1_1 : Int) (l1_2 : List Int) : Option (Int × Bool) := (spec_l2Good.f k a0_0 a0_1 l0_2).bind fun t207 => (if t207 = true then ((spec_l2Good.f k a1_0 a1_1 l1_2).bind fun t208 => (spec_AnyWayPlaces.j0 k (!t208) a0_0 a0_1 l0_2 a1_0 a1_1 l1_2)) else (spec_AnyWayPlaces.j0 k true a0_0 a0_1 l0_2 a1_0 a1_1 l1_2))
theorem spec_AnyWayPlaces.mono_l : ∀ k, (∀ y0 y1 y2 y3 y4 y5 y6, LeO (spec_AnyWayPlaces.j0 k y0 y1 y2 y3 y4 y5 y6) (spec_AnyWayPlaces.j0 (k + 1) y0 y1 y2 y3 y4 y5 y6)) ∧ (∀ y0 y1 y2 y3 y4 y5 y6 y7 y8, LeO (spec_AnyWayPlaces.l0 k y0 y1 y2 y3 y4 y5 y6 y7 y8) (spec_AnyWayPlaces.l0 (k + 1) y0 y1 y2 y3 y4 y5 y6 y7 y8)) ∧ (∀ y0 y1 y2 y3 y4 y5 y6 y7 y8 y9 y10 y11 y12 y13, LeO (spec_AnyWayPlaces.l1 k y0 y1 y2 y3 y4 y5 y6 y7 y8 y9 y10 y11 y12 y13) (spec_AnyWayPlaces.l1 (k + 1) y0 y1 y2 y3 y4 y5 y6 y7 y8 y9 y10 y11 y12 y13))
  | 0 => ⟨fun _ _ _ _ _ _ _ r h => by simp [spec_AnyWayPlaces.j0] at h, fun _ _ _ _ _ _ _ _ _ r h => by simp [spec_AnyWayPlaces.l0] at h, fun _ _ _ _ _ _ _ _ _ _ _ _ _ _ r h => by simp [spec_AnyWayPlaces.l1] at h⟩
  | k + 1 => by
    obtain ⟨ih0, ih1, ih2⟩ := spec_AnyWayPlaces.mono_l k
    refine ⟨?_, ?_, ?_⟩
    · intro y0 y1 y2 y3 y4 y5 y6
      unfold spec_AnyWayPlaces.j0
      repeat' first
      | (with_reducible exact ih0 _ _ _ _ _ _ _)
      | (with_reducible exact ih1 _ _ _ _ _ _ _ _ _)
      | (with_reducible exact ih2 _ _ _ _ _ _ _ _ _ _ _ _ _ _)
      | (with_reducible exact spec_l2Good.mono _ _ _ _)
      | (with_reducible exact spec_l4Move.mono _ _ _ _ _)
      | (with_reducible exact spec_l4Same.mono _ _ _ _ _ _ _)
      | (with_reducible exact spec_l6Places.mono _ _ _ _ _ _ _)
      | (with_reducible exact LeO.refl _)
      | (with_reducible exact LeO.none _)
      | (with_reducible refine LeO.ite ?_ ?_)
      | (with_reducible refine LeO.bind ?_ (fun _ => ?_))
      | exact ih0 _ _ _ _ _ _ _
      | exact ih1 _ _ _ _ _ _ _ _ _
      | exact ih2 _ _ _ _ _ _ _ _ _ _ _ _ _ _
      | exact spec_l2Good.mono _ _ _ _
      | exact spec_l4Move.mono _ _ _ _ _
      | exact spec_l4Same.mono _ _ _ _ _ _ _
      | exact spec_l6Places.mono _ _ _ _ _ _ _
      | exact LeO.none _
      | refine LeO.ite ?_ ?_
      | refine LeO.bind ?_ (fun _ => ?_)
    · intro y0 y1 y2 y3 y4 y5 y6 y7 y8
      unfold spec_AnyWayPlaces.l0
      repeat' first
      | (with_reducible exact ih0 _ _ _ _ _ _ _)
      | (with_reducible exact ih1 _ _ _ _ _ _ _ _ _)
      | (with_reducible exact ih2 _ _ _ _ _ _ _ _ _ _ _ _ _ _)
      | (with_reducible exact spec_l2Good.mono _ _ _ _)
      | (with_reducible exact spec_l4Move.mono _ _ _ _ _)
      | (with_reducible exact spec_l4Same.mono _ _ _ _ _ _ _)
      | (with_reducible exact spec_l6Places.mono _ _ _ _ _ _ _)
      | (with_reducible exact LeO.refl _)
      | (with_reducible exact LeO.none _)
      | (with_reducible refine LeO.ite ?_ ?_)
      | (with_reducible refine LeO.bind ?_ (fun _ => ?_))
      | exact ih0 _ _ _ _ _ _ _
      | exact ih1 _ _ _ _ _ _ _ _ _
      | exact ih2 _ _ _ _ _ _ _ _ _ _ _ _ _ _
      | exact spec_l2Good.mono _ _ _ _
      | exact spec_l4Move.mono _ _ _ _ _
      | exact spec_l4Same.mono _ _ _ _ _ _ _
      | exact spec_l6Places.mono _ _ _ _ _ _ _
      | exact LeO.none _
      | refine LeO.ite ?_ ?_
      | refine LeO.bind ?_ (fun _ => ?_)
    · intro y0 y1 y2 y3 y4 y5 y6 y7 y8 y9 y10 y11 y12 y13
      unfold spec_AnyWayPlaces.l1
      repeat' first
      | (with_reducible exact ih0 _ _ _ _ _ _ _)
      | (with_reducible exact ih1 _ _ _ _ _ _ _ _ _)
      | (with_reducible exact ih2 _ _ _ _ _ _ _ _ _ _ _ _ _ _)
      | (with_reducible exact spec_l2Good.mono _ _ _ _)
      | (with_reducible exact spec_l4Move.mono _ _ _ _ _)
      | (with_reducible exact spec_l4Same.mono _ _ _ _ _ _ _)
      | (with_reducible exact spec_l6Places.mono _ _ _ _ _ _ _)
      | (with_reducible exact LeO.refl _)
      | (with_reducible exact LeO.none _)
      | (with_reducible refine LeO.ite ?_ ?_)
      | (with_reducible refine LeO.bind ?_ (fun _ => ?_))
      | exact ih0 _ _ _ _ _ _ _
      | exact ih1 _ _ _ _ _ _ _ _ _
      | exact ih2 _ _ _ _ _ _ _ _ _ _ _ _ _ _
      | exact spec_l2Good.mono _ _ _ _
      | exact spec_l4Move.mono _ _ _ _ _
      | exact spec_l4Same.mono _ _ _ _ _ _ _
      | exact spec_l6Places.mono _ _ _ _ _ _ _
      | exact LeO.none _
      | refine LeO.ite ?_ ?_
      | refine LeO.bind ?_ (fun _ => ?_)
theorem spec_AnyWayPlaces.mono : ∀ a0 a1 a2 a3 a4 a5 k, LeO (spec_AnyWayPlaces.f k a0 a1 a2 a3 a4 a5) (spec_AnyWayPlaces.f (k + 1) a0 a1 a2 a3 a4 a5) := by
  intro a0 a1 a2 a3 a4 a5 k
  obtain ⟨ih0, ih1, ih2⟩ := spec_AnyWayPlaces.mono_l k
  unfold spec_AnyWayPlaces.f
  repeat' first
      | (with_reducible exact ih0 _ _ _ _ _ _ _)
      | (with_reducible exact ih1 _ _ _ _ _ _ _ _ _)
      | (with_reducible exact ih2 _ _ _ _ _ _ _ _ _ _ _ _ _ _)
      | (with_reducible exact spec_l2Good.mono _ _ _ _)
      | (with_reducible exact spec_l4Move.mono _ _ _ _ _)
      | (with_reducible exact spec_l4Same.mono _ _ _ _ _ _ _)
      | (with_reducible exact spec_l6Places.mono _ _ _ _ _ _ _)
      | (with_reducible exact LeO.refl _)
      | (with_reducible exact LeO.none _)
      | (with_reducible refine LeO.ite ?_ ?_)
      | (with_reducible refine LeO.bind ?_ (fun _ => ?_))
      | exact ih0 _ _ _ _ _ _ _
      | exact ih1 _ _ _ _ _ _ _ _ _
      | exact ih2 _ _ _ _ _ _ _ _ _ _ _ _ _ _
      | exact spec_l2Good.mono _ _ _ _
      | exact spec_l4Move.mono _ _ _ _ _
      | exact spec_l4Same.mono _ _ _ _ _ _ _
      | exact spec_l6Places.mono _ _ _ _ _ _ _
      | exact LeO.none _
      | refine LeO.ite ?_ ?_
      | refine LeO.bind ?_ (fun _ => ?_)
def spec_AnyWayPlaces.T11 : Bool × List (List Nat × List Nat) := (true, [([], []), ([0], [0]), ([1], [1]), ([1], [1]), ([2, 3, 1], [1, 2, 3]), ([4, 1], [1, 4]), ([1], [1]), ([5, 6, 1, 1], [1, 5, 6]), ([1, 7], [1, 7]), ([8, 7, 0, 1, 2, 3, 4, 5, 6, 7, 8], [0, 8])])
def spec_AnyWayPlaces.B11 : List Nat := [0, 1, 3, 3, 15, 31, 3, 127, 255, 511]
theorem spec_AnyWayPlaces.tab11 : rtab .any (opsOf Try.f51 11) = spec_AnyWayPlaces.T11 := by kernel_rfl
theorem spec_AnyWayPlaces.bits11 : waitsOk spec_AnyWayPlaces.T11.2 spec_AnyWayPlaces.B11 = true := by kernel_rfl
set_option maxHeartbeats 8000000 in
set_option maxRecDepth 100000 in
theorem spec_AnyWayPlaces.calls (k : Nat) (a0_0 : Int) (a0_1 : Int) (A0_2 : Option Addr) (c0_2 : Nat) (l0_2 : List Int) (a1_0 : Int) (a1_1 : Int) (A1_2 : Option Addr) (c1_2 : Nat) (l1_2 : List Int) (r1 : Int) (r2 : Bool) (w : World) (hr0_2 : Kd.C (Kd.int .i64) w A0_2 l0_2.length l0_2) (hc0_2 : l0_2.length ≤ c0_2) (hr1_2 : Kd.C (Kd.int .i64) w A1_2 l1_2.length l1_2) (hc1_2 : l1_2.length ≤ c1_2) (h : spec_AnyWayPlaces.f k a0_0 a0_1 l0_2 a1_0 a1_1 l1_2 = some (r1, r2)) :
  Calls Try.prog 51 #[.agg #[.int .i64 a0_0, .int .i64 a0_1, .slice A0_2 l0_2.length c0_2], .agg #[.int .i64 a1_0, .int .i64 a1_1, .slice A1_2 l1_2.length c1_2]] w fun e w' => e = .returned (.tuple #[.int .i64 r1, .bool r2]) ∧ Below w.heap.size w w' := by
 have hu26 := Try.underlying26
 have HR0_2 := Aside0.mk hr0_2
 have HC0_2 := Aside0.mk hc0_2
 clear hr0_2 hc0_2
 have HR1_2 := Aside0.mk hr1_2
 have HC1_2 := Aside0.mk hc1_2
 clear hr1_2 hc1_2
 have HB := Aside0.mk (Below.refl w.heap.size w)
 have H : ((spec_l2Good.f k a0_0 a0_1 l0_2).bind fun t207 => (if t207 = true then ((spec_l2Good.f k a1_0 a1_1 l1_2).bind fun t208 => (spec_AnyWayPlaces.j0 k (!t208) a0_0 a0_1 l0_2 a1_0 a1_1 l1_2)) else (spec_AnyWayPlaces.j0 k true a0_0 a0_1 l0_2 a1_0 a1_1 l1_2))) = some (r1, r2) := h
 clear h
 have HC3 := Aside0.mk H
 clear H
 go_enter Try.func51, Try.ntmps51
 go_upto_region 1 with (first | ((with_reducible refine gate_dst (N := 2) rfl ?_); refine box_ (N := 2) (cs := #[.int .i64 a0_0, .int .i64 a0_1, .slice A0_2 l0_2.length c0_2]) (t := 26) ?_; intro gb205 hg w4 hbox hb; have BK205 := Aside0.mk (hbox); have GW205 := gz_ w hg; have GE205 := gz_ w hg; replace HB := Aside0.mk (below_step (bw_ w) hb); clear hb hbox hg) | ((with_reducible refine gate_dst (N := 3) rfl ?_); refine box_ (N := 3) (cs := #[.int .i64 a1_0, .int .i64 a1_1, .slice A1_2 l1_2.length c1_2]) (t := 26) ?_; intro gb206 hg w5 hbox hb; have n0_ := bb_ BK205 hb; have n1_ := Aside0.mk (below_step (bw_ w) hb); have n2_ := Aside0.mk (hbox); have n3_ := gz_ w hg; have n4_ := gz_ w hg; have n5_ := ne_ hg BK205; have n6_ := en_ hg BK205; clear BK205; clear HB; have BK205 := n0_; have HB := n1_; have BK206 := n2_; have GW206 := n3_; have GE206 := n4_; have NB205_206 := n5_; have NB206_205 := n6_; clear n0_ n1_ n2_ n3_ n4_ n5_ n6_; clear hb hbox hg))
 (try simp only [Act.put, List.setIfInBounds_toArray, List.set_cons_zero, List.set_cons_succ])
 go_cut [19] (fun v19 wc => ∃ (kq : Nat) (x19_2 : Bool), v19 = .bool x19_2 ∧ Aside0 (spec_AnyWayPlaces.j0 kq x19_2 a0_0 a0_1 l0_2 a1_0 a1_1 l1_2 = some (r1, r2)) ∧ Aside0 (kq ≤ k) ∧ Aside0 (wc.heap[gb205]? = some (.cells #[.int .i64 a0_0, .int .i64 a0_1, (.slice A0_2 l0_2.length c0_2)] 26 (0, 0))) ∧ Aside0 (wc.heap[gb206]? = some (.cells #[.int .i64 a1_0, .int .i64 a1_1, (.slice A1_2 l1_2.length c1_2)] 26 (0, 0))) ∧ Aside0 (Below w.heap.size w wc))
 case first =>
  have H := HC3.out
  clear HC3
  replace H := Option.bind_eq_some_iff.mp H
  obtain ⟨t207, A60, H⟩ := H
  replace H : (if t207 = true then ((spec_l2Good.f k a1_0 a1_1 l1_2).bind fun t208 => (spec_AnyWayPlaces.j0 k (!t208) a0_0 a0_1 l0_2 a1_0 a1_1 l1_2)) else (spec_AnyWayPlaces.j0 k true a0_0 a0_1 l0_2 a1_0 a1_1 l1_2)) = some (r1, r2) := H
  have A6 := Aside0.mk A60
  clear A60
  by_cases c7 : t207 = true
  ·subst c7
   have H1 : ((spec_l2Good.f k a1_0 a1_1 l1_2).bind fun t208 => (spec_AnyWayPlaces.j0 k (!t208) a0_0 a0_1 l0_2 a1_0 a1_1 l1_2)) = some (r1, r2) := by rw [if_pos rfl] at H; exact H
   clear H
   have H := H1
   clear H1
   replace H := Option.bind_eq_some_iff.mp H
   obtain ⟨t208, A80, H⟩ := H
   replace H : (spec_AnyWayPlaces.j0 k (!t208) a0_0 a0_1 l0_2 a1_0 a1_1 l1_2) = some (r1, r2) := H
   have A8 := Aside0.mk A80
   clear A80
   have H' := Aside0.mk H
   clear H
   have hnb9 := NB205_206.out
   have hnc9 := NB206_205.out
   obtain ⟨hcz10_0, hcz10_1, hcz10_2, hfz10_0, hfz10_1, hfz10_2⟩ := bc3_ (w := w5) BK205
   go_wp2_with (first | ((with_reducible refine gate_callee (f := 54) rfl ?_); refine goesB (some 13) Try.func54 #[.agg #[.int .i64 a0_0, .int .i64 a0_1, .slice A0_2 l0_2.length c0_2]] ?_; (with_reducible refine (spec_l2Good.calls k a0_0 a0_1 _ _ l0_2 true _ ?side1 ?side2 A6.out).mono ?_); (case side1 => exact cb_ HR0_2 HB); (case side2 => exact HC0_2.out); rintro e w11 ⟨rfl, hb⟩; refine ⟨_, rfl, ?_⟩; replace BK205 := bb_ BK205 hb; replace BK206 := bb_ BK206 hb; replace HB := Aside0.mk (below_step (bw_ w) hb); (try clear hb); (try clear hb2); (try clear hk); (try clear hi); obtain ⟨hcz12_0, hcz12_1, hcz12_2, hfz12_0, hfz12_1, hfz12_2⟩ := bc3_ (w := w11) BK206) | (go_at_call 54; (with_reducible refine (spec_l2Good.calls k a1_0 a1_1 _ _ l1_2 t208 _ ?side1 ?side2 A8.out).mono ?_); (case side1 => exact cb_ HR1_2 HB); (case side2 => exact HC1_2.out); rintro e w13 ⟨rfl, hb⟩; replace BK205 := bb_ BK205 hb; replace BK206 := bb_ BK206 hb; replace HB := Aside0.mk (below_step (bw_ w) hb); (try clear hb); (try clear hb2); (try clear hk); (try clear hi)))
   go_meet
   case rel => exact ⟨_, (!t208), (by first | rfl | (simp; done) | (simp [*]; done)), H', ⟨by first | omega | exact Nat.le_refl _⟩, ⟨bk_ BK205⟩, ⟨bk_ BK206⟩, ⟨(bw_ w)⟩⟩
  ·replace c7 := Bool.eq_false_iff.mpr c7
   subst c7
   have H1 : (spec_AnyWayPlaces.j0 k true a0_0 a0_1 l0_2 a1_0 a1_1 l1_2) = some (r1, r2) := by rw [if_neg (show ¬ (false = true) by decide)] at H; exact H
   clear H
   have H := H1
   clear H1
   have H' := Aside0.mk H
   clear H
   have hnb14 := NB205_206.out
   have hnc14 := NB206_205.out
   obtain ⟨hcz15_0, hcz15_1, hcz15_2, hfz15_0, hfz15_1, hfz15_2⟩ := bc3_ (w := w5) BK205
   go_wp2_with (first | ((with_reducible refine gate_callee (f := 54) rfl ?_); refine goesB (some 13) Try.func54 #[.agg #[.int .i64 a0_0, .int .i64 a0_1, .slice A0_2 l0_2.length c0_2]] ?_; (with_reducible refine (spec_l2Good.calls k a0_0 a0_1 _ _ l0_2 false _ ?side1 ?side2 A6.out).mono ?_); (case side1 => exact cb_ HR0_2 HB); (case side2 => exact HC0_2.out); rintro e w16 ⟨rfl, hb⟩; refine ⟨_, rfl, ?_⟩; replace BK205 := bb_ BK205 hb; replace BK206 := bb_ BK206 hb; replace HB := Aside0.mk (below_step (bw_ w) hb); (try clear hb); (try clear hb2); (try clear hk); (try clear hi)))
   go_meet
   case rel => exact ⟨_, (true), (by first | rfl | (simp; done) | (simp [*]; done)), H', ⟨by first | omega | exact Nat.le_refl _⟩, ⟨bk_ BK205⟩, ⟨bk_ BK206⟩, ⟨(bw_ w)⟩⟩
 case rest =>
  clear HC3
  try clear c1
  try clear p2
  try clear c5
  try clear c7
  try clear c9
  try clear c14
  try clear hcz10_0
  try clear hcz10_1
  try clear hcz10_2
  try clear hcz12_0
  try clear hcz12_1
  try clear hcz12_2
  try clear hcz15_0
  try clear hcz15_1
  try clear hcz15_2
  try clear hfz10_0
  try clear hfz10_1
  try clear hfz10_2
  try clear hfz12_0
  try clear hfz12_1
  try clear hfz12_2
  try clear hfz15_0
  try clear hfz15_1
  try clear hfz15_2
  obtain ⟨kq, x19_2, rfl, HA, HJ2, BK205, BK206, HB⟩ := hcut
  cases kq with
  | zero => exact absurd HA.out (by simp [spec_AnyWayPlaces.j0])
  | succ kj2 =>
   have H := HA.out
   clear HA
   simp only [spec_AnyWayPlaces.j0] at H
   by_cases c17 : x19_2 = true
   ·subst c17
    have H1 : (some (0, false)) = some (r1, r2) := by rw [if_pos rfl] at H; exact H
    clear H
    have H := H1
    clear H1
    simp only [Option.some.injEq, Prod.mk.injEq] at H
    obtain ⟨rfl, rfl⟩ := H
    go_wp2
    go_ret2
    exact ⟨by first | rfl | (simp [errW_none, errW_some] <;> rfl) | (simp [*, errW_none, errW_some] <;> rfl), (bw_ w)⟩
   ·replace c17 := Bool.eq_false_iff.mpr c17
    subst c17
    have H1 : (spec_AnyWayPlaces.l0 kj2 (([] : List (S26))) 0 0 a0_0 a0_1 l0_2 a1_0 a1_1 l1_2) = some (r1, r2) := by rw [if_neg (show ¬ (false = true) by decide)] at H; exact H
    clear H
    have H := H1
    clear H1
    obtain ⟨y209, hy209⟩ : ∃ y_ : List (S26), y_ = (([] : List (S26))) := ⟨_, rfl⟩
    replace H : (spec_AnyWayPlaces.l0 kj2 y209 0 0 a0_0 a0_1 l0_2 a1_0 a1_1 l1_2) = some (r1, r2) := by first | (rw [hy209]; with_reducible exact H) | (have H2_ := (Option.bind_some _ _).symm.trans H; rw [hy209]; with_reducible exact H2_) | (have H2_ := (Option.bind_some _ _).symm.trans H; with_reducible exact H2_) | with_reducible exact H | (rw [hy209]; exact H) | exact H
    have Ny209 := Aside0.mk hy209
    clear hy209
    have H' := Aside0.mk H
    clear H
    go_wp2_with (first | ((with_reducible refine gate_dst (N := 20) rfl ?_); refine Kd.S_lit k26 _ 26 ?hg (N := 20) ?hd (xs := ([] : List (S26))) (inner := []) (ok := fun _ => True) (okp := fun _ => True) ?hr ?hp (fun _ hk => hk) trivial (Below.refl _ _) (Nat.le_refl _) (by simp) ?_; (case hd => rfl); (case hg => rfl); (case hr => first | (go_simp; done) | (go_simp; rfl)); (case hp => exact (Reps.none _ _)); intro v210 w18 ho19 hb hg_ hnew_; clear hg_ hnew_; (first | rw [← Ny209.out] at ho19 | (simp only [Int.reduceToNat] at ho19; rw [← Ny209.out] at ho19)); have HO211 := Aside0.mk (Kd.S_lower (Kd.S_newB (Kd.S_newB ho19 (g := gb205) (o := .cells #[.int .i64 a0_0, .int .i64 a0_1, .slice A0_2 l0_2.length c0_2] 26 (0, 0)) (bk_ BK205)) (g := gb206) (o := .cells #[.int .i64 a1_0, .int .i64 a1_1, .slice A1_2 l1_2.length c1_2] 26 (0, 0)) (bk_ BK206)) (below_size (bw_ w))); replace BK205 := bb_ BK205 hb; replace BK206 := bb_ BK206 hb; replace HB := Aside0.mk (below_step (bw_ w) hb); clear hb ho19))
    go_loopg [6, 7, 8] kj2 (fun kq v6 v7 v8 w' => ∃ (x6_2 : List (S26)) (x7_2 : Int) (x8_2 : Int), v7 = .int .i64 x7_2 ∧ v8 = .int .i64 x8_2 ∧ Aside0 (spec_AnyWayPlaces.l0 kq x6_2 x7_2 x8_2 a0_0 a0_1 l0_2 a1_0 a1_1 l1_2 = some (r1, r2)) ∧ Aside0 (kq ≤ kj2) ∧ Aside0 (Kd.S k26 26 w' w.heap.size (fun k_ => k_ ≠ gb205 ∧ k_ ≠ gb206) v6 x6_2) ∧ Aside0 (w'.heap[gb205]? = some (.cells #[.int .i64 a0_0, .int .i64 a0_1, (.slice A0_2 l0_2.length c0_2)] 26 (0, 0))) ∧ Aside0 (w'.heap[gb206]? = some (.cells #[.int .i64 a1_0, .int .i64 a1_1, (.slice A1_2 l1_2.length c1_2)] 26 (0, 0))) ∧ Aside0 (Below w.heap.size w w'))
    case atStart => exact ⟨(y209), (0), (0), (by first | rfl | (simp; done) | (simp [*]; done)), (by first | rfl | (simp; done) | (simp [*]; done)), H', ⟨Nat.le_refl _⟩, ⟨by (with_reducible repeat (first | apply Kd.S_alloc | apply Kd.S_drewN | apply Kd.S_drew)); exact Kd.S_mono HO211.out (fun _ hk => ⟨hk.1.2, hk.2⟩)⟩, ⟨bk_ BK205⟩, ⟨bk_ BK206⟩, ⟨(bw_ w)⟩⟩
    case round =>
     clear H'
     try clear c1
     try clear p2
     try clear c5
     try clear c7
     try clear c9
     try clear c14
     try clear c17
     try clear hcz10_0
     try clear hcz10_1
     try clear hcz10_2
     try clear hcz12_0
     try clear hcz12_1
     try clear hcz12_2
     try clear hcz15_0
     try clear hcz15_1
     try clear hcz15_2
     try clear hfz10_0
     try clear hfz10_1
     try clear hfz10_2
     try clear hfz12_0
     try clear hfz12_1
     try clear hfz12_2
     try clear hfz15_0
     try clear hfz15_1
     try clear hfz15_2
     try clear p2
     obtain ⟨x6_2, x7_2, x8_2, rfl, rfl, HA, HK2, HO_6, BK205, BK206, HB⟩ := hrel
     cases gk with
     | zero => exact absurd HA.out (by simp [spec_AnyWayPlaces.l0])
     | succ k2 =>
      have H := HA.out
      clear HA
      simp only [spec_AnyWayPlaces.l0] at H
      by_cases c20 : x8_2 < 8
      ·rw [if_pos c20] at H
       have c20b0 : decide (x8_2 < 8) = true := decide_eq_true c20
       clear c20
       replace H := Option.bind_eq_some_iff.mp H
       obtain ⟨⟨t212, t213, t214⟩, A210, H⟩ := H
       replace H : (spec_AnyWayPlaces.l1 k2 x6_2 x7_2 x8_2 false 0 a0_0 a0_1 l0_2 a1_0 a1_1 l1_2 t212 t213 t214) = some (r1, r2) := H
       have A21 := Aside0.mk A210
       clear A210
       have H' := Aside0.mk H
       clear H
       have hnb22 := NB206_205.out
       have hnc22 := NB205_206.out
       obtain ⟨hcz23_0, hcz23_1, hcz23_2, hfz23_0, hfz23_1, hfz23_2⟩ := bc3_ (w := wr) BK206
       go_wp2_with (first | ((with_reducible refine gate_callee (f := 78) rfl ?_); refine goesB (some 27) Try.func78 #[.agg #[.int .i64 a1_0, .int .i64 a1_1, .slice A1_2 l1_2.length c1_2], .int .i64 x8_2] ?_; (with_reducible refine (spec_l4Move.calls k2 a1_0 a1_1 _ _ l1_2 x8_2 t212 t213 t214 _ ?side1 ?side2 A21.out).mono ?_); (case side1 => exact cb_ HR1_2 HB); (case side2 => exact HC1_2.out); rintro e w24 ⟨v215, rfl, ho0, hb⟩; refine ⟨_, rfl, ?_⟩; have n0_ := Aside0.mk (Kd.S_elder' (by (with_reducible repeat (first | apply Kd.S_alloc | apply Kd.S_drewN | apply Kd.S_drew)); exact HO_6.out) (Kd.R_base ho0) hb); have n1_ := Aside0.mk (Kd.R_lower ho0 (below_size (bw_ w))); have n2_ := bb_ BK205 hb; have n3_ := bb_ BK206 hb; have n4_ := Aside0.mk (below_step (bw_ w) hb); clear HO_6; clear BK205; clear BK206; clear HB; have HO_6 := n0_; have HO216 := n1_; have BK205 := n2_; have BK206 := n3_; have HB := n4_; clear n0_ n1_ n2_ n3_ n4_; (try clear hb); (try clear hb2); (try clear hk); (try clear hi); (try clear ho0)) | ((with_reducible refine gate_dst (N := 9) rfl ?_); refine box_ (N := 9) (cs := #[.int .i64 0, .int .i64 0, .slice none 0 0]) (t := 26) ?_; intro gb217 hg w25 hbox hb; have n0_ := Aside0.mk (Kd.S_below (Kd.S_elderB (by (with_reducible repeat (first | apply Kd.S_alloc | apply Kd.S_drewN | apply Kd.S_drew)); exact HO_6.out) gb217 (Nat.le_of_eq hg.symm)) hb); have n1_ := Aside0.mk (Kd.R_below (ra_ HO216) hb); have n2_ := bb_ BK205 hb; have n3_ := bb_ BK206 hb; have n4_ := Aside0.mk (below_step (bw_ w) hb); have n5_ := Aside0.mk (hbox); have n6_ := gz_ w hg; have n7_ := gz_ w hg; have n8_ := ne_ hg BK205; have n9_ := en_ hg BK205; have n10_ := ne_ hg BK206; have n11_ := en_ hg BK206; clear HO_6; clear HO216; clear BK205; clear BK206; clear HB; have HO_6 := n0_; have HO216 := n1_; have BK205 := n2_; have BK206 := n3_; have HB := n4_; have BK217 := n5_; have GW217 := n6_; have GE217 := n7_; have NB205_217 := n8_; have NB217_205 := n9_; have NB206_217 := n10_; have NB217_206 := n11_; clear n0_ n1_ n2_ n3_ n4_ n5_ n6_ n7_ n8_ n9_ n10_ n11_; clear hb hbox hg; have hnb26 := NB217_205.out; have hnc26 := NB205_217.out; have hnb27 := NB217_206.out; have hnc27 := NB206_217.out; obtain ⟨hcz28_0, hcz28_1, hcz28_2, hfz28_0, hfz28_1, hfz28_2⟩ := bc3_ (w := w25) BK217; obtain ⟨Ao29, co29, eo29⟩ := Kd.R_slice HO216.out; subst eo29))
       go_loopg [10, 11] k2 (fun kq v10 v11 w' => ∃ (x10_3 : Bool) (x11_3 : Int), v10 = .bool x10_3 ∧ v11 = .int .i64 x11_3 ∧ Aside0 (spec_AnyWayPlaces.l1 kq x6_2 x7_2 x8_2 x10_3 x11_3 a0_0 a0_1 l0_2 a1_0 a1_1 l1_2 t212 t213 t214 = some (r1, r2)) ∧ Aside0 (kq ≤ k2) ∧ Aside0 (Kd.S k26 26 w' w.heap.size (fun k_ => some k_ ≠ ((.slice Ao29 t214.length co29) : Value).ownBlock ∧ k_ ≠ gb205 ∧ k_ ≠ gb206 ∧ k_ ≠ gb217) u6 x6_2) ∧ Aside0 (Kd.R (Kd.int .i64) 3 w' w.heap.size (fun _ => True) (.slice Ao29 t214.length co29) t214) ∧ Aside0 (w'.heap[gb205]? = some (.cells #[.int .i64 a0_0, .int .i64 a0_1, (.slice A0_2 l0_2.length c0_2)] 26 (0, 0))) ∧ Aside0 (w'.heap[gb206]? = some (.cells #[.int .i64 a1_0, .int .i64 a1_1, (.slice A1_2 l1_2.length c1_2)] 26 (0, 0))) ∧ Aside0 (w'.heap[gb217]? = some (.cells #[.int .i64 t212, .int .i64 t213, (.slice Ao29 t214.length co29)] 26 (0, 0))) ∧ Aside0 (Below w.heap.size w w'))
       case atStart => exact ⟨(false), (0), (by first | rfl | (simp; done) | (simp [*]; done)), (by first | rfl | (simp; done) | (simp [*]; done)), H', ⟨Nat.le_refl _⟩, ⟨by (with_reducible repeat (first | apply Kd.S_alloc | apply Kd.S_drewN | apply Kd.S_drew)); exact Kd.S_mono (Kd.S_far (p := ⟨gb217, 2, none⟩) (Kd.S_far (p := ⟨gb217, 1, none⟩) (Kd.S_far (p := ⟨gb217, 0, none⟩) (Kd.S_mono HO_6.out (fun k_ hk => (⟨hk, hk.2⟩ : _ ∧ k_ ≠ gb217))) (fun _ hk => hk.2) (.int .i64 t212)) (fun _ hk => hk.2) (.int .i64 t213)) (fun _ hk => hk.2) (.slice Ao29 t214.length co29)) (fun _ hk => ⟨hk.1.1.2, ⟨hk.1.1.1.1, ⟨hk.1.1.1.2, hk.1.2⟩⟩⟩)⟩, ⟨by exact rf_ (Kd.R_types HO216.out BK217.out (by decide)) (fun _ hk => trivial)⟩, ⟨bk_ BK205⟩, ⟨bk_ BK206⟩, ⟨bq_ BK217⟩, ⟨(bw_ w)⟩⟩
       case round =>
        clear H'
        try clear c1
        try clear c2
        try clear p2
        try clear c5
        try clear c7
        try clear c9
        try clear c14
        try clear c17
        try clear c20
        try clear c20b0
        try clear c22
        try clear c26
        try clear c27
        try clear hcz10_0
        try clear hcz10_1
        try clear hcz10_2
        try clear hcz12_0
        try clear hcz12_1
        try clear hcz12_2
        try clear hcz15_0
        try clear hcz15_1
        try clear hcz15_2
        try clear hcz23_0
        try clear hcz23_1
        try clear hcz23_2
        try clear hcz28_0
        try clear hcz28_1
        try clear hcz28_2
        try clear hfz10_0
        try clear hfz10_1
        try clear hfz10_2
        try clear hfz12_0
        try clear hfz12_1
        try clear hfz12_2
        try clear hfz15_0
        try clear hfz15_1
        try clear hfz15_2
        try clear hfz23_0
        try clear hfz23_1
        try clear hfz23_2
        try clear hfz28_0
        try clear hfz28_1
        try clear hfz28_2
        try clear p2
        obtain ⟨x10_3, x11_3, rfl, rfl, HA, HK3, HO_6, HO_218002, BK205, BK206, BK217, HB⟩ := hrel
        cases gk with
        | zero => exact absurd HA.out (by simp [spec_AnyWayPlaces.l1])
        | succ k3 =>
         have H := HA.out
         clear HA
         simp only [spec_AnyWayPlaces.l1] at H
         by_cases c30 : x11_3 < (x6_2.length : Int)
         ·rw [if_pos c30] at H
          have c30b0 : decide (x11_3 < (x6_2.length : Int)) = true := decide_eq_true c30
          clear c30
          by_cases c31 : x10_3 = true
          ·subst c31
           have H1 : (spec_AnyWayPlaces.l1 k3 x6_2 x7_2 x8_2 true (wrap64 (x11_3 + 1)) a0_0 a0_1 l0_2 a1_0 a1_1 l1_2 t212 t213 t214) = some (r1, r2) := by rw [if_pos rfl] at H; exact H
           clear H
           have H := H1
           clear H1
           have H' := Aside0.mk H
           clear H
           obtain ⟨Ao32, co32, eo32⟩ := Kd.S_slice HO_6.out
           subst eo32
           try go_wp2
           replace HO_6 := Aside0.mk (Kd.S_drew HO_6.out)
           replace HO_218002 := Aside0.mk (Kd.R_drew HO_218002.out)
           replace BK205 := Aside0.mk (blk_drew BK205.out)
           replace BK206 := Aside0.mk (blk_drew BK206.out)
           replace BK217 := Aside0.mk (blk_drew BK217.out)
           replace HB := Aside0.mk (below_drew1 HB.out)
           refine start_ (n := 10) (S := fun w' => True) (ds := []) #[false, false, false, false, false, false, false, false, false, false] (by kernel_rfl) rfl rfl trivial (fun hHeld => ?_); refine with_tabW spec_AnyWayPlaces.tab11 spec_AnyWayPlaces.bits11 (fun HT_ HW_ => ?_)
           generalize wr.drew = w33 at HO_6 HO_218002 BK205 BK206 BK217 HB hHeld ⊢
           refine pureA (N := some 34) 0 HT_ ?_
           refine pureA (N := some 35) 1 HT_ ?_
           refine pure_ (i := 2) (N := some 36) (v := undef) (a' := ?_) #[true, true, true, false, false, false, false, false, false, false] rfl rfl (any_of HT_.out (by kernel_rfl)) (fun _ _ _ h => h) (Or.inr ⟨by rfl, rfl⟩) ?_ ?_
           rotate_left
           ·simp only [Act.put, List.setIfInBounds_toArray, List.set_cons_zero, List.set_cons_succ, i64_w, i32_w]
            rfl
           refine pure_ (i := 3) (N := some 37) (v := undef) (a' := ?_) #[true, true, true, true, false, false, false, false, false, false] rfl rfl (any_of HT_.out (by kernel_rfl)) (fun _ _ _ h => h) (Or.inr ⟨by rfl, rfl⟩) ?_ ?_
           rotate_left
           ·simp only [Act.put, List.setIfInBounds_toArray, List.set_cons_zero, List.set_cons_succ, i64_w, i32_w]
            rfl
           refine pure_ (i := 4) (N := some 38) (v := undef) (a' := ?_) #[true, true, true, true, true, false, false, false, false, false] rfl rfl (any_of HT_.out (by kernel_rfl)) (fun _ _ _ h => h) (Or.inr ⟨by rfl, rfl⟩) ?_ ?_
           rotate_left
           ·simp only [Act.put, List.setIfInBounds_toArray, List.set_cons_zero, List.set_cons_succ, i64_w, i32_w]
            rfl
           refine pure_ (i := 5) (N := some 39) (v := undef) (a' := ?_) #[true, true, true, true, true, true, false, false, false, false] rfl rfl (any_of HT_.out (by kernel_rfl)) (fun _ _ _ h => h) (Or.inr ⟨by rfl, rfl⟩) ?_ ?_
           rotate_left
           ·simp only [Act.put, List.setIfInBounds_toArray, List.set_cons_zero, List.set_cons_succ, i64_w, i32_w]
            rfl
           refine pure_ (i := 6) (N := some 40) (v := undef) (a' := ?_) #[true, true, true, true, true, true, true, false, false, false] rfl rfl (any_of HT_.out (by kernel_rfl)) (fun _ _ _ h => h) (Or.inr ⟨by rfl, rfl⟩) ?_ ?_
           rotate_left
           ·simp only [Act.put, List.setIfInBounds_toArray, List.set_cons_zero, List.set_cons_succ, i64_w, i32_w]
            rfl
           refine pure_ (i := 7) (N := some 41) (v := undef) (a' := ?_) #[true, true, true, true, true, true, true, true, false, false] rfl rfl (any_of HT_.out (by kernel_rfl)) (fun _ _ _ h => h) (Or.inr ⟨by rfl, rfl⟩) ?_ ?_
           rotate_left
           ·simp only [Act.put, List.setIfInBounds_toArray, List.set_cons_zero, List.set_cons_succ, i64_w, i32_w]
            rfl
           refine pureA (N := some 42) 8 HT_ ?_
           refine pureA (N := some 10) 9 HT_ ?_
           refine done_ (done_of HT_.out (by kernel_rfl)) ?_
           try go_wp2
           go_roundg k3
           case measure => have := HJ2.out; have := HK2.out; have := HK3.out; omega
           case rel => exact ⟨(true), (wrap64 (x11_3 + 1)), (by first | rfl | (simp; done) | (simp [*]; done)), (by first | rfl | (simp; done) | (simp [*]; done)), H', ⟨by have := HJ2.out; have := HK2.out; have := HK3.out; omega⟩, ⟨by (with_reducible repeat (first | apply Kd.S_alloc | apply Kd.S_drewN | apply Kd.S_drew)); exact HO_6.out⟩, ⟨ra_ HO_218002⟩, ⟨bk_ BK205⟩, ⟨bk_ BK206⟩, ⟨bk_ BK217⟩, ⟨(bw_ w)⟩⟩
          ·replace c31 := Bool.eq_false_iff.mpr c31
           subst c31
           have H1 : (if 0 ≤ x11_3 then ((spec_l4Same.f k3 ((rd_T26 x6_2 x11_3).f0) ((rd_T26 x6_2 x11_3).f1) ((rd_T26 x6_2 x11_3).f2) t212 t213 t214).bind fun t219 => (spec_AnyWayPlaces.l1 k3 x6_2 x7_2 x8_2 t219 (wrap64 (x11_3 + 1)) a0_0 a0_1 l0_2 a1_0 a1_1 l1_2 t212 t213 t214)) else (none)) = some (r1, r2) := by rw [if_neg (show ¬ (false = true) by decide)] at H; exact H
           clear H
           have H := H1
           clear H1
           by_cases c34 : 0 ≤ x11_3
           ·rw [if_pos c34] at H
            have c34b0 : decide (0 ≤ x11_3) = true := decide_eq_true c34
            clear c34
            replace H := Option.bind_eq_some_iff.mp H
            obtain ⟨t219, A350, H⟩ := H
            replace H : (spec_AnyWayPlaces.l1 k3 x6_2 x7_2 x8_2 t219 (wrap64 (x11_3 + 1)) a0_0 a0_1 l0_2 a1_0 a1_1 l1_2 t212 t213 t214) = some (r1, r2) := H
            have A35 := Aside0.mk A350
            clear A350
            have H' := Aside0.mk H
            clear H
            obtain ⟨Ao36, co36, eo36⟩ := Kd.S_slice HO_6.out
            subst eo36
            try go_wp2
            replace HO_6 := Aside0.mk (Kd.S_drew HO_6.out)
            replace HO_218002 := Aside0.mk (Kd.R_drew HO_218002.out)
            replace BK205 := Aside0.mk (blk_drew BK205.out)
            replace BK206 := Aside0.mk (blk_drew BK206.out)
            replace BK217 := Aside0.mk (blk_drew BK217.out)
            replace HB := Aside0.mk (below_drew1 HB.out)
            have p218 : 0 ≤ (x11_3 : Int) := of_decide_eq_true (by first | (with_reducible assumption) | assumption)
            have q218 : x11_3 < (x6_2.length : Int) := of_decide_eq_true (by first | (with_reducible assumption) | assumption)
            obtain ⟨ad218, A218_2, c218_2, e218, hx218_0, hx218_1, hx218_2, hl218_2, hi218_2⟩ := at_T26 (Kd.S_reads' HO_6.out).2.2 x11_3 p218 q218
            cases e218
            obtain ⟨ce218, hce218, hMe218, hcc218⟩ := Kd.S_get HO_6.out z26 x11_3 p218 (by first | exact q218 | exact of_decide_eq_true (by first | (with_reducible assumption) | assumption) | (have e_ := (Kd.S_reads' HO_6.out).1; omega))
            obtain ⟨ve218_2, rfl, ge218_2⟩ := k26_openM hMe218
            have hv218_2 := hcc218 2 _ rfl
            rw [add_field _ _ 2 (by omega)] at hv218_2
            replace hv218_2 := Option.some.inj (hv218_2.symm.trans hx218_2)
            rw [hv218_2] at ge218_2
            have HL218_2 := Aside0.mk (show Kd.R (Kd.int .i64) 3 _ _ _ _ ((rd_T26 x6_2 x11_3).f2) from ge218_2)
            clear hv218_2 ge218_2
            clear hcc218 hce218
            have HR218_2 := Aside0.mk hi218_2
            have HC218_2 := Aside0.mk hl218_2
            clear hi218_2 hl218_2
            replace p218 := eq_true p218
            replace q218 := eq_true q218
            refine start_ (n := 10) (S := fun w' => w'.cell? ⟨gb217, 0, none⟩ = some (.int .i64 t212) ∧ w'.cell? ⟨gb217, 1, none⟩ = some (.int .i64 t213) ∧ w'.cell? ⟨gb217, 2, none⟩ = some (.slice Ao29 t214.length co29) ∧ w'.cell? (ad218.add ((x11_3).toNat * 3)) = some (.int .i64 ((rd_T26 x6_2 x11_3).f0)) ∧ w'.cell? ⟨(ad218.add ((x11_3).toNat * 3)).block, (ad218.add ((x11_3).toNat * 3)).off + 1, none⟩ = some (.int .i64 ((rd_T26 x6_2 x11_3).f1)) ∧ w'.cell? ⟨(ad218.add ((x11_3).toNat * 3)).block, (ad218.add ((x11_3).toNat * 3)).off + 2, none⟩ = some (.slice A218_2 ((rd_T26 x6_2 x11_3).f2).length c218_2)) (ds := []) #[false, false, false, false, false, false, false, false, false, false] (by kernel_rfl) rfl rfl ⟨bc_ BK217 0, bc_ BK217 1, bc_ BK217 2, hx218_0, hx218_1, hx218_2⟩ (fun hHeld => ?_); refine with_tabW spec_AnyWayPlaces.tab11 spec_AnyWayPlaces.bits11 (fun HT_ HW_ => ?_)
            generalize wr.drew = w37 at HO_6 HO_218002 BK205 BK206 BK217 HB HL218_2 HR218_2 hx218_0 hx218_1 hx218_2 hHeld ⊢
            refine pureA (N := some 34) 0 HT_ ?_
            refine pureA (N := some 35) 1 HT_ ?_
            refine pureA (N := some 36) 2 HT_ ?_
            refine pureA (N := some 37) 3 HT_ ?_
            refine pureA (N := some 38) 4 HT_ ?_
            refine takeA (N := some 39) 5 HT_ HW_ hHeld ?_
            refine takeA (N := some 40) 6 HT_ HW_ hHeld ?_
            refine oneA (N := some 41) 7 HT_ (fun K hK => ?_)
            refine goesA Try.func77 #[.agg #[.int .i64 ((rd_T26 x6_2 x11_3).f0), .int .i64 ((rd_T26 x6_2 x11_3).f1), .slice A218_2 ((rd_T26 x6_2 x11_3).f2).length c218_2], .agg #[.int .i64 t212, .int .i64 t213, .slice Ao29 t214.length co29]] ?_
            with_reducible refine (spec_l4Same.calls k3 ((rd_T26 x6_2 x11_3).f0) ((rd_T26 x6_2 x11_3).f1) _ _ ((rd_T26 x6_2 x11_3).f2) t212 t213 _ _ t214 t219 _ ?side1 ?side2 ?side3 ?side4 A35.out).mono ?_
            (case side1 => repeat (first | exact (by repeat (first | (with_reducible exact HR218_2.out) | (with_reducible refine Kd.C_alloc ?_ _) | (with_reducible refine Kd.C_drewN ?_ _) | (with_reducible refine Kd.C_drew ?_) | exact HR218_2.out)) | (with_reducible refine Kd.C_alloc ?_ _) | (with_reducible refine Kd.C_drewN ?_ _) | (with_reducible refine Kd.C_drew ?_)))
            (case side2 => exact HC218_2.out)
            (case side3 => exact co_ (Kd.R_reads' HO_218002.out).2.2)
            (case side4 => exact (Kd.R_reads' HO_218002.out).2.1)
            rintro e w38 ⟨rfl, hb⟩
            have HS3_ := (hb.cell (World.block_lt_of_cell? _ _ (hHeld.2.2.2.1))).trans (hHeld.2.2.2.1)
            have HS4_ := (hb.cell (World.block_lt_of_cell? _ _ (hHeld.2.2.2.2.1))).trans (hHeld.2.2.2.2.1)
            have HS5_ := (hb.cell (World.block_lt_of_cell? _ _ (hHeld.2.2.2.2.2))).trans (hHeld.2.2.2.2.2)
            refine ⟨_, rfl, ?_⟩
            have n0_ := Aside0.mk (Kd.S_below (by (with_reducible repeat (first | apply Kd.S_alloc | apply Kd.S_drewN | apply Kd.S_drew)); exact HO_6.out) hb)
            have n1_ := Aside0.mk (Kd.R_below (ra_ HO_218002) hb)
            have n2_ := Aside0.mk (Kd.R_below (by (with_reducible repeat (first | apply Kd.R_alloc | apply Kd.R_drewN | apply Kd.R_drew)); exact HL218_2.out) hb)
            have n3_ := bb_ BK205 hb
            have n4_ := bb_ BK206 hb
            have n5_ := bb_ BK217 hb
            have n6_ := Aside0.mk (Kd.C_below (by repeat (first | (with_reducible exact HR218_2.out) | (with_reducible refine Kd.C_alloc ?_ _) | (with_reducible refine Kd.C_drewN ?_ _) | (with_reducible refine Kd.C_drew ?_) | exact HR218_2.out)) hb)
            have n7_ := Aside0.mk (below_step (bw_ w) hb)
            clear HO_6
            clear HO_218002
            clear HL218_2
            clear BK205
            clear BK206
            clear BK217
            clear HR218_2
            clear HB
            have HO_6 := n0_
            have HO_218002 := n1_
            have HL218_2 := n2_
            have BK205 := n3_
            have BK206 := n4_
            have BK217 := n5_
            have HR218_2 := n6_
            have HB := n7_
            clear n0_ n1_ n2_ n3_ n4_ n5_ n6_ n7_
            (try clear hb)
            (try clear hb2)
            (try clear hk)
            (try clear hi)
            refine hK.out _ _ ⟨bc_ BK217 0, bc_ BK217 1, bc_ BK217 2, HS3_, HS4_, HS5_⟩ (fun hHeld => ?_)
            clear hK K
            refine normA (N := some 41) ?_
            refine pureA (N := some 42) 8 HT_ ?_
            refine pureA (N := some 10) 9 HT_ ?_
            refine done_ (done_of HT_.out (by kernel_rfl)) ?_
            try go_wp2
            go_roundg k3
            case measure => have := HJ2.out; have := HK2.out; have := HK3.out; omega
            case rel => exact ⟨(t219), (wrap64 (x11_3 + 1)), (by first | rfl | (simp; done) | (simp [*]; done)), (by first | rfl | (simp; done) | (simp [*]; done)), H', ⟨by have := HJ2.out; have := HK2.out; have := HK3.out; omega⟩, ⟨by (with_reducible repeat (first | apply Kd.S_alloc | apply Kd.S_drewN | apply Kd.S_drew)); exact HO_6.out⟩, ⟨ra_ HO_218002⟩, ⟨bk_ BK205⟩, ⟨bk_ BK206⟩, ⟨bk_ BK217⟩, ⟨(bw_ w)⟩⟩
           ·rw [if_neg c34] at H
            exact absurd H (by simp)
         ·rw [if_neg c30] at H
          have c30b0 : decide (x11_3 < (x6_2.length : Int)) = false := decide_eq_false c30
          clear c30
          by_cases c39 : x10_3 = true
          ·subst c39
           have H1 : (spec_AnyWayPlaces.l0 k3 x6_2 x7_2 (wrap64 (x8_2 + 1)) a0_0 a0_1 l0_2 a1_0 a1_1 l1_2) = some (r1, r2) := by rw [if_pos rfl] at H; exact H
           clear H
           have H := H1
           clear H1
           have H' := Aside0.mk H
           clear H
           obtain ⟨Ao40, co40, eo40⟩ := Kd.S_slice HO_6.out
           subst eo40
           go_wp2
           go_roundg k3
           case measure => have := HJ2.out; have := HK2.out; have := HK3.out; omega
           case rel => exact ⟨(x6_2), (x7_2), (wrap64 (x8_2 + 1)), (by first | rfl | (simp; done) | (simp [*]; done)), (by first | rfl | (simp; done) | (simp [*]; done)), H', ⟨by have := HJ2.out; have := HK2.out; have := HK3.out; omega⟩, ⟨by (with_reducible repeat (first | apply Kd.S_alloc | apply Kd.S_drewN | apply Kd.S_drew)); exact Kd.S_mono HO_6.out (fun _ hk => ⟨hk.2.1, hk.2.2.1⟩)⟩, ⟨bk_ BK205⟩, ⟨bk_ BK206⟩, ⟨(bw_ w)⟩⟩
          ·replace c39 := Bool.eq_false_iff.mpr c39
           subst c39
           have H1 : (if x6_2.length < 3518437208883 then ((spec_l6Places.f k3 a0_0 a0_1 l0_2 t212 t213 t214).bind fun t224 => (spec_AnyWayPlaces.l0 k3 (x6_2 ++ [(⟨t212, t213, t214⟩ : S26)]) (wrap64 (x7_2 + (t224.length : Int))) (wrap64 (x8_2 + 1)) a0_0 a0_1 l0_2 a1_0 a1_1 l1_2)) else (none)) = some (r1, r2) := by rw [if_neg (show ¬ (false = true) by decide)] at H; exact H
           clear H
           have H := H1
           clear H1
           by_cases c41 : x6_2.length < 3518437208883
           ·rw [if_pos c41] at H
            have LMc41 := Aside0.mk c41
            clear c41
            obtain ⟨y220, hy220⟩ : ∃ y_ : List (S26), y_ = (x6_2 ++ [(⟨t212, t213, t214⟩ : S26)]) := ⟨_, rfl⟩
            replace H : ((spec_l6Places.f k3 a0_0 a0_1 l0_2 t212 t213 t214).bind fun t224 => (spec_AnyWayPlaces.l0 k3 y220 (wrap64 (x7_2 + (t224.length : Int))) (wrap64 (x8_2 + 1)) a0_0 a0_1 l0_2 a1_0 a1_1 l1_2)) = some (r1, r2) := by first | (rw [hy220]; with_reducible exact H) | (have H2_ := (Option.bind_some _ _).symm.trans H; rw [hy220]; with_reducible exact H2_) | (have H2_ := (Option.bind_some _ _).symm.trans H; with_reducible exact H2_) | with_reducible exact H | (rw [hy220]; exact H) | exact H
            have Ny220 := Aside0.mk hy220
            clear hy220
            replace H := Option.bind_eq_some_iff.mp H
            obtain ⟨t224, A420, H⟩ := H
            replace H : (spec_AnyWayPlaces.l0 k3 y220 (wrap64 (x7_2 + (t224.length : Int))) (wrap64 (x8_2 + 1)) a0_0 a0_1 l0_2 a1_0 a1_1 l1_2) = some (r1, r2) := H
            have A42 := Aside0.mk A420
            clear A420
            have H' := Aside0.mk H
            clear H
            obtain ⟨Ao43, co43, eo43⟩ := Kd.S_slice HO_6.out
            subst eo43
            have hnb44 := NB217_205.out
            have hnc44 := NB205_217.out
            have hnb45 := NB217_206.out
            have hnc45 := NB206_217.out
            obtain ⟨hcz46_0, hcz46_1, hcz46_2, hfz46_0, hfz46_1, hfz46_2⟩ := bc3_ (w := wr) BK217
            go_wp2_with (first | ((with_reducible refine gate_builtin (b := .append) (xs := #[.tmp 45, .tmp 47]) rfl ?_); at_builtin; refine Kd.S_append k26 (w0 := w) w.heap.size rfl (.tmp 45) (.tmp 47) 94 26 (.agg #[(.int .i64 0), (.int .i64 0), (.slice none 0 0)]) 40 rfl Try.underlying94 info26 rfl (by decide) (by omega) (.slice Ao43 x6_2.length co43) x6_2 (⟨t212, t213, t214⟩ : S26) [.int .i64 t212, .int .i64 t213, .slice Ao29 t214.length co29] (fun k_ => k_ ≠ gb205 ∧ k_ ≠ gb206 ∧ k_ ≠ gb217) (fun k_ => some k_ = (.slice Ao29 t214.length co29 : Value).ownBlock) rfl rfl ?aP (fun k_ hk_ => ((Kd.R_mono (ok' := fun k_ => ((fun k_ => k_ ≠ gb205 ∧ k_ ≠ gb206 ∧ k_ ≠ gb217)) k_ ∧ some k_ ≠ (.slice Ao43 x6_2.length co43 : Value).ownBlock) (Kd.R_types (Kd.R_types (Kd.R_types (Kd.R_apart' (HO_218002.out) (Kd.S_typed HO_6.out) (by decide)) BK205.out (by decide)) BK206.out (by decide)) BK217.out (by decide)) (fun k_ hk => ⟨⟨hk.1.1.2, ⟨hk.1.2, hk.2⟩⟩, hk.1.1.1.2⟩))).1 k_ hk_.symm) ?aF ?aO ?aB ?aS ?aL ?_; (case aP => exact k26_mkM _ _ _ (⟨t212, t213, t214⟩ : S26) (Kd.R_mono (Kd.R_tight rfl (Kd.R_mono (ok' := fun k_ => ((fun k_ => k_ ≠ gb205 ∧ k_ ≠ gb206 ∧ k_ ≠ gb217)) k_ ∧ some k_ ≠ (.slice Ao43 x6_2.length co43 : Value).ownBlock) (Kd.R_types (Kd.R_types (Kd.R_types (Kd.R_apart' (HO_218002.out) (Kd.S_typed HO_6.out) (by decide)) BK205.out (by decide)) BK206.out (by decide)) BK217.out (by decide)) (fun k_ hk => ⟨⟨hk.1.1.2, ⟨hk.1.2, hk.2⟩⟩, hk.1.1.1.2⟩))) (fun _ h_ => h_))); (case aB => exact (bw_ w)); (case aF => exact (fun k_ hk => ⟨Kd.freshB (g := gb205) (o := .cells #[.int .i64 a0_0, .int .i64 a0_1, .slice A0_2 l0_2.length c0_2] 26 (0, 0)) (bk_ BK205) k_ hk, Kd.freshB (g := gb206) (o := .cells #[.int .i64 a1_0, .int .i64 a1_1, .slice A1_2 l1_2.length c1_2] 26 (0, 0)) (bk_ BK206) k_ hk, Kd.freshB (g := gb217) (o := .cells #[.int .i64 t212, .int .i64 t213, .slice Ao29 t214.length co29] 26 (0, 0)) (bk_ BK217) k_ hk⟩)); (case aO => exact (by (with_reducible repeat (first | apply Kd.S_alloc | apply Kd.S_drewN | apply Kd.S_drew)); exact Kd.S_mono HO_6.out (fun k_ hk => ⟨⟨hk.2.1, ⟨hk.2.2.1, hk.2.2.2⟩⟩, fun e_ => hk.1 e_⟩))); (case aS => exact (below_size (bw_ w))); (case aL => have := LMc41.out; omega); intro v221 w47 ho hb hg hat; rw [← Ny220.out] at ho; have n0_ := Aside0.mk ((Kd.R_reads' (Kd.R_over' (ra_ HO_218002) (Kd.S_typed (by (with_reducible repeat (first | apply Kd.S_alloc | apply Kd.S_drewN | apply Kd.S_drew)); exact HO_6.out)) (by decide) hg)).2.2); have n1_ := Aside0.mk ((Kd.R_reads' (Kd.R_over' (ra_ HO_218002) (Kd.S_typed (by (with_reducible repeat (first | apply Kd.S_alloc | apply Kd.S_drewN | apply Kd.S_drew)); exact HO_6.out)) (by decide) hg)).2.1); have n2_ := Aside0.mk (blk_grown (g := gb205) (o := .cells #[.int .i64 a0_0, .int .i64 a0_1, .slice A0_2 l0_2.length c0_2] 26 (0, 0)) (bk_ BK205) hg (Kd.S_away HO_6.out (fun _ hk => hk.2.1))); have n3_ := Aside0.mk (blk_grown (g := gb206) (o := .cells #[.int .i64 a1_0, .int .i64 a1_1, .slice A1_2 l1_2.length c1_2] 26 (0, 0)) (bk_ BK206) hg (Kd.S_away HO_6.out (fun _ hk => hk.2.2.1))); have n4_ := Aside0.mk (blk_grown (g := gb217) (o := .cells #[.int .i64 t212, .int .i64 t213, .slice Ao29 t214.length co29] 26 (0, 0)) (bk_ BK217) hg (Kd.S_away HO_6.out (fun _ hk => hk.2.2.2))); have n5_ := Aside0.mk (hb); have n6_ := Aside0.mk (ho); clear BK205; clear BK206; clear BK217; clear HB; clear HO_6; clear HO_218002; have HRg223 := n0_; have HCg223 := n1_; have BK205 := n2_; have BK206 := n3_; have BK217 := n4_; have HB := n5_; have HO222 := n6_; clear n0_ n1_ n2_ n3_ n4_ n5_ n6_; clear ho hb hg hat; have hnb48 := NB205_206.out; have hnc48 := NB206_205.out; obtain ⟨hcz49_0, hcz49_1, hcz49_2, hfz49_0, hfz49_1, hfz49_2⟩ := bc3_ (w := w47) BK205; obtain ⟨hcz50_0, hcz50_1, hcz50_2, hfz50_0, hfz50_1, hfz50_2⟩ := bc3_ (w := w47) BK217) | ((with_reducible refine gate_callee (f := 96) rfl ?_); refine goesB (some 52) Try.func96 #[.agg #[.int .i64 a0_0, .int .i64 a0_1, .slice A0_2 l0_2.length c0_2], .agg #[.int .i64 t212, .int .i64 t213, .slice Ao29 t214.length co29]] ?_; (with_reducible refine (spec_l6Places.calls k3 a0_0 a0_1 _ _ l0_2 t212 t213 _ _ t214 t224 _ ?side1 ?side2 ?side3 ?side4 A42.out).mono ?_); (case side1 => exact cb_ HR0_2 HB); (case side2 => exact HC0_2.out); (case side3 => repeat (first | exact (by repeat (first | (with_reducible exact HRg223.out) | (with_reducible refine Kd.C_alloc ?_ _) | (with_reducible refine Kd.C_drewN ?_ _) | (with_reducible refine Kd.C_drew ?_) | exact HRg223.out)) | (with_reducible refine Kd.C_alloc ?_ _) | (with_reducible refine Kd.C_drewN ?_ _) | (with_reducible refine Kd.C_drew ?_))); (case side4 => exact HCg223.out); rintro e w51 ⟨v225, rfl, ho0, hb⟩; refine ⟨_, rfl, ?_⟩; have n0_ := Aside0.mk (Kd.S_below (by (with_reducible repeat (first | apply Kd.S_alloc | apply Kd.S_drewN | apply Kd.S_drew)); exact HO222.out) hb); have n1_ := Aside0.mk (Kd.R_lower ho0 (below_size (bw_ w))); have n2_ := Aside0.mk (Kd.C_below (by repeat (first | (with_reducible exact HRg223.out) | (with_reducible refine Kd.C_alloc ?_ _) | (with_reducible refine Kd.C_drewN ?_ _) | (with_reducible refine Kd.C_drew ?_) | exact HRg223.out)) hb); have n3_ := bb_ BK205 hb; have n4_ := bb_ BK206 hb; have n5_ := bb_ BK217 hb; have n6_ := Aside0.mk (below_step (bw_ w) hb); clear HO222; clear HRg223; clear BK205; clear BK206; clear BK217; clear HB; have HO222 := n0_; have HO226 := n1_; have HRg223 := n2_; have BK205 := n3_; have BK206 := n4_; have BK217 := n5_; have HB := n6_; clear n0_ n1_ n2_ n3_ n4_ n5_ n6_; (try clear hb); (try clear hb2); (try clear hk); (try clear hi); (try clear ho0); obtain ⟨Ao52, co52, eo52⟩ := Kd.R_slice HO226.out; subst eo52))
            go_roundg k3
            case measure => have := HJ2.out; have := HK2.out; have := HK3.out; omega
            case rel => exact ⟨(y220), (wrap64 (x7_2 + (t224.length : Int))), (wrap64 (x8_2 + 1)), (by first | rfl | (simp; done) | (simp [*]; done)), (by first | rfl | (simp; done) | (simp [*]; done)), H', ⟨by have := HJ2.out; have := HK2.out; have := HK3.out; omega⟩, ⟨by (with_reducible repeat (first | apply Kd.S_alloc | apply Kd.S_drewN | apply Kd.S_drew)); exact Kd.S_mono HO222.out (fun _ hk => ⟨hk.1, hk.2.1⟩)⟩, ⟨bk_ BK205⟩, ⟨bk_ BK206⟩, ⟨(bw_ w)⟩⟩
           ·rw [if_neg c41] at H
            exact absurd H (by simp)
      ·rw [if_neg c20] at H
       have c20b0 : decide (x8_2 < 8) = false := decide_eq_false c20
       clear c20
       simp only [Option.some.injEq, Prod.mk.injEq] at H
       obtain ⟨rfl, rfl⟩ := H
       go_wp2
       go_ret2
       exact ⟨by first | rfl | (simp [errW_none, errW_some] <;> rfl) | (simp [*, errW_none, errW_some] <;> rfl), (bw_ w)⟩

/-! ### impl_in: function 67 -/
def impl_in.f (a0 : Int) (a1 : Int) (a2 : Int) : Option (Bool) := if a0 ≥ a1 then (some (decide (a0 ≤ a2))) else (some false)
set_option maxHeartbeats 8000000 in
set_option maxRecDepth 100000 in
theorem impl_in.calls (a0 : Int) (a1 : Int) (a2 : Int) (r : Bool) (w : World) (h : impl_in.f a0 a1 a2 = some r) :
  Calls Try.prog 67 #[.int .i64 a0, .int .i64 a1, .int .i64 a2] w fun e w' => e = .returned (.bool r) ∧ Drawn0 w w' := by
 have H : (if a0 ≥ a1 then (some (decide (a0 ≤ a2))) else (some false)) = some r := h
 clear h
 by_cases c4 : a0 ≥ a1
 ·rw [if_pos c4] at H
  have c4b0 : decide (a1 ≤ a0) = true := decide_eq_true c4
  clear c4
  obtain rfl := Option.some.inj H
  go_enter Try.func67, Try.ntmps67
  go_wp2
  go_ret
  exact ⟨by first | rfl | (simp; done) | (simp [*]; done), by repeat (first | exact Drawn0.refl _ | apply Drawn0.step)⟩
 ·rw [if_neg c4] at H
  have c4b0 : decide (a1 ≤ a0) = false := decide_eq_false c4
  clear c4
  obtain rfl := Option.some.inj H
  go_enter Try.func67, Try.ntmps67
  go_wp2
  go_ret
  exact ⟨by first | rfl | (simp; done) | (simp [*]; done), by repeat (first | exact Drawn0.refl _ | apply Drawn0.step)⟩

/-! ### impl_isColor: function 58 -/
def impl_isColor.f (a0 : Int) : Option (Bool) := (impl_in.f a0 0 5).bind fun t227 => (some t227)
set_option maxHeartbeats 8000000 in
set_option maxRecDepth 100000 in
theorem impl_isColor.calls (a0 : Int) (r : Bool) (w : World) (h : impl_isColor.f a0 = some r) :
  Calls Try.prog 58 #[.int .i64 a0] w fun e w' => e = .returned (.bool r) ∧ Drawn0 w w' := by
 have H : ((impl_in.f a0 0 5).bind fun t227 => (some t227)) = some r := h
 clear h
 replace H := Option.bind_eq_some_iff.mp H
 obtain ⟨t227, A20, H⟩ := H
 replace H : (some t227) = some r := H
 have A2 := Aside0.mk A20
 clear A20
 obtain rfl := Option.some.inj H
 go_enter Try.func58, Try.ntmps58
 go_wp2_with (first | ((with_reducible refine gate_callee (f := 67) rfl ?_); refine goesB (some 4) Try.func67 #[.int .i64 a0, .int .i64 0, .int .i64 5] ?_; (with_reducible refine (impl_in.calls a0 0 5 t227 _ A2.out).mono ?_); rintro e w' ⟨rfl, ⟨nd, rfl⟩⟩; refine ⟨_, rfl, ?_⟩))
 go_ret
 exact ⟨by first | rfl | (simp; done) | (simp [*]; done), by repeat (first | exact Drawn0.refl _ | apply Drawn0.step)⟩

-- NOT PRINTED: function 135 (slices_IndexFunc_int_int)

-- NOT PRINTED: function 121 (slices_ContainsFunc_int_int)

-- NOT PRINTED: function 88 (impl_areAll_int)

/-! ### impl_isSide: function 93 -/
def impl_isSide.f (a0 : Int) : Option (Bool) := (impl_in.f a0 1 8).bind fun t228 => (some t228)
set_option maxHeartbeats 8000000 in
set_option maxRecDepth 100000 in
theorem impl_isSide.calls (a0 : Int) (r : Bool) (w : World) (h : impl_isSide.f a0 = some r) :
  Calls Try.prog 93 #[.int .i64 a0] w fun e w' => e = .returned (.bool r) ∧ Drawn0 w w' := by
 have H : ((impl_in.f a0 1 8).bind fun t228 => (some t228)) = some r := h
 clear h
 replace H := Option.bind_eq_some_iff.mp H
 obtain ⟨t228, A20, H⟩ := H
 replace H : (some t228) = some r := H
 have A2 := Aside0.mk A20
 clear A20
 obtain rfl := Option.some.inj H
 go_enter Try.func93, Try.ntmps93
 go_wp2_with (first | ((with_reducible refine gate_callee (f := 67) rfl ?_); refine goesB (some 4) Try.func67 #[.int .i64 a0, .int .i64 1, .int .i64 8] ?_; (with_reducible refine (impl_in.calls a0 1 8 t228 _ A2.out).mono ?_); rintro e w' ⟨rfl, ⟨nd, rfl⟩⟩; refine ⟨_, rfl, ?_⟩))
 go_ret
 exact ⟨by first | rfl | (simp; done) | (simp [*]; done), by repeat (first | exact Drawn0.refl _ | apply Drawn0.step)⟩

/-! ### impl_areAll_int_1__isColor: function 122 -/
def impl_areAll_int_1__isColor.f (a0 : Int)  : Option (Bool) := (impl_isColor.f a0).bind fun t237 => (some (!t237))
set_option maxHeartbeats 8000000 in
set_option maxRecDepth 100000 in
theorem impl_areAll_int_1__isColor.calls (a0 : Int) (gb236 : Nat)  (r : Bool) (w : World) (hb236 : w.heap[gb236]? = some (.cells #[(.func (.func 58) #[] #[])] 44 (0, 0))) (h : impl_areAll_int_1__isColor.f a0 = some r) :
  Calls Try.prog 122 #[.int .i64 a0, .pointer (some ⟨gb236, 0, none⟩)] w fun e w' => e = .returned (.bool r) ∧ Below w.heap.size w w' := by
 have BK236 := Aside0.mk hb236
 clear hb236
 have HB := Aside0.mk (Below.refl w.heap.size w)
 have H : ((impl_isColor.f a0).bind fun t237 => (some (!t237))) = some r := h
 clear h
 replace H := Option.bind_eq_some_iff.mp H
 obtain ⟨t237, A30, H⟩ := H
 replace H : (some (!t237)) = some r := H
 have A3 := Aside0.mk A30
 clear A30
 obtain rfl := Option.some.inj H
 obtain ⟨hcz4_0, hfz4_0⟩ := bc1_ (w := w) BK236
 go_enter Try.func122, Try.ntmps122
 go_wp2_with (first | ((with_reducible refine gate_dst (N := 6) rfl ?_); refine goesV_ (some 6) rfl rfl Try.func58 (by kernel_rfl) rfl #[.int .i64 a0] rfl (by first | rfl | (simp [Act.eval]; done)) (by first | rfl | (simp [Act.eval]; done)) ?_; (with_reducible refine (impl_isColor.calls a0 t237 _ A3.out).mono ?_); rintro e w' ⟨rfl, ⟨nd, rfl⟩⟩; refine ⟨_, rfl, ?_⟩))
 go_ret
 exact ⟨by first | rfl | (simp [errW_none, errW_some] <;> rfl) | (simp [*, errW_none, errW_some] <;> rfl), (bw_ w)⟩

/-! ### slices_IndexFunc_int_int__areAll_int_1__isColor: function 135 -/
def slices_IndexFunc_int_int__areAll_int_1__isColor.l0 : Nat → List Int → Int → Int → Option (Int)
  | 0, _, _, _ => none
  | k + 1, x0, x7, x8 => if x8 < x7 then (if 0 ≤ x8 then (if x8 < (x0.length : Int) then ((impl_areAll_int_1__isColor.f (rd x0 x8)).bind fun t240 => (if t240 = true then (some x8) else (slices_IndexFunc_int_int__areAll_int_1__isColor.l0 k x0 x7 (wrap64 (x8 + 1))))) else (none)) else (none)) else (some (-1))
def slices_IndexFunc_int_int__areAll_int_1__isColor.f (k : Nat) (l0 : List Int)  : Option (Int) := slices_IndexFunc_int_int__areAll_int_1__isColor.l0 k l0 (l0.length : Int) 0
theorem slices_IndexFunc_int_int__areAll_int_1__isColor.mono_l : ∀ k, (∀ y0 y1 y2, LeO (slices_IndexFunc_int_int__areAll_int_1__isColor.l0 k y0 y1 y2) (slices_IndexFunc_int_int__areAll_int_1__isColor.l0 (k + 1) y0 y1 y2))
  | 0 => fun _ _ _ r h => by simp [slices_IndexFunc_int_int__areAll_int_1__isColor.l0] at h
  | k + 1 => by
    have ih0 := slices_IndexFunc_int_int__areAll_int_1__isColor.mono_l k
    · intro y0 y1 y2
      unfold slices_IndexFunc_int_int__areAll_int_1__isColor.l0
      repeat' first
      | (with_reducible exact ih0 _ _ _)
      | (with_reducible exact LeO.refl _)
      | (with_reducible exact LeO.none _)
      | (with_reducible refine LeO.ite ?_ ?_)
      | (with_reducible refine LeO.bind ?_ (fun _ => ?_))
      | exact ih0 _ _ _
      | exact LeO.none _
      | refine LeO.ite ?_ ?_
      | refine LeO.bind ?_ (fun _ => ?_)
theorem slices_IndexFunc_int_int__areAll_int_1__isColor.mono : ∀ a0 k, LeO (slices_IndexFunc_int_int__areAll_int_1__isColor.f k a0) (slices_IndexFunc_int_int__areAll_int_1__isColor.f (k + 1) a0) := by
  intro a0 k
  have ih0 := slices_IndexFunc_int_int__areAll_int_1__isColor.mono_l k
  unfold slices_IndexFunc_int_int__areAll_int_1__isColor.f
  repeat' first
      | (with_reducible exact ih0 _ _ _)
      | (with_reducible exact LeO.refl _)
      | (with_reducible exact LeO.none _)
      | (with_reducible refine LeO.ite ?_ ?_)
      | (with_reducible refine LeO.bind ?_ (fun _ => ?_))
      | exact ih0 _ _ _
      | exact LeO.none _
      | refine LeO.ite ?_ ?_
      | refine LeO.bind ?_ (fun _ => ?_)
set_option maxHeartbeats 8000000 in
set_option maxRecDepth 100000 in
theorem slices_IndexFunc_int_int__areAll_int_1__isColor.calls (k : Nat) (A0 : Option Addr) (c0 : Nat) (l0 : List Int) (gb238 : Nat)  (r : Int) (w : World) (hr0 : Kd.C (Kd.int .i64) w A0 l0.length l0) (hc0 : l0.length ≤ c0) (hb238 : w.heap[gb238]? = some (.cells #[(.func (.func 58) #[] #[])] 44 (0, 0))) (h : slices_IndexFunc_int_int__areAll_int_1__isColor.f k l0 = some r) :
  Calls Try.prog 135 #[.slice A0 l0.length c0, (.func (.func 122) #[] #[.pointer (some ⟨gb238, 0, none⟩)])] w fun e w' => e = .returned (.int .i64 r) ∧ Below w.heap.size w w' := by
 have HR0 := Aside0.mk hr0
 have HC0 := Aside0.mk hc0
 clear hr0 hc0
 have BK238 := Aside0.mk hb238
 clear hb238
 have HB := Aside0.mk (Below.refl w.heap.size w)
 have H : (slices_IndexFunc_int_int__areAll_int_1__isColor.l0 k l0 (l0.length : Int) 0) = some r := h
 clear h
 have H' := Aside0.mk H
 clear H
 go_enter Try.func135, Try.ntmps135
 go_wp2
 go_loopg [8] k (fun kq v8 w' => ∃ (x8_1 : Int), v8 = .int .i64 x8_1 ∧ Aside0 (slices_IndexFunc_int_int__areAll_int_1__isColor.l0 kq l0 (l0.length : Int) x8_1 = some r) ∧ Aside0 (kq ≤ k) ∧ Aside0 (w'.heap[gb238]? = some (.cells #[(.func (.func 58) #[] #[])] 44 (0, 0))) ∧ Aside0 (Below w.heap.size w w'))
 case atStart => exact ⟨(0), (by first | rfl | (simp; done) | (simp [*]; done)), H', ⟨Nat.le_refl _⟩, ⟨bk_ BK238⟩, ⟨(bw_ w)⟩⟩
 case round =>
  clear H'
  try clear c1
  try clear p2
  obtain ⟨x8_1, rfl, HA, HK1, BK238, HB⟩ := hrel
  cases gk with
  | zero => exact absurd HA.out (by simp [slices_IndexFunc_int_int__areAll_int_1__isColor.l0])
  | succ k1 =>
   have H := HA.out
   clear HA
   simp only [slices_IndexFunc_int_int__areAll_int_1__isColor.l0] at H
   by_cases c3 : x8_1 < (l0.length : Int)
   ·rw [if_pos c3] at H
    have c3b0 : decide (x8_1 < (l0.length : Int)) = true := decide_eq_true c3
    clear c3
    by_cases c4 : 0 ≤ x8_1
    ·rw [if_pos c4] at H
     have c4b0 : decide (0 ≤ x8_1) = true := decide_eq_true c4
     clear c4
     by_cases c5 : x8_1 < (l0.length : Int)
     ·rw [if_pos c5] at H
      have c5b0 : decide (x8_1 < (l0.length : Int)) = true := decide_eq_true c5
      clear c5
      replace H := Option.bind_eq_some_iff.mp H
      obtain ⟨t240, A60, H⟩ := H
      replace H : (if t240 = true then (some x8_1) else (slices_IndexFunc_int_int__areAll_int_1__isColor.l0 k1 l0 (l0.length : Int) (wrap64 (x8_1 + 1)))) = some r := H
      have A6 := Aside0.mk A60
      clear A60
      by_cases c7 : t240 = true
      ·subst c7
       have H1 : (some x8_1) = some r := by rw [if_pos rfl] at H; exact H
       clear H
       have H := H1
       clear H1
       obtain rfl := Option.some.inj H
       have p239 : 0 ≤ (x8_1 : Int) := of_decide_eq_true (by first | (with_reducible assumption) | assumption)
       have q239 : x8_1 < (l0.length : Int) := of_decide_eq_true (by first | (with_reducible assumption) | assumption)
       obtain ⟨ad239, e239, hx239_0⟩ := Kd.at_int HR0.out x8_1 p239 q239
       cases e239
       replace hx239_0 := (HB.out.cell (World.block_lt_of_cell? w _ hx239_0)).trans hx239_0
       replace p239 := eq_true p239
       replace q239 := eq_true q239
       go_wp2_with (first | ((with_reducible refine gate_dst (N := 16) rfl ?_); refine goesV_ (some 16) rfl rfl Try.func122 (by kernel_rfl) rfl #[.int .i64 (rd l0 x8_1), .pointer (some ⟨gb238, 0, none⟩)] rfl (by first | rfl | (simp [Act.eval]; done)) (by first | rfl | (simp [Act.eval]; done)) ?_; (with_reducible refine (impl_areAll_int_1__isColor.calls (rd l0 x8_1) gb238 true _ ?side1 A6.out).mono ?_); (case side1 => (with_reducible repeat (first | refine blk_drewN ?_ _ | refine blk_drew ?_ | refine blk_alloc ?_ _)); exact BK238.out); rintro e w8 ⟨rfl, hb⟩; refine ⟨_, rfl, ?_⟩; replace BK238 := bb_ BK238 hb; replace HB := Aside0.mk (below_step (bw_ w) hb); (try clear hb); (try clear hb2); (try clear hk); (try clear hi)))
       go_ret
       exact ⟨by first | rfl | (simp [errW_none, errW_some] <;> rfl) | (simp [*, errW_none, errW_some] <;> rfl), (bw_ w)⟩
      ·replace c7 := Bool.eq_false_iff.mpr c7
       subst c7
       have H1 : (slices_IndexFunc_int_int__areAll_int_1__isColor.l0 k1 l0 (l0.length : Int) (wrap64 (x8_1 + 1))) = some r := by rw [if_neg (show ¬ (false = true) by decide)] at H; exact H
       clear H
       have H := H1
       clear H1
       have H' := Aside0.mk H
       clear H
       have p239 : 0 ≤ (x8_1 : Int) := of_decide_eq_true (by first | (with_reducible assumption) | assumption)
       have q239 : x8_1 < (l0.length : Int) := of_decide_eq_true (by first | (with_reducible assumption) | assumption)
       obtain ⟨ad239, e239, hx239_0⟩ := Kd.at_int HR0.out x8_1 p239 q239
       cases e239
       replace hx239_0 := (HB.out.cell (World.block_lt_of_cell? w _ hx239_0)).trans hx239_0
       replace p239 := eq_true p239
       replace q239 := eq_true q239
       go_wp2_with (first | ((with_reducible refine gate_dst (N := 16) rfl ?_); refine goesV_ (some 16) rfl rfl Try.func122 (by kernel_rfl) rfl #[.int .i64 (rd l0 x8_1), .pointer (some ⟨gb238, 0, none⟩)] rfl (by first | rfl | (simp [Act.eval]; done)) (by first | rfl | (simp [Act.eval]; done)) ?_; (with_reducible refine (impl_areAll_int_1__isColor.calls (rd l0 x8_1) gb238 false _ ?side1 A6.out).mono ?_); (case side1 => (with_reducible repeat (first | refine blk_drewN ?_ _ | refine blk_drew ?_ | refine blk_alloc ?_ _)); exact BK238.out); rintro e w9 ⟨rfl, hb⟩; refine ⟨_, rfl, ?_⟩; replace BK238 := bb_ BK238 hb; replace HB := Aside0.mk (below_step (bw_ w) hb); (try clear hb); (try clear hb2); (try clear hk); (try clear hi)))
       go_roundg k1
       case measure => have := HK1.out; omega
       case rel => exact ⟨(wrap64 (x8_1 + 1)), (by first | rfl | (simp; done) | (simp [*]; done)), H', ⟨by have := HK1.out; omega⟩, ⟨bk_ BK238⟩, ⟨(bw_ w)⟩⟩
     ·rw [if_neg c5] at H
      exact absurd H (by simp)
    ·rw [if_neg c4] at H
     exact absurd H (by simp)
   ·rw [if_neg c3] at H
    have c3b0 : decide (x8_1 < (l0.length : Int)) = false := decide_eq_false c3
    clear c3
    obtain rfl := Option.some.inj H
    go_wp2
    go_ret
    exact ⟨by first | rfl | (simp [errW_none, errW_some] <;> rfl) | (simp [*, errW_none, errW_some] <;> rfl), (bw_ w)⟩

/-! ### slices_ContainsFunc_int_int__areAll_int_1__isColor: function 121 -/
def slices_ContainsFunc_int_int__areAll_int_1__isColor.f (k : Nat) (l0 : List Int)  : Option (Bool) := (slices_IndexFunc_int_int__areAll_int_1__isColor.f k l0).bind fun t242 => (some (decide (t242 ≥ 0)))
theorem slices_ContainsFunc_int_int__areAll_int_1__isColor.mono : ∀ a0 k, LeO (slices_ContainsFunc_int_int__areAll_int_1__isColor.f k a0) (slices_ContainsFunc_int_int__areAll_int_1__isColor.f (k + 1) a0) := by
  intro a0 k
  unfold slices_ContainsFunc_int_int__areAll_int_1__isColor.f
  repeat' first
      | (with_reducible exact slices_IndexFunc_int_int__areAll_int_1__isColor.mono _ _)
      | (with_reducible exact LeO.refl _)
      | (with_reducible exact LeO.none _)
      | (with_reducible refine LeO.ite ?_ ?_)
      | (with_reducible refine LeO.bind ?_ (fun _ => ?_))
      | exact slices_IndexFunc_int_int__areAll_int_1__isColor.mono _ _
      | exact LeO.none _
      | refine LeO.ite ?_ ?_
      | refine LeO.bind ?_ (fun _ => ?_)
set_option maxHeartbeats 8000000 in
set_option maxRecDepth 100000 in
theorem slices_ContainsFunc_int_int__areAll_int_1__isColor.calls (k : Nat) (A0 : Option Addr) (c0 : Nat) (l0 : List Int) (gb241 : Nat)  (r : Bool) (w : World) (hr0 : Kd.C (Kd.int .i64) w A0 l0.length l0) (hc0 : l0.length ≤ c0) (hb241 : w.heap[gb241]? = some (.cells #[(.func (.func 58) #[] #[])] 44 (0, 0))) (h : slices_ContainsFunc_int_int__areAll_int_1__isColor.f k l0 = some r) :
  Calls Try.prog 121 #[.slice A0 l0.length c0, (.func (.func 122) #[] #[.pointer (some ⟨gb241, 0, none⟩)])] w fun e w' => e = .returned (.bool r) ∧ Below w.heap.size w w' := by
 have HR0 := Aside0.mk hr0
 have HC0 := Aside0.mk hc0
 clear hr0 hc0
 have BK241 := Aside0.mk hb241
 clear hb241
 have HB := Aside0.mk (Below.refl w.heap.size w)
 have H : ((slices_IndexFunc_int_int__areAll_int_1__isColor.f k l0).bind fun t242 => (some (decide (t242 ≥ 0)))) = some r := h
 clear h
 replace H := Option.bind_eq_some_iff.mp H
 obtain ⟨t242, A30, H⟩ := H
 replace H : (some (decide (t242 ≥ 0))) = some r := H
 have A3 := Aside0.mk A30
 clear A30
 obtain rfl := Option.some.inj H
 go_enter Try.func121, Try.ntmps121
 go_wp2_with (first | ((with_reducible refine gate_callee (f := 135) rfl ?_); refine goesB (some 7) Try.func135 #[.slice A0 l0.length c0, (.func (.func 122) #[] #[.pointer (some ⟨gb241, 0, none⟩)])] ?_; (with_reducible refine (slices_IndexFunc_int_int__areAll_int_1__isColor.calls k _ _ l0 gb241 t242 _ ?side1 ?side2 ?side3 A3.out).mono ?_); (case side1 => repeat (first | exact HR0.out | (with_reducible refine Kd.C_alloc ?_ _) | (with_reducible refine Kd.C_drewN ?_ _) | (with_reducible refine Kd.C_drew ?_))); (case side2 => exact HC0.out); (case side3 => (with_reducible repeat (first | refine blk_drewN ?_ _ | refine blk_drew ?_ | refine blk_alloc ?_ _)); exact BK241.out); rintro e w4 ⟨rfl, hb⟩; refine ⟨_, rfl, ?_⟩; replace BK241 := bb_ BK241 hb; replace HB := Aside0.mk (below_step (bw_ w) hb); (try clear hb); (try clear hb2); (try clear hk); (try clear hi)))
 go_ret
 exact ⟨by first | rfl | (simp [errW_none, errW_some] <;> rfl) | (simp [*, errW_none, errW_some] <;> rfl), (bw_ w)⟩

/-! ### impl_areAll_int__isColor: function 88 -/
def impl_areAll_int__isColor.f (k : Nat) (l0 : List Int)  : Option (Bool) := (slices_ContainsFunc_int_int__areAll_int_1__isColor.f k l0).bind fun t244 => (some (!t244))
theorem impl_areAll_int__isColor.mono : ∀ a0 k, LeO (impl_areAll_int__isColor.f k a0) (impl_areAll_int__isColor.f (k + 1) a0) := by
  intro a0 k
  unfold impl_areAll_int__isColor.f
  repeat' first
      | (with_reducible exact slices_ContainsFunc_int_int__areAll_int_1__isColor.mono _ _)
      | (with_reducible exact LeO.refl _)
      | (with_reducible exact LeO.none _)
      | (with_reducible refine LeO.ite ?_ ?_)
      | (with_reducible refine LeO.bind ?_ (fun _ => ?_))
      | exact slices_ContainsFunc_int_int__areAll_int_1__isColor.mono _ _
      | exact LeO.none _
      | refine LeO.ite ?_ ?_
      | refine LeO.bind ?_ (fun _ => ?_)
set_option maxHeartbeats 8000000 in
set_option maxRecDepth 100000 in
theorem impl_areAll_int__isColor.calls (k : Nat) (A0 : Option Addr) (c0 : Nat) (l0 : List Int)  (r : Bool) (w : World) (hr0 : Kd.C (Kd.int .i64) w A0 l0.length l0) (hc0 : l0.length ≤ c0) (h : impl_areAll_int__isColor.f k l0 = some r) :
  Calls Try.prog 88 #[.slice A0 l0.length c0, (.func (.func 58) #[] #[])] w fun e w' => e = .returned (.bool r) ∧ Below w.heap.size w w' := by
 have hmf_ : ∀ (f_ : Fn) (a_ b_ : Array Value) (W_ : World), (Instr.makeFunc f_ a_ b_).run Try.prog W_ = .ok (.func f_ a_ b_) W_ := fun _ _ _ _ => rfl
 have HR0 := Aside0.mk hr0
 have HC0 := Aside0.mk hc0
 clear hr0 hc0
 have HB := Aside0.mk (Below.refl w.heap.size w)
 have H : ((slices_ContainsFunc_int_int__areAll_int_1__isColor.f k l0).bind fun t244 => (some (!t244))) = some r := h
 clear h
 replace H := Option.bind_eq_some_iff.mp H
 obtain ⟨t244, A30, H⟩ := H
 replace H : (some (!t244)) = some r := H
 have A3 := Aside0.mk A30
 clear A30
 obtain rfl := Option.some.inj H
 go_enter Try.func88, Try.ntmps88
 go_wp2_with (first | ((with_reducible refine gate_dst (N := 3) rfl ?_); refine box_ (N := 3) (cs := #[(.func (.func 58) #[] #[])]) (t := 44) ?_; intro gb243 hg w4 hbox hb; have BK243 := Aside0.mk (hbox); have GW243 := gz_ w hg; have GE243 := gz_ w hg; replace HB := Aside0.mk (below_step (bw_ w) hb); clear hb hbox hg) | ((with_reducible refine gate_callee (f := 121) rfl ?_); refine goesB (some 7) Try.func121 #[.slice A0 l0.length c0, (.func (.func 122) #[] #[.pointer (some ⟨gb243, 0, none⟩)])] ?_; (with_reducible refine (slices_ContainsFunc_int_int__areAll_int_1__isColor.calls k _ _ l0 gb243 t244 _ ?side1 ?side2 ?side3 A3.out).mono ?_); (case side1 => exact cb_ HR0 HB); (case side2 => exact HC0.out); (case side3 => (with_reducible repeat (first | refine blk_drewN ?_ _ | refine blk_drew ?_ | refine blk_alloc ?_ _)); exact BK243.out); rintro e w5 ⟨rfl, hb⟩; refine ⟨_, rfl, ?_⟩; replace BK243 := bb_ BK243 hb; replace HB := Aside0.mk (below_step (bw_ w) hb); (try clear hb); (try clear hb2); (try clear hk); (try clear hi)))
 go_ret
 exact ⟨by first | rfl | (simp [errW_none, errW_some] <;> rfl) | (simp [*, errW_none, errW_some] <;> rfl), (bw_ w)⟩

end Go.Proofs.Yteiaakppjcpgcaa.PFnExactAnyWayPlaces
