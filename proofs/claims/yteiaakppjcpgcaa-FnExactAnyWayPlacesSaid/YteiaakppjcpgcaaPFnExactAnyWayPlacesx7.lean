-- Printed by this session's own program (wip/tool/myprint.py, over the kit's print); Lean checks it.
import Derived.Test.YteiaakppjcpgcaaPFnExactAnyWayPlacesx0
import Derived.Test.YteiaakppjcpgcaaPFnExactAnyWayPlacesx6
namespace Go.Proofs.Yteiaakppjcpgcaa.PFnExactAnyWayPlaces
open Go.RowKit Go.Proofs.YteiaakppjcpgcaaW.PrintWords Go.Proofs.YteiaakppjcpgcaaW.PrintLast Go.Proofs.YteiaakppjcpgcaaW.PrintMore
attribute [local go_sem] max2_int min2_int max_two min_two max_three min_three max_four min_four   -- for this text's walks alone
set_option linter.unusedVariables false
set_option linter.unusedSimpArgs false

/-! ### impl_Chart_moved: function 81 -/
mutual
def impl_Chart_moved.j0 : Nat → Int → Int → Int → List Int → Option (Int × Int × List Int)
  | 0, _, _, _, _ => none
  | k + 1, x1, x307000, x307001, x307002 => impl_Chart_moved.l0 k (Int.tmod x1 4) 0 x307000 x307001 x307002
def impl_Chart_moved.l0 : Nat → Int → Int → Int → Int → List Int → Option (Int × Int × List Int)
  | 0, _, _, _, _, _ => none
  | k + 1, x13, x14, x307000, x307001, x307002 => if x14 < x13 then ((impl_Chart_turned.f k x307000 x307001 x307002).bind fun bt312 => (impl_Chart_moved.l0 k x13 (wrap64 (x14 + 1)) bt312.1 bt312.2.1 bt312.2.2)) else (some (x307000, x307001, x307002))
end
def impl_Chart_moved.f (k : Nat) (a0_0 : Int) (a0_1 : Int) (l0_2 : List Int) (a1 : Int) : Option (Int × Int × List Int) := (impl_Chart_copied.f a0_0 a0_1 l0_2).bind fun bt301 => (if a1 ≥ 4 then ((impl_Chart_mirrored.f k bt301.1 bt301.2.1 bt301.2.2).bind fun bt307 => (impl_Chart_moved.j0 k a1 bt307.1 bt307.2.1 bt307.2.2)) else (impl_Chart_moved.j0 k a1 bt301.1 bt301.2.1 bt301.2.2))
theorem impl_Chart_moved.mono_l : ∀ k, (∀ y0 y1 y2 y3, LeO (impl_Chart_moved.j0 k y0 y1 y2 y3) (impl_Chart_moved.j0 (k + 1) y0 y1 y2 y3)) ∧ (∀ y0 y1 y2 y3 y4, LeO (impl_Chart_moved.l0 k y0 y1 y2 y3 y4) (impl_Chart_moved.l0 (k + 1) y0 y1 y2 y3 y4))
  | 0 => ⟨fun _ _ _ _ r h => by simp [impl_Chart_moved.j0] at h, fun _ _ _ _ _ r h => by simp [impl_Chart_moved.l0] at h⟩
  | k + 1 => by
    obtain ⟨ih0, ih1⟩ := impl_Chart_moved.mono_l k
    refine ⟨?_, ?_⟩
    · intro y0 y1 y2 y3
      unfold impl_Chart_moved.j0
      repeat' first
      | (with_reducible exact ih0 _ _ _ _)
      | (with_reducible exact ih1 _ _ _ _ _)
      | (with_reducible exact impl_Chart_mirrored.mono _ _ _ _)
      | (with_reducible exact impl_Chart_turned.mono _ _ _ _)
      | (with_reducible exact LeO.refl _)
      | (with_reducible exact LeO.none _)
      | (with_reducible refine LeO.ite ?_ ?_)
      | (with_reducible refine LeO.bind ?_ (fun _ => ?_))
      | exact ih0 _ _ _ _
      | exact ih1 _ _ _ _ _
      | exact impl_Chart_mirrored.mono _ _ _ _
      | exact impl_Chart_turned.mono _ _ _ _
      | exact LeO.none _
      | refine LeO.ite ?_ ?_
      | refine LeO.bind ?_ (fun _ => ?_)
    · intro y0 y1 y2 y3 y4
      unfold impl_Chart_moved.l0
      repeat' first
      | (with_reducible exact ih0 _ _ _ _)
      | (with_reducible exact ih1 _ _ _ _ _)
      | (with_reducible exact impl_Chart_mirrored.mono _ _ _ _)
      | (with_reducible exact impl_Chart_turned.mono _ _ _ _)
      | (with_reducible exact LeO.refl _)
      | (with_reducible exact LeO.none _)
      | (with_reducible refine LeO.ite ?_ ?_)
      | (with_reducible refine LeO.bind ?_ (fun _ => ?_))
      | exact ih0 _ _ _ _
      | exact ih1 _ _ _ _ _
      | exact impl_Chart_mirrored.mono _ _ _ _
      | exact impl_Chart_turned.mono _ _ _ _
      | exact LeO.none _
      | refine LeO.ite ?_ ?_
      | refine LeO.bind ?_ (fun _ => ?_)
theorem impl_Chart_moved.mono : ∀ a0 a1 a2 a3 k, LeO (impl_Chart_moved.f k a0 a1 a2 a3) (impl_Chart_moved.f (k + 1) a0 a1 a2 a3) := by
  intro a0 a1 a2 a3 k
  obtain ⟨ih0, ih1⟩ := impl_Chart_moved.mono_l k
  unfold impl_Chart_moved.f
  repeat' first
      | (with_reducible exact ih0 _ _ _ _)
      | (with_reducible exact ih1 _ _ _ _ _)
      | (with_reducible exact impl_Chart_mirrored.mono _ _ _ _)
      | (with_reducible exact impl_Chart_turned.mono _ _ _ _)
      | (with_reducible exact LeO.refl _)
      | (with_reducible exact LeO.none _)
      | (with_reducible refine LeO.ite ?_ ?_)
      | (with_reducible refine LeO.bind ?_ (fun _ => ?_))
      | exact ih0 _ _ _ _
      | exact ih1 _ _ _ _ _
      | exact impl_Chart_mirrored.mono _ _ _ _
      | exact impl_Chart_turned.mono _ _ _ _
      | exact LeO.none _
      | refine LeO.ite ?_ ?_
      | refine LeO.bind ?_ (fun _ => ?_)
set_option maxHeartbeats 8000000 in
set_option maxRecDepth 100000 in
theorem impl_Chart_moved.calls (k : Nat) (a0_0 : Int) (a0_1 : Int) (A0_2 : Option Addr) (c0_2 : Nat) (l0_2 : List Int) (a1 : Int) (r1 : Int) (r2 : Int) (r3 : List Int) (w : World) (hr0_2 : Kd.C (Kd.int .i64) w A0_2 l0_2.length l0_2) (hc0_2 : l0_2.length ≤ c0_2) (h : impl_Chart_moved.f k a0_0 a0_1 l0_2 a1 = some (r1, r2, r3)) :
  Calls Try.prog 81 #[.agg #[.int .i64 a0_0, .int .i64 a0_1, .slice A0_2 l0_2.length c0_2], .int .i64 a1] w fun e w' => ∃ v2_ : Value, e = .returned (.agg #[.int .i64 r1, .int .i64 r2, v2_]) ∧ Kd.R (Kd.int .i64) 3 w' w.heap.size (fun _ => True) v2_ r3 ∧ Below w.heap.size w w' := by
 have hu26 := Try.underlying26
 have HR0_2 := Aside0.mk hr0_2
 have HC0_2 := Aside0.mk hc0_2
 clear hr0_2 hc0_2
 have HB := Aside0.mk (Below.refl w.heap.size w)
 have H : ((impl_Chart_copied.f a0_0 a0_1 l0_2).bind fun bt301 => (if a1 ≥ 4 then ((impl_Chart_mirrored.f k bt301.1 bt301.2.1 bt301.2.2).bind fun bt307 => (impl_Chart_moved.j0 k a1 bt307.1 bt307.2.1 bt307.2.2)) else (impl_Chart_moved.j0 k a1 bt301.1 bt301.2.1 bt301.2.2))) = some (r1, r2, r3) := h
 clear h
 replace H := Option.bind_eq_some_iff.mp H
 obtain ⟨⟨t301, t302, t303⟩, A30, H⟩ := H
 replace H : (if a1 ≥ 4 then ((impl_Chart_mirrored.f k t301 t302 t303).bind fun bt307 => (impl_Chart_moved.j0 k a1 bt307.1 bt307.2.1 bt307.2.2)) else (impl_Chart_moved.j0 k a1 t301 t302 t303)) = some (r1, r2, r3) := H
 have A3 := Aside0.mk A30
 clear A30
 have HC4 := Aside0.mk H
 clear H
 go_enter Try.func81, Try.ntmps81
 go_upto_if 9 with (first | ((with_reducible refine gate_dst (N := 2) rfl ?_); refine box_ (N := 2) (cs := #[.int .i64 a0_0, .int .i64 a0_1, .slice A0_2 l0_2.length c0_2]) (t := 26) ?_; intro gb299 hg w5 hbox hb; have BK299 := Aside0.mk (hbox); have GW299 := gz_ w hg; have GE299 := gz_ w hg; replace HB := Aside0.mk (below_step (bw_ w) hb); clear hb hbox hg) | ((with_reducible refine gate_dst (N := 4) rfl ?_); refine box_ (N := 4) (cs := #[.int .i64 0, .int .i64 0, .slice none 0 0]) (t := 26) ?_; intro gb300 hg w6 hbox hb; have n0_ := bb_ BK299 hb; have n1_ := Aside0.mk (below_step (bw_ w) hb); have n2_ := Aside0.mk (hbox); have n3_ := gz_ w hg; have n4_ := gz_ w hg; have n5_ := ne_ hg BK299; have n6_ := en_ hg BK299; clear BK299; clear HB; have BK299 := n0_; have HB := n1_; have BK300 := n2_; have GW300 := n3_; have GE300 := n4_; have NB299_300 := n5_; have NB300_299 := n6_; clear n0_ n1_ n2_ n3_ n4_ n5_ n6_; clear hb hbox hg; have hnb7 := NB299_300.out; have hnc7 := NB300_299.out; obtain ⟨hcz8_0, hcz8_1, hcz8_2, hfz8_0, hfz8_1, hfz8_2⟩ := bc3_ (w := w6) BK299) | ((with_reducible refine gate_callee (f := 59) rfl ?_); refine goesB (some 7) Try.func59 #[.agg #[.int .i64 a0_0, .int .i64 a0_1, .slice A0_2 l0_2.length c0_2]] ?_; (with_reducible refine (impl_Chart_copied.calls a0_0 a0_1 _ _ l0_2 t301 t302 t303 _ ?side1 ?side2 A3.out).mono ?_); (case side1 => exact cb_ HR0_2 HB); (case side2 => exact HC0_2.out); rintro e w9 ⟨v304, rfl, ho0, hb⟩; refine ⟨_, rfl, ?_⟩; have HO305 := Aside0.mk (Kd.R_lower ho0 (below_size (bw_ w))); replace BK299 := bb_ BK299 hb; replace BK300 := bb_ BK300 hb; replace HB := Aside0.mk (below_step (bw_ w) hb); (try clear hb); (try clear hb2); (try clear hk); (try clear hi); (try clear ho0)) | ((with_reducible refine gate_dst (N := 5) rfl ?_); refine box_ (N := 5) (cs := #[.int .i64 0, .int .i64 0, .slice none 0 0]) (t := 26) ?_; intro gb306 hg w10 hbox hb; have n0_ := Aside0.mk (Kd.R_below (ra_ HO305) hb); have n1_ := bb_ BK299 hb; have n2_ := bb_ BK300 hb; have n3_ := Aside0.mk (below_step (bw_ w) hb); have n4_ := Aside0.mk (hbox); have n5_ := gz_ w hg; have n6_ := gz_ w hg; have n7_ := ne_ hg BK299; have n8_ := en_ hg BK299; have n9_ := ne_ hg BK300; have n10_ := en_ hg BK300; clear HO305; clear BK299; clear BK300; clear HB; have HO305 := n0_; have BK299 := n1_; have BK300 := n2_; have HB := n3_; have BK306 := n4_; have GW306 := n5_; have GE306 := n6_; have NB299_306 := n7_; have NB306_299 := n8_; have NB300_306 := n9_; have NB306_300 := n10_; clear n0_ n1_ n2_ n3_ n4_ n5_ n6_ n7_ n8_ n9_ n10_; clear hb hbox hg; have hnb11 := NB306_299.out; have hnc11 := NB299_306.out; have hnb12 := NB306_300.out; have hnc12 := NB300_306.out; obtain ⟨hcz13_0, hcz13_1, hcz13_2, hfz13_0, hfz13_1, hfz13_2⟩ := bc3_ (w := w10) BK306; obtain ⟨Ao14, co14, eo14⟩ := Kd.R_slice HO305.out; subst eo14))
 (try simp only [Act.put, List.setIfInBounds_toArray, List.set_cons_zero, List.set_cons_succ])
 go_cut [] (fun wc => ∃ (kq : Nat) (x307000_3 : Int) (x307001_3 : Int) (x307002_3 : List Int) (u307002 : Value), Aside0 (impl_Chart_moved.j0 kq a1 x307000_3 x307001_3 x307002_3 = some (r1, r2, r3)) ∧ Aside0 (kq ≤ k) ∧ Aside0 (Kd.R (Kd.int .i64) 3 wc w.heap.size (fun _ => True) u307002 x307002_3) ∧ Aside0 (wc.heap[gb299]? = some (.cells #[.int .i64 a0_0, .int .i64 a0_1, (.slice A0_2 l0_2.length c0_2)] 26 (0, 0))) ∧ Aside0 (wc.heap[gb300]? = some (.cells #[.int .i64 0, .int .i64 0, (.slice none 0 0)] 26 (0, 0))) ∧ Aside0 (wc.heap[gb306]? = some (.cells #[.int .i64 x307000_3, .int .i64 x307001_3, u307002] 26 (0, 0))) ∧ Aside0 (Below w.heap.size w wc))
 case first =>
  have H := HC4.out
  clear HC4
  by_cases c15 : a1 ≥ 4
  ·rw [if_pos c15] at H
   have c15b0 : decide (4 ≤ a1) = true := decide_eq_true c15
   clear c15
   (first | rw [c15b0] | (simp only [i64_w, i32_w]; rw [c15b0]) | skip)
   replace H := Option.bind_eq_some_iff.mp H
   obtain ⟨⟨t307, t308, t309⟩, A160, H⟩ := H
   replace H : (impl_Chart_moved.j0 k a1 t307 t308 t309) = some (r1, r2, r3) := H
   have A16 := Aside0.mk A160
   clear A160
   have H' := Aside0.mk H
   clear H
   have hnb17 := NB306_299.out
   have hnc17 := NB299_306.out
   have hnb18 := NB306_300.out
   have hnc18 := NB300_306.out
   obtain ⟨hcz19_0, hcz19_1, hcz19_2, hfz19_0, hfz19_1, hfz19_2⟩ := bc3_ (w := w10) BK306
   go_wp2_with (first | ((with_reducible refine gate_callee (f := 116) rfl ?_); refine goesB (some 11) Try.func116 #[.agg #[.int .i64 t301, .int .i64 t302, .slice Ao14 t303.length co14]] ?_; (with_reducible refine (impl_Chart_mirrored.calls k t301 t302 _ _ t303 t307 t308 t309 _ ?side1 ?side2 A16.out).mono ?_); (case side1 => refine (Kd.R_reads' (e := 3) (base := w.heap.size) (ok := fun k_ => True) (n := t303.length) (c := co14) ?_).2.2; exact (by exact rf_ (Kd.R_types HO305.out BK306.out (by decide)) (fun _ h_ => h_.1))); (case side2 => exact (Kd.R_reads' HO305.out).2.1); rintro e w20 ⟨v310, rfl, ho0, hb⟩; refine ⟨_, rfl, ?_⟩; have n0_ := Aside0.mk (Kd.R_elder' (by exact rf_ (Kd.R_types HO305.out BK306.out (by decide)) (fun _ h_ => h_.1)) (Kd.R_base ho0) hb); have n1_ := Aside0.mk (Kd.R_lower (Kd.R_new' ho0 (Kd.R_lt (by exact rf_ (Kd.R_types HO305.out BK306.out (by decide)) (fun _ h_ => h_.1)))) (below_size (bw_ w))); have n2_ := bb_ BK299 hb; have n3_ := bb_ BK300 hb; have n4_ := Aside0.mk (blk_below (g := gb306) (o := .cells #[.int .i64 t301, .int .i64 t302, .slice Ao14 t303.length co14] 26 (0, 0)) (bq_ BK306) hb); have n5_ := Aside0.mk (below_step (bw_ w) hb); clear HO305; clear BK299; clear BK300; clear BK306; clear HB; have HO305 := n0_; have HO311 := n1_; have BK299 := n2_; have BK300 := n3_; have BK306 := n4_; have HB := n5_; clear n0_ n1_ n2_ n3_ n4_ n5_; (try clear hb); (try clear hb2); (try clear hk); (try clear hi); (try clear ho0); obtain ⟨hcz21_0, hcz21_1, hcz21_2, hfz21_0, hfz21_1, hfz21_2⟩ := bc3_ (w := w20) BK306; obtain ⟨Ao22, co22, eo22⟩ := Kd.R_slice HO311.out; subst eo22))
   go_meet
   case rel => exact ⟨_, (t307), (t308), (t309), (.slice Ao22 t309.length co22), H', ⟨by first | omega | exact Nat.le_refl _⟩, ⟨by exact rf_ (Kd.R_types HO311.out BK306.out (by decide)) (fun _ hk => trivial)⟩, ⟨bk_ BK299⟩, ⟨bk_ BK300⟩, ⟨bq_ BK306⟩, ⟨(bw_ w)⟩⟩
  ·rw [if_neg c15] at H
   have c15b0 : decide (4 ≤ a1) = false := decide_eq_false c15
   clear c15
   (first | rw [c15b0] | (simp only [i64_w, i32_w]; rw [c15b0]) | skip)
   have H' := Aside0.mk H
   clear H
   go_wp2
   go_meet
   case rel => exact ⟨_, (t301), (t302), (t303), (.slice Ao14 t303.length co14), H', ⟨by first | omega | exact Nat.le_refl _⟩, ⟨by exact rf_ (Kd.R_types HO305.out BK306.out (by decide)) (fun _ hk => trivial)⟩, ⟨bk_ BK299⟩, ⟨bk_ BK300⟩, ⟨bq_ BK306⟩, ⟨(bw_ w)⟩⟩
 case rest =>
  clear HC4
  try clear c1
  try clear p2
  try clear c5
  try clear c7
  try clear c8
  try clear c11
  try clear c12
  try clear c15
  try clear c15b0
  try clear c17
  try clear c18
  try clear hcz13_0
  try clear hcz13_1
  try clear hcz13_2
  try clear hcz19_0
  try clear hcz19_1
  try clear hcz19_2
  try clear hcz21_0
  try clear hcz21_1
  try clear hcz21_2
  try clear hcz8_0
  try clear hcz8_1
  try clear hcz8_2
  try clear hfz13_0
  try clear hfz13_1
  try clear hfz13_2
  try clear hfz19_0
  try clear hfz19_1
  try clear hfz19_2
  try clear hfz21_0
  try clear hfz21_1
  try clear hfz21_2
  try clear hfz8_0
  try clear hfz8_1
  try clear hfz8_2
  obtain ⟨kq, x307000_3, x307001_3, x307002_3, u307002, HA, HJ3, HO_307002, BK299, BK300, BK306, HB⟩ := hcut
  cases kq with
  | zero => exact absurd HA.out (by simp [impl_Chart_moved.j0])
  | succ kj3 =>
   have H := HA.out
   clear HA
   simp only [impl_Chart_moved.j0] at H
   have H' := Aside0.mk H
   clear H
   go_wp2
   go_loopg [14] kj3 (fun kq v14 w' => ∃ (x14_2 : Int) (x307000_2 : Int) (x307001_2 : Int) (x307002_2 : List Int) (u307002 : Value), v14 = .int .i64 x14_2 ∧ Aside0 (impl_Chart_moved.l0 kq (Int.tmod a1 4) x14_2 x307000_2 x307001_2 x307002_2 = some (r1, r2, r3)) ∧ Aside0 (kq ≤ kj3) ∧ Aside0 (Kd.R (Kd.int .i64) 3 w' w.heap.size (fun _ => True) u307002 x307002_2) ∧ Aside0 (w'.heap[gb299]? = some (.cells #[.int .i64 a0_0, .int .i64 a0_1, (.slice A0_2 l0_2.length c0_2)] 26 (0, 0))) ∧ Aside0 (w'.heap[gb300]? = some (.cells #[.int .i64 0, .int .i64 0, (.slice none 0 0)] 26 (0, 0))) ∧ Aside0 (w'.heap[gb306]? = some (.cells #[.int .i64 x307000_2, .int .i64 x307001_2, u307002] 26 (0, 0))) ∧ Aside0 (Below w.heap.size w w'))
   case atStart => exact ⟨(0), (x307000_3), (x307001_3), (x307002_3), (u307002), (by first | rfl | (simp; done) | (simp [*]; done)), H', ⟨Nat.le_refl _⟩, ⟨ra_ HO_307002⟩, ⟨bk_ BK299⟩, ⟨bk_ BK300⟩, ⟨bk_ BK306⟩, ⟨(bw_ w)⟩⟩
   case round =>
    clear H'
    try clear c1
    try clear p2
    try clear c5
    try clear c7
    try clear c8
    try clear c11
    try clear c12
    try clear c15
    try clear c15b0
    try clear c17
    try clear c18
    try clear hcz13_0
    try clear hcz13_1
    try clear hcz13_2
    try clear hcz19_0
    try clear hcz19_1
    try clear hcz19_2
    try clear hcz21_0
    try clear hcz21_1
    try clear hcz21_2
    try clear hcz8_0
    try clear hcz8_1
    try clear hcz8_2
    try clear hfz13_0
    try clear hfz13_1
    try clear hfz13_2
    try clear hfz19_0
    try clear hfz19_1
    try clear hfz19_2
    try clear hfz21_0
    try clear hfz21_1
    try clear hfz21_2
    try clear hfz8_0
    try clear hfz8_1
    try clear hfz8_2
    try clear p2
    obtain ⟨x14_2, x307000_2, x307001_2, x307002_2, u307002, rfl, HA, HK2, HO_307002, BK299, BK300, BK306, HB⟩ := hrel
    cases gk with
    | zero => exact absurd HA.out (by simp [impl_Chart_moved.l0])
    | succ k2 =>
     have H := HA.out
     clear HA
     simp only [impl_Chart_moved.l0] at H
     by_cases c23 : x14_2 < (Int.tmod a1 4)
     ·rw [if_pos c23] at H
      have c23b0 : decide (x14_2 < (Int.tmod a1 4)) = true := decide_eq_true c23
      clear c23
      replace H := Option.bind_eq_some_iff.mp H
      obtain ⟨⟨t312, t313, t314⟩, A240, H⟩ := H
      replace H : (impl_Chart_moved.l0 k2 (Int.tmod a1 4) (wrap64 (x14_2 + 1)) t312 t313 t314) = some (r1, r2, r3) := H
      have A24 := Aside0.mk A240
      clear A240
      have H' := Aside0.mk H
      clear H
      have hnb25 := NB306_299.out
      have hnc25 := NB299_306.out
      have hnb26 := NB306_300.out
      have hnc26 := NB300_306.out
      obtain ⟨hcz27_0, hcz27_1, hcz27_2, hfz27_0, hfz27_1, hfz27_2⟩ := bc3_ (w := wr) BK306
      obtain ⟨Ao28, co28, eo28⟩ := Kd.R_slice HO_307002.out
      subst eo28
      go_wp2_with (first | ((with_reducible refine gate_callee (f := 117) rfl ?_); refine goesB (some 17) Try.func117 #[.agg #[.int .i64 x307000_2, .int .i64 x307001_2, .slice Ao28 x307002_2.length co28]] ?_; (with_reducible refine (impl_Chart_turned.calls k2 x307000_2 x307001_2 _ _ x307002_2 t312 t313 t314 _ ?side1 ?side2 A24.out).mono ?_); (case side1 => exact co_ (Kd.R_reads' HO_307002.out).2.2); (case side2 => exact (Kd.R_reads' HO_307002.out).2.1); rintro e w29 ⟨v315, rfl, ho0, hb⟩; refine ⟨_, rfl, ?_⟩; have n0_ := Aside0.mk (Kd.R_elder' (ra_ HO_307002) (Kd.R_base ho0) hb); have n1_ := Aside0.mk (Kd.R_lower (Kd.R_new' ho0 (Kd.R_lt (ra_ HO_307002))) (below_size (bw_ w))); have n2_ := bb_ BK299 hb; have n3_ := bb_ BK300 hb; have n4_ := bb_ BK306 hb; have n5_ := Aside0.mk (below_step (bw_ w) hb); clear HO_307002; clear BK299; clear BK300; clear BK306; clear HB; have HO_307002 := n0_; have HO316 := n1_; have BK299 := n2_; have BK300 := n3_; have BK306 := n4_; have HB := n5_; clear n0_ n1_ n2_ n3_ n4_ n5_; (try clear hb); (try clear hb2); (try clear hk); (try clear hi); (try clear ho0); obtain ⟨hcz30_0, hcz30_1, hcz30_2, hfz30_0, hfz30_1, hfz30_2⟩ := bc3_ (w := w29) BK306; obtain ⟨Ao31, co31, eo31⟩ := Kd.R_slice HO316.out; subst eo31))
      go_roundg k2
      case measure => have := HJ3.out; have := HK2.out; omega
      case rel => exact ⟨(wrap64 (x14_2 + 1)), (t312), (t313), (t314), (.slice Ao31 t314.length co31), (by first | rfl | (simp; done) | (simp [*]; done)), H', ⟨by have := HJ3.out; have := HK2.out; omega⟩, ⟨by exact rf_ (Kd.R_types HO316.out BK306.out (by decide)) (fun _ hk => trivial)⟩, ⟨bk_ BK299⟩, ⟨bk_ BK300⟩, ⟨bq_ BK306⟩, ⟨(bw_ w)⟩⟩
     ·rw [if_neg c23] at H
      have c23b0 : decide (x14_2 < (Int.tmod a1 4)) = false := decide_eq_false c23
      clear c23
      simp only [Option.some.injEq, Prod.mk.injEq] at H
      obtain ⟨rfl, rfl, rfl⟩ := H
      have hnb32 := NB306_299.out
      have hnc32 := NB299_306.out
      have hnb33 := NB306_300.out
      have hnc33 := NB300_306.out
      obtain ⟨hcz34_0, hcz34_1, hcz34_2, hfz34_0, hfz34_1, hfz34_2⟩ := bc3_ (w := wr) BK306
      have hnb35 := NB300_299.out
      have hnc35 := NB299_300.out
      obtain ⟨hcz36_0, hcz36_1, hcz36_2, hfz36_0, hfz36_1, hfz36_2⟩ := bc3_ (w := wr) BK300
      obtain ⟨Ao37, co37, eo37⟩ := Kd.R_slice HO_307002.out
      subst eo37
      go_wp2
      refine bodyPost_ret (results_cell_row rfl _ _ gb300 26 #[.int .i64 x307000_2, .int .i64 x307001_2, .slice Ao37 x307002_2.length co37] (0, 0) _ rfl (bq_ BK300) Try.underlying26 rfl (by kernel_rfl)) rfl ?_
      exact ⟨_, by first | rfl | (simp [errW_none, errW_some] <;> rfl) | (simp [*, errW_none, errW_some] <;> rfl), by exact rf_ (Kd.R_types HO_307002.out BK300.out (by decide)) (fun _ hk => trivial), (bw_ w)⟩

-- NOT PRINTED: function 136 (impl_Chart_136)

-- NOT PRINTED: function 125 (impl_Chart_125)

-- NOT PRINTED: function 97 (impl_Chart_97)

/-! ### slices_Equal_int_int: function 115 -/
def slices_Equal_int_int.l0 : Nat → List Int → List Int → Int → Int → Option (Bool)
  | 0, _, _, _, _ => none
  | k + 1, x0, x1, x12, x13 => if x13 < x12 then (if 0 ≤ x13 then (if x13 < (x0.length : Int) then (if x13 < (x1.length : Int) then (if (rd x0 x13) = (rd x1 x13) then (slices_Equal_int_int.l0 k x0 x1 x12 (wrap64 (x13 + 1))) else (some false)) else (none)) else (none)) else (none)) else (some true)
def slices_Equal_int_int.f (k : Nat) (l0 : List Int) (l1 : List Int) : Option (Bool) := if (l0.length : Int) = (l1.length : Int) then (slices_Equal_int_int.l0 k l0 l1 (l0.length : Int) 0) else (some false)
theorem slices_Equal_int_int.mono_l : ∀ k, (∀ y0 y1 y2 y3, LeO (slices_Equal_int_int.l0 k y0 y1 y2 y3) (slices_Equal_int_int.l0 (k + 1) y0 y1 y2 y3))
  | 0 => fun _ _ _ _ r h => by simp [slices_Equal_int_int.l0] at h
  | k + 1 => by
    have ih0 := slices_Equal_int_int.mono_l k
    · intro y0 y1 y2 y3
      unfold slices_Equal_int_int.l0
      repeat' first
      | (with_reducible exact ih0 _ _ _ _)
      | (with_reducible exact LeO.refl _)
      | (with_reducible exact LeO.none _)
      | (with_reducible refine LeO.ite ?_ ?_)
      | (with_reducible refine LeO.bind ?_ (fun _ => ?_))
      | exact ih0 _ _ _ _
      | exact LeO.none _
      | refine LeO.ite ?_ ?_
      | refine LeO.bind ?_ (fun _ => ?_)
theorem slices_Equal_int_int.mono : ∀ a0 a1 k, LeO (slices_Equal_int_int.f k a0 a1) (slices_Equal_int_int.f (k + 1) a0 a1) := by
  intro a0 a1 k
  have ih0 := slices_Equal_int_int.mono_l k
  unfold slices_Equal_int_int.f
  repeat' first
      | (with_reducible exact ih0 _ _ _ _)
      | (with_reducible exact LeO.refl _)
      | (with_reducible exact LeO.none _)
      | (with_reducible refine LeO.ite ?_ ?_)
      | (with_reducible refine LeO.bind ?_ (fun _ => ?_))
      | exact ih0 _ _ _ _
      | exact LeO.none _
      | refine LeO.ite ?_ ?_
      | refine LeO.bind ?_ (fun _ => ?_)
set_option maxHeartbeats 8000000 in
set_option maxRecDepth 100000 in
theorem slices_Equal_int_int.calls (k : Nat) (A0 : Option Addr) (c0 : Nat) (l0 : List Int) (A1 : Option Addr) (c1 : Nat) (l1 : List Int) (r : Bool) (w : World) (hr0 : Kd.C (Kd.int .i64) w A0 l0.length l0) (hc0 : l0.length ≤ c0) (hr1 : Kd.C (Kd.int .i64) w A1 l1.length l1) (hc1 : l1.length ≤ c1) (h : slices_Equal_int_int.f k l0 l1 = some r) :
  Calls Try.prog 115 #[.slice A0 l0.length c0, .slice A1 l1.length c1] w fun e w' => e = .returned (.bool r) ∧ Drawn0 w w' := by
 have HR0 := Aside0.mk hr0
 have HC0 := Aside0.mk hc0
 clear hr0 hc0
 have HR1 := Aside0.mk hr1
 have HC1 := Aside0.mk hc1
 clear hr1 hc1
 have H : (if (l0.length : Int) = (l1.length : Int) then (slices_Equal_int_int.l0 k l0 l1 (l0.length : Int) 0) else (some false)) = some r := h
 clear h
 by_cases c3 : (l0.length : Int) = (l1.length : Int)
 ·rw [if_pos c3] at H
  have c3b0 : ((l0.length : Int) == (l1.length : Int)) = true := beq_iff_eq.mpr c3
  have c3b1 : ((l0.length : Int) != (l1.length : Int)) = false := bne_eq_false_iff_eq.mpr c3
  have c3b2 : (l0.length == l1.length) = true := by first | simpa using c3 | (simp at c3 ⊢; omega)
  clear c3
  have H' := Aside0.mk H
  clear H
  go_enter Try.func115, Try.ntmps115
  go_wp2
  repeat (go_quiet (fail); try go_wp2)
  go_loopg [13] k (fun kq v13 w' => ∃ (x13_1 : Int), v13 = .int .i64 x13_1 ∧ Aside0 (slices_Equal_int_int.l0 kq l0 l1 (l0.length : Int) x13_1 = some r) ∧ Aside0 (kq ≤ k) ∧ Drawn0 w w')
  case atStart => exact ⟨(0), (by first | rfl | (simp; done) | (simp [*]; done)), H', ⟨Nat.le_refl _⟩, by repeat (first | exact Drawn0.refl _ | apply Drawn0.step)⟩
  case round =>
   clear H'
   try clear c1
   try clear p2
   try clear c3
   try clear c3b0
   try clear c3b1
   try clear c3b2
   obtain ⟨x13_1, rfl, HA, HK1, ⟨m1, rfl⟩⟩ := hrel
   cases gk with
   | zero => exact absurd HA.out (by simp [slices_Equal_int_int.l0])
   | succ k1 =>
    have H := HA.out
    clear HA
    simp only [slices_Equal_int_int.l0] at H
    by_cases c4 : x13_1 < (l0.length : Int)
    ·rw [if_pos c4] at H
     have c4b0 : decide (x13_1 < (l0.length : Int)) = true := decide_eq_true c4
     clear c4
     by_cases c5 : 0 ≤ x13_1
     ·rw [if_pos c5] at H
      have c5b0 : decide (0 ≤ x13_1) = true := decide_eq_true c5
      clear c5
      by_cases c6 : x13_1 < (l0.length : Int)
      ·rw [if_pos c6] at H
       have c6b0 : decide (x13_1 < (l0.length : Int)) = true := decide_eq_true c6
       clear c6
       by_cases c7 : x13_1 < (l1.length : Int)
       ·rw [if_pos c7] at H
        have c7b0 : decide (x13_1 < (l1.length : Int)) = true := decide_eq_true c7
        clear c7
        by_cases c8 : (rd l0 x13_1) = (rd l1 x13_1)
        ·rw [if_pos c8] at H
         have c8b0 : ((rd l0 x13_1) == (rd l1 x13_1)) = true := beq_iff_eq.mpr c8
         have c8b1 : ((rd l0 x13_1) != (rd l1 x13_1)) = false := bne_eq_false_iff_eq.mpr c8
         clear c8
         have H' := Aside0.mk H
         clear H
         have p317 : 0 ≤ (x13_1 : Int) := of_decide_eq_true (by first | (with_reducible assumption) | assumption)
         have q317 : x13_1 < (l0.length : Int) := of_decide_eq_true (by first | (with_reducible assumption) | assumption)
         obtain ⟨ad317, e317, hx317_0⟩ := Kd.at_int HR0.out x13_1 p317 q317
         cases e317
         replace p317 := eq_true p317
         replace q317 := eq_true q317
         have p318 : 0 ≤ (x13_1 : Int) := of_decide_eq_true (by first | (with_reducible assumption) | assumption)
         have q318 : x13_1 < (l1.length : Int) := of_decide_eq_true (by first | (with_reducible assumption) | assumption)
         obtain ⟨ad318, e318, hx318_0⟩ := Kd.at_int HR1.out x13_1 p318 q318
         cases e318
         replace p318 := eq_true p318
         replace q318 := eq_true q318
         go_wp2
         repeat (go_quiet (fail); try go_wp2)
         go_roundg k1
         case measure => have := HK1.out; omega
         case rel => exact ⟨(wrap64 (x13_1 + 1)), (by first | rfl | (simp; done) | (simp [*]; done)), H', ⟨by have := HK1.out; omega⟩, by repeat (first | exact Drawn0.refl _ | apply Drawn0.step)⟩
        ·rw [if_neg c8] at H
         have c8b0 : ((rd l0 x13_1) == (rd l1 x13_1)) = false := beq_eq_false_iff_ne.mpr c8
         have c8b1 : ((rd l0 x13_1) != (rd l1 x13_1)) = true := bne_iff_ne.mpr c8
         obtain rfl := Option.some.inj H
         have p317 : 0 ≤ (x13_1 : Int) := of_decide_eq_true (by first | (with_reducible assumption) | assumption)
         have q317 : x13_1 < (l0.length : Int) := of_decide_eq_true (by first | (with_reducible assumption) | assumption)
         obtain ⟨ad317, e317, hx317_0⟩ := Kd.at_int HR0.out x13_1 p317 q317
         cases e317
         replace p317 := eq_true p317
         replace q317 := eq_true q317
         have p318 : 0 ≤ (x13_1 : Int) := of_decide_eq_true (by first | (with_reducible assumption) | assumption)
         have q318 : x13_1 < (l1.length : Int) := of_decide_eq_true (by first | (with_reducible assumption) | assumption)
         obtain ⟨ad318, e318, hx318_0⟩ := Kd.at_int HR1.out x13_1 p318 q318
         cases e318
         replace p318 := eq_true p318
         replace q318 := eq_true q318
         go_wp2
         repeat (go_quiet (fail); try go_wp2)
         go_ret
         exact ⟨by first | rfl | (simp; done) | (simp [*]; done), by repeat (first | exact Drawn0.refl _ | apply Drawn0.step)⟩
       ·rw [if_neg c7] at H
        exact absurd H (by simp)
      ·rw [if_neg c6] at H
       exact absurd H (by simp)
     ·rw [if_neg c5] at H
      exact absurd H (by simp)
    ·rw [if_neg c4] at H
     have c4b0 : decide (x13_1 < (l0.length : Int)) = false := decide_eq_false c4
     clear c4
     obtain rfl := Option.some.inj H
     go_wp2
     repeat (go_quiet (fail); try go_wp2)
     go_ret
     exact ⟨by first | rfl | (simp; done) | (simp [*]; done), by repeat (first | exact Drawn0.refl _ | apply Drawn0.step)⟩
 ·rw [if_neg c3] at H
  have c3b0 : ((l0.length : Int) == (l1.length : Int)) = false := beq_eq_false_iff_ne.mpr c3
  have c3b1 : ((l0.length : Int) != (l1.length : Int)) = true := bne_iff_ne.mpr c3
  have c3b2 : (l0.length == l1.length) = false := by first | simpa using c3 | (simp at c3 ⊢; omega)
  obtain rfl := Option.some.inj H
  go_enter Try.func115, Try.ntmps115
  go_wp2
  repeat (go_quiet (fail); try go_wp2)
  go_ret
  exact ⟨by first | rfl | (simp; done) | (simp [*]; done), by repeat (first | exact Drawn0.refl _ | apply Drawn0.step)⟩

/-! ### impl_sameChart: function 80 -/
def impl_sameChart.f (k : Nat) (a0_0 : Int) (a0_1 : Int) (l0_2 : List Int) (a1_0 : Int) (a1_1 : Int) (l1_2 : List Int) : Option (Bool) := if a0_0 = a1_0 then (if a0_1 = a1_1 then ((slices_Equal_int_int.f k l0_2 l1_2).bind fun t321 => (some t321)) else (some false)) else (some false)
theorem impl_sameChart.mono : ∀ a0 a1 a2 a3 a4 a5 k, LeO (impl_sameChart.f k a0 a1 a2 a3 a4 a5) (impl_sameChart.f (k + 1) a0 a1 a2 a3 a4 a5) := by
  intro a0 a1 a2 a3 a4 a5 k
  unfold impl_sameChart.f
  repeat' first
      | (with_reducible exact slices_Equal_int_int.mono _ _ _)
      | (with_reducible exact LeO.refl _)
      | (with_reducible exact LeO.none _)
      | (with_reducible refine LeO.ite ?_ ?_)
      | (with_reducible refine LeO.bind ?_ (fun _ => ?_))
      | exact slices_Equal_int_int.mono _ _ _
      | exact LeO.none _
      | refine LeO.ite ?_ ?_
      | refine LeO.bind ?_ (fun _ => ?_)
set_option maxHeartbeats 8000000 in
set_option maxRecDepth 100000 in
theorem impl_sameChart.calls (k : Nat) (a0_0 : Int) (a0_1 : Int) (A0_2 : Option Addr) (c0_2 : Nat) (l0_2 : List Int) (a1_0 : Int) (a1_1 : Int) (A1_2 : Option Addr) (c1_2 : Nat) (l1_2 : List Int) (r : Bool) (w : World) (hr0_2 : Kd.C (Kd.int .i64) w A0_2 l0_2.length l0_2) (hc0_2 : l0_2.length ≤ c0_2) (hr1_2 : Kd.C (Kd.int .i64) w A1_2 l1_2.length l1_2) (hc1_2 : l1_2.length ≤ c1_2) (h : impl_sameChart.f k a0_0 a0_1 l0_2 a1_0 a1_1 l1_2 = some r) :
  Calls Try.prog 80 #[.agg #[.int .i64 a0_0, .int .i64 a0_1, .slice A0_2 l0_2.length c0_2], .agg #[.int .i64 a1_0, .int .i64 a1_1, .slice A1_2 l1_2.length c1_2]] w fun e w' => e = .returned (.bool r) ∧ Below w.heap.size w w' := by
 have hu26 := Try.underlying26
 have HR0_2 := Aside0.mk hr0_2
 have HC0_2 := Aside0.mk hc0_2
 clear hr0_2 hc0_2
 have HR1_2 := Aside0.mk hr1_2
 have HC1_2 := Aside0.mk hc1_2
 clear hr1_2 hc1_2
 have HB := Aside0.mk (Below.refl w.heap.size w)
 have H : (if a0_0 = a1_0 then (if a0_1 = a1_1 then ((slices_Equal_int_int.f k l0_2 l1_2).bind fun t321 => (some t321)) else (some false)) else (some false)) = some r := h
 clear h
 by_cases c3 : a0_0 = a1_0
 ·rw [if_pos c3] at H
  have c3b0 : (a0_0 == a1_0) = true := beq_iff_eq.mpr c3
  have c3b1 : (a0_0 != a1_0) = false := bne_eq_false_iff_eq.mpr c3
  clear c3
  by_cases c4 : a0_1 = a1_1
  ·rw [if_pos c4] at H
   have c4b0 : (a0_1 == a1_1) = true := beq_iff_eq.mpr c4
   have c4b1 : (a0_1 != a1_1) = false := bne_eq_false_iff_eq.mpr c4
   clear c4
   replace H := Option.bind_eq_some_iff.mp H
   obtain ⟨t321, A50, H⟩ := H
   replace H : (some t321) = some r := H
   have A5 := Aside0.mk A50
   clear A50
   obtain rfl := Option.some.inj H
   go_enter Try.func80, Try.ntmps80
   go_wp2_with (first | ((with_reducible refine gate_dst (N := 2) rfl ?_); refine box_ (N := 2) (cs := #[.int .i64 a0_0, .int .i64 a0_1, .slice A0_2 l0_2.length c0_2]) (t := 26) ?_; intro gb319 hg w6 hbox hb; have BK319 := Aside0.mk (hbox); have GW319 := gz_ w hg; have GE319 := gz_ w hg; replace HB := Aside0.mk (below_step (bw_ w) hb); clear hb hbox hg) | ((with_reducible refine gate_dst (N := 3) rfl ?_); refine box_ (N := 3) (cs := #[.int .i64 a1_0, .int .i64 a1_1, .slice A1_2 l1_2.length c1_2]) (t := 26) ?_; intro gb320 hg w7 hbox hb; have n0_ := bb_ BK319 hb; have n1_ := Aside0.mk (below_step (bw_ w) hb); have n2_ := Aside0.mk (hbox); have n3_ := gz_ w hg; have n4_ := gz_ w hg; have n5_ := ne_ hg BK319; have n6_ := en_ hg BK319; clear BK319; clear HB; have BK319 := n0_; have HB := n1_; have BK320 := n2_; have GW320 := n3_; have GE320 := n4_; have NB319_320 := n5_; have NB320_319 := n6_; clear n0_ n1_ n2_ n3_ n4_ n5_ n6_; clear hb hbox hg; have hnb8 := NB319_320.out; have hnc8 := NB320_319.out; obtain ⟨hcz9_0, hcz9_1, hcz9_2, hfz9_0, hfz9_1, hfz9_2⟩ := bc3_ (w := w7) BK319; obtain ⟨hcz10_0, hcz10_1, hcz10_2, hfz10_0, hfz10_1, hfz10_2⟩ := bc3_ (w := w7) BK320) | (go_at_call 115; (with_reducible refine (slices_Equal_int_int.calls k _ _ l0_2 _ _ l1_2 t321 _ ?side1 ?side2 ?side3 ?side4 A5.out).mono ?_); (case side1 => exact cb_ HR0_2 HB); (case side2 => exact HC0_2.out); (case side3 => exact cb_ HR1_2 HB); (case side4 => exact HC1_2.out); rintro e w' ⟨rfl, ⟨nd, rfl⟩⟩))
   go_ret
   exact ⟨by first | rfl | (simp [errW_none, errW_some] <;> rfl) | (simp [*, errW_none, errW_some] <;> rfl), (bw_ w)⟩
  ·rw [if_neg c4] at H
   have c4b0 : (a0_1 == a1_1) = false := beq_eq_false_iff_ne.mpr c4
   have c4b1 : (a0_1 != a1_1) = true := bne_iff_ne.mpr c4
   obtain rfl := Option.some.inj H
   go_enter Try.func80, Try.ntmps80
   go_wp2_with (first | ((with_reducible refine gate_dst (N := 2) rfl ?_); refine box_ (N := 2) (cs := #[.int .i64 a0_0, .int .i64 a0_1, .slice A0_2 l0_2.length c0_2]) (t := 26) ?_; intro gb319 hg w11 hbox hb; have BK319 := Aside0.mk (hbox); have GW319 := gz_ w hg; have GE319 := gz_ w hg; replace HB := Aside0.mk (below_step (bw_ w) hb); clear hb hbox hg) | ((with_reducible refine gate_dst (N := 3) rfl ?_); refine box_ (N := 3) (cs := #[.int .i64 a1_0, .int .i64 a1_1, .slice A1_2 l1_2.length c1_2]) (t := 26) ?_; intro gb320 hg w12 hbox hb; have n0_ := bb_ BK319 hb; have n1_ := Aside0.mk (below_step (bw_ w) hb); have n2_ := Aside0.mk (hbox); have n3_ := gz_ w hg; have n4_ := gz_ w hg; have n5_ := ne_ hg BK319; have n6_ := en_ hg BK319; clear BK319; clear HB; have BK319 := n0_; have HB := n1_; have BK320 := n2_; have GW320 := n3_; have GE320 := n4_; have NB319_320 := n5_; have NB320_319 := n6_; clear n0_ n1_ n2_ n3_ n4_ n5_ n6_; clear hb hbox hg; have hnb13 := NB319_320.out; have hnc13 := NB320_319.out; obtain ⟨hcz14_0, hcz14_1, hcz14_2, hfz14_0, hfz14_1, hfz14_2⟩ := bc3_ (w := w12) BK319; obtain ⟨hcz15_0, hcz15_1, hcz15_2, hfz15_0, hfz15_1, hfz15_2⟩ := bc3_ (w := w12) BK320))
   go_ret
   exact ⟨by first | rfl | (simp [errW_none, errW_some] <;> rfl) | (simp [*, errW_none, errW_some] <;> rfl), (bw_ w)⟩
 ·rw [if_neg c3] at H
  have c3b0 : (a0_0 == a1_0) = false := beq_eq_false_iff_ne.mpr c3
  have c3b1 : (a0_0 != a1_0) = true := bne_iff_ne.mpr c3
  obtain rfl := Option.some.inj H
  go_enter Try.func80, Try.ntmps80
  go_wp2_with (first | ((with_reducible refine gate_dst (N := 2) rfl ?_); refine box_ (N := 2) (cs := #[.int .i64 a0_0, .int .i64 a0_1, .slice A0_2 l0_2.length c0_2]) (t := 26) ?_; intro gb319 hg w16 hbox hb; have BK319 := Aside0.mk (hbox); have GW319 := gz_ w hg; have GE319 := gz_ w hg; replace HB := Aside0.mk (below_step (bw_ w) hb); clear hb hbox hg) | ((with_reducible refine gate_dst (N := 3) rfl ?_); refine box_ (N := 3) (cs := #[.int .i64 a1_0, .int .i64 a1_1, .slice A1_2 l1_2.length c1_2]) (t := 26) ?_; intro gb320 hg w17 hbox hb; have n0_ := bb_ BK319 hb; have n1_ := Aside0.mk (below_step (bw_ w) hb); have n2_ := Aside0.mk (hbox); have n3_ := gz_ w hg; have n4_ := gz_ w hg; have n5_ := ne_ hg BK319; have n6_ := en_ hg BK319; clear BK319; clear HB; have BK319 := n0_; have HB := n1_; have BK320 := n2_; have GW320 := n3_; have GE320 := n4_; have NB319_320 := n5_; have NB320_319 := n6_; clear n0_ n1_ n2_ n3_ n4_ n5_ n6_; clear hb hbox hg; have hnb18 := NB319_320.out; have hnc18 := NB320_319.out; obtain ⟨hcz19_0, hcz19_1, hcz19_2, hfz19_0, hfz19_1, hfz19_2⟩ := bc3_ (w := w17) BK319; obtain ⟨hcz20_0, hcz20_1, hcz20_2, hfz20_0, hfz20_1, hfz20_2⟩ := bc3_ (w := w17) BK320))
  go_ret
  exact ⟨by first | rfl | (simp [errW_none, errW_some] <;> rfl) | (simp [*, errW_none, errW_some] <;> rfl), (bw_ w)⟩

/-! ### impl_Chart_part_1: function 137 -/
def impl_Chart_part_1.f (a0 : Int) (a1 : Int) (a2_0 : Int) (a2_1 : Int) (l2_2 : List Int) (a3_0 : Int) (a4_0 : Int) : Option (Int) := (impl_Chart_at.f a2_0 a2_1 l2_2 (wrap64 (a3_0 + a0)) (wrap64 (a4_0 + a1))).bind fun t334 => (some t334)
set_option maxHeartbeats 8000000 in
set_option maxRecDepth 100000 in
theorem impl_Chart_part_1.calls (a0 : Int) (a1 : Int) (gb331 : Nat) (a2_0 : Int) (a2_1 : Int) (A2_2 : Option Addr) (c2_2 : Nat) (l2_2 : List Int) (gb332 : Nat) (a3_0 : Int) (gb333 : Nat) (a4_0 : Int) (r : Int) (w : World) (hb331 : w.heap[gb331]? = some (.cells #[.int .i64 a2_0, .int .i64 a2_1, .slice A2_2 l2_2.length c2_2] 26 (0, 0))) (hr2_2 : Kd.C (Kd.int .i64) w A2_2 l2_2.length l2_2) (hc2_2 : l2_2.length ≤ c2_2) (hb332 : w.heap[gb332]? = some (.cells #[.int .i64 a3_0] 3 (0, 0))) (hb333 : w.heap[gb333]? = some (.cells #[.int .i64 a4_0] 3 (0, 0))) (h : impl_Chart_part_1.f a0 a1 a2_0 a2_1 l2_2 a3_0 a4_0 = some r) :
  Calls Try.prog 137 #[.int .i64 a0, .int .i64 a1, .pointer (some ⟨gb331, 0, none⟩), .pointer (some ⟨gb332, 0, none⟩), .pointer (some ⟨gb333, 0, none⟩)] w fun e w' => e = .returned (.int .i64 r) ∧ Below w.heap.size w w' := by
 have hu26 := Try.underlying26
 have HR2_2 := Aside0.mk hr2_2
 have HC2_2 := Aside0.mk hc2_2
 clear hr2_2 hc2_2
 have BK331 := Aside0.mk hb331
 clear hb331
 have BK332 := Aside0.mk hb332
 clear hb332
 have BK333 := Aside0.mk hb333
 clear hb333
 have HB := Aside0.mk (Below.refl w.heap.size w)
 have H : ((impl_Chart_at.f a2_0 a2_1 l2_2 (wrap64 (a3_0 + a0)) (wrap64 (a4_0 + a1))).bind fun t334 => (some t334)) = some r := h
 clear h
 replace H := Option.bind_eq_some_iff.mp H
 obtain ⟨t334, A60, H⟩ := H
 replace H : (some t334) = some r := H
 have A6 := Aside0.mk A60
 clear A60
 obtain rfl := Option.some.inj H
 obtain ⟨hcz7_0, hcz7_1, hcz7_2, hfz7_0, hfz7_1, hfz7_2⟩ := bc3_ (w := w) BK331
 obtain ⟨hcz8_0, hfz8_0⟩ := bc1_ (w := w) BK332
 obtain ⟨hcz9_0, hfz9_0⟩ := bc1_ (w := w) BK333
 go_enter Try.func137, Try.ntmps137
 go_wp2_with (first | ((with_reducible refine gate_callee (f := 133) rfl ?_); refine goesB (some 15) Try.func133 #[.agg #[.int .i64 a2_0, .int .i64 a2_1, .slice A2_2 l2_2.length c2_2], .int .i64 (wrap64 (a3_0 + a0)), .int .i64 (wrap64 (a4_0 + a1))] ?_; (with_reducible refine (impl_Chart_at.calls a2_0 a2_1 _ _ l2_2 (wrap64 (a3_0 + a0)) (wrap64 (a4_0 + a1)) t334 _ ?side1 ?side2 A6.out).mono ?_); (case side1 => repeat (first | exact HR2_2.out | (with_reducible refine Kd.C_alloc ?_ _) | (with_reducible refine Kd.C_drewN ?_ _) | (with_reducible refine Kd.C_drew ?_))); (case side2 => exact HC2_2.out); rintro e w10 ⟨rfl, hb⟩; refine ⟨_, rfl, ?_⟩; replace BK331 := bb_ BK331 hb; replace BK332 := bb_ BK332 hb; replace BK333 := bb_ BK333 hb; replace HB := Aside0.mk (below_step (bw_ w) hb); (try clear hb); (try clear hb2); (try clear hk); (try clear hi)))
 go_ret
 exact ⟨by first | rfl | (simp [errW_none, errW_some] <;> rfl) | (simp [*, errW_none, errW_some] <;> rfl), (bw_ w)⟩

/-! ### impl_makeChart__Chart_part_1: function 94 -/
mutual
def impl_makeChart__Chart_part_1.l0 : Nat → Int → Int → Int → Int → Int → List Int → Int → Int → Int → Int → List Int → Option (Int × Int × List Int)
  | 0, _, _, _, _, _, _, _, _, _, _, _ => none
  | k + 1, x0, x13, x14, x336000, x336001, x336002, x337000, x338000, x340000, x340001, x340002 => if x14 < x13 then (impl_makeChart__Chart_part_1.l1 k x0 x14 x13 x14 x0 0 x336000 x336001 x336002 x337000 x338000 x340000 x340001 x340002) else (some (x340000, x340001, x340002))
def impl_makeChart__Chart_part_1.l1 : Nat → Int → Int → Int → Int → Int → Int → Int → Int → List Int → Int → Int → Int → Int → List Int → Option (Int × Int × List Int)
  | 0, _, _, _, _, _, _, _, _, _, _, _, _, _, _ => none
  | k + 1, x0, x8, x13, x14, x17, x18, x336000, x336001, x336002, x337000, x338000, x340000, x340001, x340002 => if x18 < x17 then ((impl_Chart_part_1.f x8 x18 x336000 x336001 x336002 x337000 x338000).bind fun t340 => (if x340002.length < 17592186044416 then (impl_makeChart__Chart_part_1.l1 k x0 x8 x13 x14 x17 (wrap64 (x18 + 1)) x336000 x336001 x336002 x337000 x338000 x340000 x340001 (x340002 ++ [t340])) else (none))) else (impl_makeChart__Chart_part_1.l0 k x0 x13 (wrap64 (x14 + 1)) x336000 x336001 x336002 x337000 x338000 x340000 x340001 x340002)
end
def impl_makeChart__Chart_part_1.f (k : Nat) (a0 : Int) (a1 : Int) (a2_0 : Int) (a2_1 : Int) (l2_2 : List Int) (a2_3 : Int) (a2_4 : Int) : Option (Int × Int × List Int) := impl_makeChart__Chart_part_1.l0 k a0 a1 0 a2_0 a2_1 l2_2 a2_3 a2_4 a0 a1 ([] : List Int)
theorem impl_makeChart__Chart_part_1.mono_l : ∀ k, (∀ y0 y1 y2 y3 y4 y5 y6 y7 y8 y9 y10, LeO (impl_makeChart__Chart_part_1.l0 k y0 y1 y2 y3 y4 y5 y6 y7 y8 y9 y10) (impl_makeChart__Chart_part_1.l0 (k + 1) y0 y1 y2 y3 y4 y5 y6 y7 y8 y9 y10)) ∧ (∀ y0 y1 y2 y3 y4 y5 y6 y7 y8 y9 y10 y11 y12 y13, LeO (impl_makeChart__Chart_part_1.l1 k y0 y1 y2 y3 y4 y5 y6 y7 y8 y9 y10 y11 y12 y13) (impl_makeChart__Chart_part_1.l1 (k + 1) y0 y1 y2 y3 y4 y5 y6 y7 y8 y9 y10 y11 y12 y13))
  | 0 => ⟨fun _ _ _ _ _ _ _ _ _ _ _ r h => by simp [impl_makeChart__Chart_part_1.l0] at h, fun _ _ _ _ _ _ _ _ _ _ _ _ _ _ r h => by simp [impl_makeChart__Chart_part_1.l1] at h⟩
  | k + 1 => by
    obtain ⟨ih0, ih1⟩ := impl_makeChart__Chart_part_1.mono_l k
    refine ⟨?_, ?_⟩
    · intro y0 y1 y2 y3 y4 y5 y6 y7 y8 y9 y10
      unfold impl_makeChart__Chart_part_1.l0
      repeat' first
      | (with_reducible exact ih0 _ _ _ _ _ _ _ _ _ _ _)
      | (with_reducible exact ih1 _ _ _ _ _ _ _ _ _ _ _ _ _ _)
      | (with_reducible exact LeO.refl _)
      | (with_reducible exact LeO.none _)
      | (with_reducible refine LeO.ite ?_ ?_)
      | (with_reducible refine LeO.bind ?_ (fun _ => ?_))
      | exact ih0 _ _ _ _ _ _ _ _ _ _ _
      | exact ih1 _ _ _ _ _ _ _ _ _ _ _ _ _ _
      | exact LeO.none _
      | refine LeO.ite ?_ ?_
      | refine LeO.bind ?_ (fun _ => ?_)
    · intro y0 y1 y2 y3 y4 y5 y6 y7 y8 y9 y10 y11 y12 y13
      unfold impl_makeChart__Chart_part_1.l1
      repeat' first
      | (with_reducible exact ih0 _ _ _ _ _ _ _ _ _ _ _)
      | (with_reducible exact ih1 _ _ _ _ _ _ _ _ _ _ _ _ _ _)
      | (with_reducible exact LeO.refl _)
      | (with_reducible exact LeO.none _)
      | (with_reducible refine LeO.ite ?_ ?_)
      | (with_reducible refine LeO.bind ?_ (fun _ => ?_))
      | exact ih0 _ _ _ _ _ _ _ _ _ _ _
      | exact ih1 _ _ _ _ _ _ _ _ _ _ _ _ _ _
      | exact LeO.none _
      | refine LeO.ite ?_ ?_
      | refine LeO.bind ?_ (fun _ => ?_)
theorem impl_makeChart__Chart_part_1.mono : ∀ a0 a1 a2 a3 a4 a5 a6 k, LeO (impl_makeChart__Chart_part_1.f k a0 a1 a2 a3 a4 a5 a6) (impl_makeChart__Chart_part_1.f (k + 1) a0 a1 a2 a3 a4 a5 a6) := by
  intro a0 a1 a2 a3 a4 a5 a6 k
  obtain ⟨ih0, ih1⟩ := impl_makeChart__Chart_part_1.mono_l k
  unfold impl_makeChart__Chart_part_1.f
  repeat' first
      | (with_reducible exact ih0 _ _ _ _ _ _ _ _ _ _ _)
      | (with_reducible exact ih1 _ _ _ _ _ _ _ _ _ _ _ _ _ _)
      | (with_reducible exact LeO.refl _)
      | (with_reducible exact LeO.none _)
      | (with_reducible refine LeO.ite ?_ ?_)
      | (with_reducible refine LeO.bind ?_ (fun _ => ?_))
      | exact ih0 _ _ _ _ _ _ _ _ _ _ _
      | exact ih1 _ _ _ _ _ _ _ _ _ _ _ _ _ _
      | exact LeO.none _
      | refine LeO.ite ?_ ?_
      | refine LeO.bind ?_ (fun _ => ?_)
def impl_makeChart__Chart_part_1.T8 : Bool × List (List Nat × List Nat) := (true, [([], []), ([0], [0]), ([], []), ([], []), ([], []), ([2, 3, 4], [2, 3, 4]), ([5], [5]), ([1, 6, 5], [1, 6]), ([0, 1, 2, 3, 4, 5, 6, 7], []), ([8, 7, 7, 0, 1, 2, 3, 4, 5, 6, 7], [7, 8])])
def impl_makeChart__Chart_part_1.B8 : List Nat := [0, 1, 0, 0, 0, 28, 60, 127, 255, 511]
theorem impl_makeChart__Chart_part_1.tab8 : rtab .any (opsOf Try.f94 8) = impl_makeChart__Chart_part_1.T8 := by kernel_rfl
theorem impl_makeChart__Chart_part_1.bits8 : waitsOk impl_makeChart__Chart_part_1.T8.2 impl_makeChart__Chart_part_1.B8 = true := by kernel_rfl
set_option maxHeartbeats 8000000 in
set_option maxRecDepth 100000 in
theorem impl_makeChart__Chart_part_1.calls (k : Nat) (a0 : Int) (a1 : Int) (gb335 : Nat) (gb336 : Nat) (gb337 : Nat) (a2_0 : Int) (a2_1 : Int) (A2_2 : Option Addr) (c2_2 : Nat) (l2_2 : List Int) (a2_3 : Int) (a2_4 : Int) (r1 : Int) (r2 : Int) (r3 : List Int) (w : World) (hb335 : w.heap[gb335]? = some (.cells #[.int .i64 a2_0, .int .i64 a2_1, .slice A2_2 l2_2.length c2_2] 26 (0, 0))) (hb336 : w.heap[gb336]? = some (.cells #[.int .i64 a2_3] 3 (0, 0))) (hb337 : w.heap[gb337]? = some (.cells #[.int .i64 a2_4] 3 (0, 0))) (hr2_2 : Kd.C (Kd.int .i64) w A2_2 l2_2.length l2_2) (hc2_2 : l2_2.length ≤ c2_2) (h : impl_makeChart__Chart_part_1.f k a0 a1 a2_0 a2_1 l2_2 a2_3 a2_4 = some (r1, r2, r3)) :
  Calls Try.prog 94 #[.int .i64 a0, .int .i64 a1, (.func (.func 137) #[] #[.pointer (some ⟨gb335, 0, none⟩), .pointer (some ⟨gb336, 0, none⟩), .pointer (some ⟨gb337, 0, none⟩)])] w fun e w' => ∃ v2_ : Value, e = .returned (.agg #[.int .i64 r1, .int .i64 r2, v2_]) ∧ Kd.R (Kd.int .i64) 3 w' w.heap.size (fun _ => True) v2_ r3 ∧ Below w.heap.size w w' := by
 have hu26 := Try.underlying26
 have HR2_2 := Aside0.mk hr2_2
 have HC2_2 := Aside0.mk hc2_2
 clear hr2_2 hc2_2
 have BK335 := Aside0.mk hb335
 clear hb335
 have BK336 := Aside0.mk hb336
 clear hb336
 have BK337 := Aside0.mk hb337
 clear hb337
 have HB := Aside0.mk (Below.refl w.heap.size w)
 have H : (impl_makeChart__Chart_part_1.l0 k a0 a1 0 a2_0 a2_1 l2_2 a2_3 a2_4 a0 a1 ([] : List Int)) = some (r1, r2, r3) := h
 clear h
 have H' := Aside0.mk H
 clear H
 go_enter Try.func94, Try.ntmps94
 go_wp2_with (first | ((with_reducible refine gate_dst (N := 6) rfl ?_); refine box_ (N := 6) (cs := #[.int .i64 0, .int .i64 0, .slice none 0 0]) (t := 26) ?_; intro gb338 hg w4 hbox hb; have n0_ := bb_ BK335 hb; have n1_ := bb_ BK336 hb; have n2_ := bb_ BK337 hb; have n3_ := Aside0.mk (below_step (bw_ w) hb); have n4_ := Aside0.mk (hbox); have n5_ := gz_ w hg; have n6_ := gz_ w hg; have n7_ := ne_ hg BK335; have n8_ := en_ hg BK335; have n9_ := ne_ hg BK336; have n10_ := en_ hg BK336; have n11_ := ne_ hg BK337; have n12_ := en_ hg BK337; clear BK335; clear BK336; clear BK337; clear HB; have BK335 := n0_; have BK336 := n1_; have BK337 := n2_; have HB := n3_; have BK338 := n4_; have GW338 := n5_; have GE338 := n6_; have NB335_338 := n7_; have NB338_335 := n8_; have NB336_338 := n9_; have NB338_336 := n10_; have NB337_338 := n11_; have NB338_337 := n12_; clear n0_ n1_ n2_ n3_ n4_ n5_ n6_ n7_ n8_ n9_ n10_ n11_ n12_; clear hb hbox hg) | ((with_reducible refine gate_dst (N := 7) rfl ?_); refine box_ (N := 7) (cs := #[.int .i64 0, .int .i64 0, .slice none 0 0]) (t := 26) ?_; intro gb339 hg w5 hbox hb; have n0_ := bb_ BK335 hb; have n1_ := bb_ BK336 hb; have n2_ := bb_ BK337 hb; have n3_ := bb_ BK338 hb; have n4_ := Aside0.mk (below_step (bw_ w) hb); have n5_ := Aside0.mk (hbox); have n6_ := gz_ w hg; have n7_ := gz_ w hg; have n8_ := ne_ hg BK335; have n9_ := en_ hg BK335; have n10_ := ne_ hg BK336; have n11_ := en_ hg BK336; have n12_ := ne_ hg BK337; have n13_ := en_ hg BK337; have n14_ := ne_ hg BK338; have n15_ := en_ hg BK338; clear BK335; clear BK336; clear BK337; clear BK338; clear HB; have BK335 := n0_; have BK336 := n1_; have BK337 := n2_; have BK338 := n3_; have HB := n4_; have BK339 := n5_; have GW339 := n6_; have GE339 := n7_; have NB335_339 := n8_; have NB339_335 := n9_; have NB336_339 := n10_; have NB339_336 := n11_; have NB337_339 := n12_; have NB339_337 := n13_; have NB338_339 := n14_; have NB339_338 := n15_; clear n0_ n1_ n2_ n3_ n4_ n5_ n6_ n7_ n8_ n9_ n10_ n11_ n12_ n13_ n14_ n15_; clear hb hbox hg; have hnb6 := NB339_335.out; have hnc6 := NB335_339.out; have hnb7 := NB339_336.out; have hnc7 := NB336_339.out; have hnb8 := NB339_337.out; have hnc8 := NB337_339.out; have hnb9 := NB339_338.out; have hnc9 := NB338_339.out; obtain ⟨hcz10_0, hcz10_1, hcz10_2, hfz10_0, hfz10_1, hfz10_2⟩ := bc3_ (w := w5) BK339))
 go_loopg [14] k (fun kq v14 w' => ∃ (x14_1 : Int) (x340002_1 : List Int) (u340002 : Value), v14 = .int .i64 x14_1 ∧ Aside0 (impl_makeChart__Chart_part_1.l0 kq a0 a1 x14_1 a2_0 a2_1 l2_2 a2_3 a2_4 a0 a1 x340002_1 = some (r1, r2, r3)) ∧ Aside0 (kq ≤ k) ∧ Aside0 (Kd.R (Kd.int .i64) 3 w' w.heap.size (fun k_ => k_ ≠ gb336 ∧ k_ ≠ gb337) u340002 x340002_1) ∧ Aside0 (w'.heap[gb335]? = some (.cells #[.int .i64 a2_0, .int .i64 a2_1, (.slice A2_2 l2_2.length c2_2)] 26 (0, 0))) ∧ Aside0 (w'.heap[gb336]? = some (.cells #[.int .i64 a2_3] 3 (0, 0))) ∧ Aside0 (w'.heap[gb337]? = some (.cells #[.int .i64 a2_4] 3 (0, 0))) ∧ Aside0 (w'.heap[gb338]? = some (.cells #[.int .i64 0, .int .i64 0, (.slice none 0 0)] 26 (0, 0))) ∧ Aside0 (w'.heap[gb339]? = some (.cells #[.int .i64 a0, .int .i64 a1, u340002] 26 (0, 0))) ∧ Aside0 (Below w.heap.size w w'))
 case atStart => exact ⟨(0), (([] : List Int)), (.slice none 0 0), (by first | rfl | (simp; done) | (simp [*]; done)), H', ⟨Nat.le_refl _⟩, ⟨by first | exact Kd.R_nil _ _ _ _ _ | exact Kd.N_nil _ _ _ _ _ | exact Kd.V_nil _ _ _ _ _ | exact Kd.Q_nil _ _ _ _ _ | exact Kd.S_nil _ _ _ _ _⟩, ⟨bk_ BK335⟩, ⟨bk_ BK336⟩, ⟨bk_ BK337⟩, ⟨bk_ BK338⟩, ⟨bq_ BK339⟩, ⟨(bw_ w)⟩⟩
 case round =>
  clear H'
  try clear c2
  try clear p2
  try clear c6
  try clear c7
  try clear c8
  try clear c9
  try clear hcz10_0
  try clear hcz10_1
  try clear hcz10_2
  try clear hfz10_0
  try clear hfz10_1
  try clear hfz10_2
  obtain ⟨x14_1, x340002_1, u340002, rfl, HA, HK1, HO_340002, BK335, BK336, BK337, BK338, BK339, HB⟩ := hrel
  cases gk with
  | zero => exact absurd HA.out (by simp [impl_makeChart__Chart_part_1.l0])
  | succ k1 =>
   have H := HA.out
   clear HA
   simp only [impl_makeChart__Chart_part_1.l0] at H
   by_cases c11 : x14_1 < a1
   ·rw [if_pos c11] at H
    have c11b0 : decide (x14_1 < a1) = true := decide_eq_true c11
    clear c11
    have H' := Aside0.mk H
    clear H
    go_wp2
    go_loopg [18] k1 (fun kq v18 w' => ∃ (x18_2 : Int) (x340002_2 : List Int) (u340002 : Value), v18 = .int .i64 x18_2 ∧ Aside0 (impl_makeChart__Chart_part_1.l1 kq a0 x14_1 a1 x14_1 a0 x18_2 a2_0 a2_1 l2_2 a2_3 a2_4 a0 a1 x340002_2 = some (r1, r2, r3)) ∧ Aside0 (kq ≤ k1) ∧ Aside0 (Kd.R (Kd.int .i64) 3 w' w.heap.size (fun k_ => k_ ≠ gb336 ∧ k_ ≠ gb337) u340002 x340002_2) ∧ Aside0 (w'.heap[gb335]? = some (.cells #[.int .i64 a2_0, .int .i64 a2_1, (.slice A2_2 l2_2.length c2_2)] 26 (0, 0))) ∧ Aside0 (w'.heap[gb336]? = some (.cells #[.int .i64 a2_3] 3 (0, 0))) ∧ Aside0 (w'.heap[gb337]? = some (.cells #[.int .i64 a2_4] 3 (0, 0))) ∧ Aside0 (w'.heap[gb338]? = some (.cells #[.int .i64 0, .int .i64 0, (.slice none 0 0)] 26 (0, 0))) ∧ Aside0 (w'.heap[gb339]? = some (.cells #[.int .i64 a0, .int .i64 a1, u340002] 26 (0, 0))) ∧ Aside0 (Below w.heap.size w w'))
    case atStart => exact ⟨(0), (x340002_1), (u340002), (by first | rfl | (simp; done) | (simp [*]; done)), H', ⟨Nat.le_refl _⟩, ⟨ra_ HO_340002⟩, ⟨bk_ BK335⟩, ⟨bk_ BK336⟩, ⟨bk_ BK337⟩, ⟨bk_ BK338⟩, ⟨bk_ BK339⟩, ⟨(bw_ w)⟩⟩
    case round =>
     clear H'
     try clear c1
     try clear c2
     try clear p2
     try clear c6
     try clear c7
     try clear c8
     try clear c9
     try clear c11
     try clear c11b0
     try clear hcz10_0
     try clear hcz10_1
     try clear hcz10_2
     try clear hfz10_0
     try clear hfz10_1
     try clear hfz10_2
     try clear p2
     obtain ⟨x18_2, x340002_2, u340002, rfl, HA, HK2, HO_340002, BK335, BK336, BK337, BK338, BK339, HB⟩ := hrel
     cases gk with
     | zero => exact absurd HA.out (by simp [impl_makeChart__Chart_part_1.l1])
     | succ k2 =>
      have H := HA.out
      clear HA
      simp only [impl_makeChart__Chart_part_1.l1] at H
      by_cases c12 : x18_2 < a0
      ·rw [if_pos c12] at H
       have c12b0 : decide (x18_2 < a0) = true := decide_eq_true c12
       clear c12
       replace H := Option.bind_eq_some_iff.mp H
       obtain ⟨t340, A130, H⟩ := H
       replace H : (if x340002_2.length < 17592186044416 then (impl_makeChart__Chart_part_1.l1 k2 a0 x14_1 a1 x14_1 a0 (wrap64 (x18_2 + 1)) a2_0 a2_1 l2_2 a2_3 a2_4 a0 a1 (x340002_2 ++ [t340])) else (none)) = some (r1, r2, r3) := H
       have A13 := Aside0.mk A130
       clear A130
       by_cases c14 : x340002_2.length < 17592186044416
       ·rw [if_pos c14] at H
        have LMc14 := Aside0.mk c14
        clear c14
        obtain ⟨y341, hy341⟩ : ∃ y_ : List Int, y_ = (x340002_2 ++ [t340]) := ⟨_, rfl⟩
        replace H : (impl_makeChart__Chart_part_1.l1 k2 a0 x14_1 a1 x14_1 a0 (wrap64 (x18_2 + 1)) a2_0 a2_1 l2_2 a2_3 a2_4 a0 a1 y341) = some (r1, r2, r3) := by first | (rw [hy341]; with_reducible exact H) | (have H2_ := (Option.bind_some _ _).symm.trans H; rw [hy341]; with_reducible exact H2_) | (have H2_ := (Option.bind_some _ _).symm.trans H; with_reducible exact H2_) | with_reducible exact H | (rw [hy341]; exact H) | exact H
        have Ny341 := Aside0.mk hy341
        clear hy341
        have H' := Aside0.mk H
        clear H
        try go_wp2
        replace HO_340002 := Aside0.mk (Kd.R_drew HO_340002.out)
        replace BK335 := Aside0.mk (blk_drew BK335.out)
        replace BK336 := Aside0.mk (blk_drew BK336.out)
        replace BK337 := Aside0.mk (blk_drew BK337.out)
        replace BK338 := Aside0.mk (blk_drew BK338.out)
        replace BK339 := Aside0.mk (blk_drew BK339.out)
        replace HB := Aside0.mk (below_drew1 HB.out)
        refine start_ (n := 10) (S := fun w' => w'.cell? ⟨gb339, 0, none⟩ = some (.int .i64 a0) ∧ w'.cell? ⟨gb339, 1, none⟩ = some (.int .i64 a1) ∧ w'.cell? ⟨gb339, 2, none⟩ = some (u340002)) (ds := [9]) #[false, false, false, false, false, false, false, false, false, false] (by kernel_rfl) rfl rfl ⟨bc_ BK339 0, bc_ BK339 1, bc_ BK339 2⟩ (fun hHeld => ?_); refine with_tabW impl_makeChart__Chart_part_1.tab8 impl_makeChart__Chart_part_1.bits8 (fun HT_ HW_ => ?_)
        generalize wr.drew = w15 at HO_340002 BK335 BK336 BK337 BK338 BK339 HB hHeld ⊢
        refine pureA (N := some 21) 0 HT_ ?_
        refine pureA (N := some 23) 2 HT_ ?_
        refine pureA (N := some 24) 3 HT_ ?_
        refine pureA (N := some 25) 4 HT_ ?_
        refine takeA (N := some 22) 1 HT_ HW_ hHeld ?_
        refine oneA (N := some 26) 5 HT_ (fun K hK => ?_)
        refine goesVr_ Try.func137 (by kernel_rfl) rfl #[.int .i64 x14_1, .int .i64 x18_2, .pointer (some ⟨gb335, 0, none⟩), .pointer (some ⟨gb336, 0, none⟩), .pointer (some ⟨gb337, 0, none⟩)] (by rfl) rfl rfl (by first | rfl | (simp [Act.eval]; done)) (by first | rfl | (simp [Act.eval]; done)) ?_
        with_reducible refine (impl_Chart_part_1.calls x14_1 x18_2 gb335 a2_0 a2_1 A2_2 c2_2 l2_2 gb336 a2_3 gb337 a2_4 t340 _ ?side1 ?side2 ?side3 ?side4 ?side5 A13.out).mono ?_
        (case side1 => (with_reducible repeat (first | refine blk_drewN ?_ _ | refine blk_drew ?_ | refine blk_alloc ?_ _)); exact BK335.out)
        (case side2 => exact cb_ HR2_2 HB)
        (case side3 => exact HC2_2.out)
        (case side4 => (with_reducible repeat (first | refine blk_drewN ?_ _ | refine blk_drew ?_ | refine blk_alloc ?_ _)); exact BK336.out)
        (case side5 => (with_reducible repeat (first | refine blk_drewN ?_ _ | refine blk_drew ?_ | refine blk_alloc ?_ _)); exact BK337.out)
        rintro e w16 ⟨rfl, hb⟩
        refine ⟨_, rfl, ?_⟩
        replace HO_340002 := Aside0.mk (Kd.R_below (ra_ HO_340002) hb)
        replace BK335 := bb_ BK335 hb
        replace BK336 := bb_ BK336 hb
        replace BK337 := bb_ BK337 hb
        replace BK338 := bb_ BK338 hb
        replace BK339 := bb_ BK339 hb
        replace HB := Aside0.mk (below_step (bw_ w) hb)
        (try clear hb)
        (try clear hb2)
        (try clear hk)
        (try clear hi)
        refine hK.out _ _ ⟨bc_ BK339 0, bc_ BK339 1, bc_ BK339 2⟩ (fun hHeld => ?_)
        clear hK K
        refine normA (N := some 26) ?_
        refine oneA (N := some 27) 6 HT_ (fun K hK => ?_)
        refine value_ (w1 := ?_) (v := ?_) (by rfl) rfl ?_ ?_
        rotate_left 2
        ·go_simp
         constructor
         ·rfl
         ·rfl
        refine hK.out _ _ ⟨(blk_cell (blk_alloc BK339.out _) 0).trans rfl, (blk_cell (blk_alloc BK339.out _) 1).trans rfl, (blk_cell (blk_alloc BK339.out _) 2).trans rfl⟩ (fun hHeld => ?_)
        clear hK K
        refine normA (N := some 27) ?_
        refine oneA (N := some 28) 7 HT_ (fun K hK => ?_)
        refine Kd.R_append_step (Kd.int .i64) (w0 := w) w.heap.size (by rfl) (.tmp 22) (.tmp 27) 22 3 (.int .i64 0) 8 rfl Try.underlying22 info3 rfl (by decide) (by omega) u340002 x340002_2 t340 [.int .i64 t340] (fun k_ => k_ ≠ gb336 ∧ k_ ≠ gb337) (fun _ => False) rfl rfl ?aP (fun _ hk => hk.elim) ?aF ?aO ?aB ?aS ?aL ?_
        (case aP => exact rfl)
        (case aB => exact (bw_ w))
        (case aF => exact (fun k_ hk => ⟨Kd.freshB (g := gb336) (o := .cells #[.int .i64 a2_3] 3 (0, 0)) (bk_ BK336) k_ hk, Kd.freshB (g := gb337) (o := .cells #[.int .i64 a2_4] 3 (0, 0)) (bk_ BK337) k_ hk⟩))
        (case aO => exact (ra_ HO_340002))
        (case aS => exact (below_size (bw_ w)))
        (case aL => have := LMc14.out; omega)
        intro v342 w17 ho hb hg hat
        rw [← Ny341.out] at ho
        replace BK335 := Aside0.mk (blk_grown (g := gb335) (o := .cells #[.int .i64 a2_0, .int .i64 a2_1, .slice A2_2 l2_2.length c2_2] 26 (0, 0)) (bk_ BK335) hg (Kd.R_ne HO_340002.out BK335.out (by decide)))
        replace BK336 := Aside0.mk (blk_grown (g := gb336) (o := .cells #[.int .i64 a2_3] 3 (0, 0)) (bk_ BK336) hg (Kd.R_away HO_340002.out (fun _ hk => hk.1)))
        replace BK337 := Aside0.mk (blk_grown (g := gb337) (o := .cells #[.int .i64 a2_4] 3 (0, 0)) (bk_ BK337) hg (Kd.R_away HO_340002.out (fun _ hk => hk.2)))
        replace BK338 := Aside0.mk (blk_grown (g := gb338) (o := .cells #[.int .i64 0, .int .i64 0, .slice none 0 0] 26 (0, 0)) (bk_ BK338) hg (Kd.R_ne HO_340002.out BK338.out (by decide)))
        replace BK339 := Aside0.mk (blk_grown (g := gb339) (o := .cells #[.int .i64 a0, .int .i64 a1, u340002] 26 (0, 0)) (bk_ BK339) hg (Kd.R_ne HO_340002.out BK339.out (by decide)))
        have HO343 := Aside0.mk (ho)
        replace HB := Aside0.mk (hb)
        clear HO_340002
        clear ho hb hg hat
        obtain ⟨Ao18, co18, eo18⟩ := Kd.R_slice HO343.out
        (first | subst eo18 | (injection eo18 with f1_ f2_ f3_; have f4_ := f1_.symm; have f5_ := f3_.symm; clear f1_ f2_ f3_; subst f4_; subst f5_))
        refine hK.out _ _ ⟨bc_ BK339 0, bc_ BK339 1, bc_ BK339 2⟩ (fun hHeld => ?_)
        clear hK K
        refine normA (N := some 28) ?_
        refine pureA (N := some 29) 8 HT_ ?_
        refine lastA (N := none) 9 HT_ (fun K hK => ?_)
        have hs19 : w17.cell? ⟨gb339, 2, none⟩ = some (u340002) := bc_ BK339 2
        have hfs19 := blk_frozen BK339.out 2
        have hns19_0 := NB335_339.out
        have hns19_1 := NB336_339.out
        have hns19_2 := NB337_339.out
        have hns19_3 := NB338_339.out
        have hms19_0 := NB339_335.out
        have hms19_1 := NB339_336.out
        have hms19_2 := NB339_337.out
        have hms19_3 := NB339_338.out
        refine skip_ (w1 := ?_) (by rfl) rfl ?_ ?_
        rotate_left
        ·go_simp
         rfl
        refine hK.out _ _ ?_
        clear hK K
        refine done_ (done_of HT_.out (by kernel_rfl)) ?_
        try go_wp2
        go_roundg k2
        case measure => have := HK1.out; have := HK2.out; omega
        case rel => exact ⟨(wrap64 (x18_2 + 1)), (y341), (.slice Ao18 y341.length co18), (by first | rfl | (simp; done) | (simp [*]; done)), H', ⟨by have := HK1.out; have := HK2.out; omega⟩, ⟨by exact rf_ (Kd.R_types HO343.out BK339.out (by decide)) (fun _ hk => ⟨hk.1.1, hk.1.2⟩)⟩, ⟨bk_ BK335⟩, ⟨bk_ BK336⟩, ⟨bk_ BK337⟩, ⟨bk_ BK338⟩, ⟨bq_ BK339⟩, ⟨(bw_ w)⟩⟩
       ·rw [if_neg c14] at H
        exact absurd H (by simp)
      ·rw [if_neg c12] at H
       have c12b0 : decide (x18_2 < a0) = false := decide_eq_false c12
       clear c12
       have H' := Aside0.mk H
       clear H
       go_wp2
       go_roundg k2
       case measure => have := HK1.out; have := HK2.out; omega
       case rel => exact ⟨(wrap64 (x14_1 + 1)), (x340002_2), (u340002), (by first | rfl | (simp; done) | (simp [*]; done)), H', ⟨by have := HK1.out; have := HK2.out; omega⟩, ⟨ra_ HO_340002⟩, ⟨bk_ BK335⟩, ⟨bk_ BK336⟩, ⟨bk_ BK337⟩, ⟨bk_ BK338⟩, ⟨bk_ BK339⟩, ⟨(bw_ w)⟩⟩
   ·rw [if_neg c11] at H
    have c11b0 : decide (x14_1 < a1) = false := decide_eq_false c11
    clear c11
    simp only [Option.some.injEq, Prod.mk.injEq] at H
    obtain ⟨rfl, rfl, rfl⟩ := H
    have hnb20 := NB339_335.out
    have hnc20 := NB335_339.out
    have hnb21 := NB339_336.out
    have hnc21 := NB336_339.out
    have hnb22 := NB339_337.out
    have hnc22 := NB337_339.out
    have hnb23 := NB339_338.out
    have hnc23 := NB338_339.out
    obtain ⟨hcz24_0, hcz24_1, hcz24_2, hfz24_0, hfz24_1, hfz24_2⟩ := bc3_ (w := wr) BK339
    have hnb25 := NB338_335.out
    have hnc25 := NB335_338.out
    have hnb26 := NB338_336.out
    have hnc26 := NB336_338.out
    have hnb27 := NB338_337.out
    have hnc27 := NB337_338.out
    obtain ⟨hcz28_0, hcz28_1, hcz28_2, hfz28_0, hfz28_1, hfz28_2⟩ := bc3_ (w := wr) BK338
    obtain ⟨Ao29, co29, eo29⟩ := Kd.R_slice HO_340002.out
    subst eo29
    go_wp2
    refine bodyPost_ret (results_cell_row rfl _ _ gb338 26 #[.int .i64 a0, .int .i64 a1, .slice Ao29 x340002_1.length co29] (0, 0) _ rfl (bq_ BK338) Try.underlying26 rfl (by kernel_rfl)) rfl ?_
    exact ⟨_, by first | rfl | (simp [errW_none, errW_some] <;> rfl) | (simp [*, errW_none, errW_some] <;> rfl), by exact rf_ (Kd.R_types HO_340002.out BK338.out (by decide)) (fun _ hk => trivial), (bw_ w)⟩

/-! ### impl_Chart_part: function 127 -/
def impl_Chart_part.f (k : Nat) (a0_0 : Int) (a0_1 : Int) (l0_2 : List Int) (a1 : Int) (a2 : Int) (a3 : Int) (a4 : Int) : Option (Int × Int × List Int) := (impl_makeChart__Chart_part_1.f k a4 a3 a0_0 a0_1 l0_2 a1 a2).bind fun bt348 => (some (bt348.1, bt348.2.1, bt348.2.2))
theorem impl_Chart_part.mono : ∀ a0 a1 a2 a3 a4 a5 a6 k, LeO (impl_Chart_part.f k a0 a1 a2 a3 a4 a5 a6) (impl_Chart_part.f (k + 1) a0 a1 a2 a3 a4 a5 a6) := by
  intro a0 a1 a2 a3 a4 a5 a6 k
  unfold impl_Chart_part.f
  repeat' first
      | (with_reducible exact impl_makeChart__Chart_part_1.mono _ _ _ _ _ _ _ _)
      | (with_reducible exact LeO.refl _)
      | (with_reducible exact LeO.none _)
      | (with_reducible refine LeO.ite ?_ ?_)
      | (with_reducible refine LeO.bind ?_ (fun _ => ?_))
      | exact impl_makeChart__Chart_part_1.mono _ _ _ _ _ _ _ _
      | exact LeO.none _
      | refine LeO.ite ?_ ?_
      | refine LeO.bind ?_ (fun _ => ?_)
set_option maxHeartbeats 8000000 in
set_option maxRecDepth 100000 in
theorem impl_Chart_part.calls (k : Nat) (a0_0 : Int) (a0_1 : Int) (A0_2 : Option Addr) (c0_2 : Nat) (l0_2 : List Int) (a1 : Int) (a2 : Int) (a3 : Int) (a4 : Int) (r1 : Int) (r2 : Int) (r3 : List Int) (w : World) (hr0_2 : Kd.C (Kd.int .i64) w A0_2 l0_2.length l0_2) (hc0_2 : l0_2.length ≤ c0_2) (h : impl_Chart_part.f k a0_0 a0_1 l0_2 a1 a2 a3 a4 = some (r1, r2, r3)) :
  Calls Try.prog 127 #[.agg #[.int .i64 a0_0, .int .i64 a0_1, .slice A0_2 l0_2.length c0_2], .int .i64 a1, .int .i64 a2, .int .i64 a3, .int .i64 a4] w fun e w' => ∃ v2_ : Value, e = .returned (.agg #[.int .i64 r1, .int .i64 r2, v2_]) ∧ Kd.R (Kd.int .i64) 3 w' w.heap.size (fun _ => True) v2_ r3 ∧ Below w.heap.size w w' := by
 have hu26 := Try.underlying26
 have hmf_ : ∀ (f_ : Fn) (a_ b_ : Array Value) (W_ : World), (Instr.makeFunc f_ a_ b_).run Try.prog W_ = .ok (.func f_ a_ b_) W_ := fun _ _ _ _ => rfl
 have HR0_2 := Aside0.mk hr0_2
 have HC0_2 := Aside0.mk hc0_2
 clear hr0_2 hc0_2
 have HB := Aside0.mk (Below.refl w.heap.size w)
 have H : ((impl_makeChart__Chart_part_1.f k a4 a3 a0_0 a0_1 l0_2 a1 a2).bind fun bt348 => (some (bt348.1, bt348.2.1, bt348.2.2))) = some (r1, r2, r3) := h
 clear h
 replace H := Option.bind_eq_some_iff.mp H
 obtain ⟨⟨t348, t349, t350⟩, A60, H⟩ := H
 replace H : (some (t348, t349, t350)) = some (r1, r2, r3) := H
 have A6 := Aside0.mk A60
 clear A60
 simp only [Option.some.injEq, Prod.mk.injEq] at H
 obtain ⟨rfl, rfl, rfl⟩ := H
 go_enter Try.func127, Try.ntmps127
 go_wp2_with (first | ((with_reducible refine gate_dst (N := 5) rfl ?_); refine box_ (N := 5) (cs := #[.int .i64 a0_0, .int .i64 a0_1, .slice A0_2 l0_2.length c0_2]) (t := 26) ?_; intro gb344 hg w7 hbox hb; have BK344 := Aside0.mk (hbox); have GW344 := gz_ w hg; have GE344 := gz_ w hg; replace HB := Aside0.mk (below_step (bw_ w) hb); clear hb hbox hg) | ((with_reducible refine gate_dst (N := 6) rfl ?_); refine box_ (N := 6) (cs := #[.int .i64 a1]) (t := 3) ?_; intro gb345 hg w8 hbox hb; have n0_ := bb_ BK344 hb; have n1_ := Aside0.mk (below_step (bw_ w) hb); have n2_ := Aside0.mk (hbox); have n3_ := gz_ w hg; have n4_ := gz_ w hg; have n5_ := ne_ hg BK344; have n6_ := en_ hg BK344; clear BK344; clear HB; have BK344 := n0_; have HB := n1_; have BK345 := n2_; have GW345 := n3_; have GE345 := n4_; have NB344_345 := n5_; have NB345_344 := n6_; clear n0_ n1_ n2_ n3_ n4_ n5_ n6_; clear hb hbox hg) | ((with_reducible refine gate_dst (N := 7) rfl ?_); refine box_ (N := 7) (cs := #[.int .i64 a2]) (t := 3) ?_; intro gb346 hg w9 hbox hb; have n0_ := bb_ BK344 hb; have n1_ := bb_ BK345 hb; have n2_ := Aside0.mk (below_step (bw_ w) hb); have n3_ := Aside0.mk (hbox); have n4_ := gz_ w hg; have n5_ := gz_ w hg; have n6_ := ne_ hg BK344; have n7_ := en_ hg BK344; have n8_ := ne_ hg BK345; have n9_ := en_ hg BK345; clear BK344; clear BK345; clear HB; have BK344 := n0_; have BK345 := n1_; have HB := n2_; have BK346 := n3_; have GW346 := n4_; have GE346 := n5_; have NB344_346 := n6_; have NB346_344 := n7_; have NB345_346 := n8_; have NB346_345 := n9_; clear n0_ n1_ n2_ n3_ n4_ n5_ n6_ n7_ n8_ n9_; clear hb hbox hg) | ((with_reducible refine gate_dst (N := 10) rfl ?_); refine box_ (N := 10) (cs := #[.int .i64 0, .int .i64 0, .slice none 0 0]) (t := 26) ?_; intro gb347 hg w10 hbox hb; have n0_ := bb_ BK344 hb; have n1_ := bb_ BK345 hb; have n2_ := bb_ BK346 hb; have n3_ := Aside0.mk (below_step (bw_ w) hb); have n4_ := Aside0.mk (hbox); have n5_ := gz_ w hg; have n6_ := gz_ w hg; have n7_ := ne_ hg BK344; have n8_ := en_ hg BK344; have n9_ := ne_ hg BK345; have n10_ := en_ hg BK345; have n11_ := ne_ hg BK346; have n12_ := en_ hg BK346; clear BK344; clear BK345; clear BK346; clear HB; have BK344 := n0_; have BK345 := n1_; have BK346 := n2_; have HB := n3_; have BK347 := n4_; have GW347 := n5_; have GE347 := n6_; have NB344_347 := n7_; have NB347_344 := n8_; have NB345_347 := n9_; have NB347_345 := n10_; have NB346_347 := n11_; have NB347_346 := n12_; clear n0_ n1_ n2_ n3_ n4_ n5_ n6_ n7_ n8_ n9_ n10_ n11_ n12_; clear hb hbox hg) | ((with_reducible refine gate_callee (f := 94) rfl ?_); refine goesB (some 14) Try.func94 #[.int .i64 a4, .int .i64 a3, (.func (.func 137) #[] #[.pointer (some ⟨gb344, 0, none⟩), .pointer (some ⟨gb345, 0, none⟩), .pointer (some ⟨gb346, 0, none⟩)])] ?_; (with_reducible refine (impl_makeChart__Chart_part_1.calls k a4 a3 gb344 gb345 gb346 a0_0 a0_1 A0_2 c0_2 l0_2 a1 a2 t348 t349 t350 _ ?side1 ?side2 ?side3 ?side4 ?side5 A6.out).mono ?_); (case side1 => (with_reducible repeat (first | refine blk_drewN ?_ _ | refine blk_drew ?_ | refine blk_alloc ?_ _)); exact BK344.out); (case side2 => (with_reducible repeat (first | refine blk_drewN ?_ _ | refine blk_drew ?_ | refine blk_alloc ?_ _)); exact BK345.out); (case side3 => (with_reducible repeat (first | refine blk_drewN ?_ _ | refine blk_drew ?_ | refine blk_alloc ?_ _)); exact BK346.out); (case side4 => exact cb_ HR0_2 HB); (case side5 => exact HC0_2.out); rintro e w11 ⟨v351, rfl, ho0, hb⟩; refine ⟨_, rfl, ?_⟩; have HO352 := Aside0.mk (Kd.R_lower (Kd.R_newB (Kd.R_newB ho0 (g := gb345) (o := .cells #[.int .i64 a1] 3 (0, 0)) (bk_ BK345)) (g := gb346) (o := .cells #[.int .i64 a2] 3 (0, 0)) (bk_ BK346)) (below_size (bw_ w))); replace BK344 := bb_ BK344 hb; replace BK345 := bb_ BK345 hb; replace BK346 := bb_ BK346 hb; replace BK347 := bb_ BK347 hb; replace HB := Aside0.mk (below_step (bw_ w) hb); (try clear hb); (try clear hb2); (try clear hk); (try clear hi); (try clear ho0); have hnb12 := NB347_344.out; have hnc12 := NB344_347.out; have hnb13 := NB347_345.out; have hnc13 := NB345_347.out; have hnb14 := NB347_346.out; have hnc14 := NB346_347.out; obtain ⟨hcz15_0, hcz15_1, hcz15_2, hfz15_0, hfz15_1, hfz15_2⟩ := bc3_ (w := w11) BK347; obtain ⟨Ao16, co16, eo16⟩ := Kd.R_slice HO352.out; subst eo16))
 refine bodyPost_ret (results_cell_row rfl _ _ gb347 26 #[.int .i64 t348, .int .i64 t349, .slice Ao16 t350.length co16] (0, 0) _ rfl (bq_ BK347) Try.underlying26 rfl (by kernel_rfl)) rfl ?_
 exact ⟨_, by first | rfl | (simp [errW_none, errW_some] <;> rfl) | (simp [*, errW_none, errW_some] <;> rfl), by exact rf_ (Kd.R_types HO352.out BK347.out (by decide)) (fun _ hk => trivial), (bw_ w)⟩

end Go.Proofs.Yteiaakppjcpgcaa.PFnExactAnyWayPlaces
