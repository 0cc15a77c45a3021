-- Printed by this session's own program (wip/tool/myprint.py, over the kit's print); Lean checks it.
import Derived.Test.YteiaakppjcpgcaaPFnExactAnyWayPlacesx0
import Derived.Test.YteiaakppjcpgcaaPFnExactAnyWayPlacesx2
namespace Go.Proofs.Yteiaakppjcpgcaa.PFnExactAnyWayPlaces
open Go.RowKit Go.Proofs.YteiaakppjcpgcaaW.PrintWords Go.Proofs.YteiaakppjcpgcaaW.PrintLast Go.Proofs.YteiaakppjcpgcaaW.PrintMore
attribute [local go_sem] max2_int min2_int max_two min_two max_three min_three max_four min_four   -- for this text's walks alone
set_option linter.unusedVariables false
set_option linter.unusedSimpArgs false

/-! ### spec_l4Turn: function 75 -/
mutual
def spec_l4Turn.l0 : Nat → Int → Int → Int → List Int → Int → Int → List Int → Option (Int × Int × List Int)
  | 0, _, _, _, _, _, _, _ => none
  | k + 1, x4, x154000, x154001, x154002, x159000, x159001, x159002 => if x4 < x159001 then (spec_l4Turn.l1 k x4 0 x154000 x154001 x154002 x159000 x159001 x159002) else (some (x159000, x159001, x159002))
def spec_l4Turn.l1 : Nat → Int → Int → Int → Int → List Int → Int → Int → List Int → Option (Int × Int × List Int)
  | 0, _, _, _, _, _, _, _, _ => none
  | k + 1, x4, x5, x154000, x154001, x154002, x159000, x159001, x159002 => if x5 < x159000 then ((spec_l2At.f x154000 x154001 x154002 (wrap64 ((wrap64 (x154001 - 1)) - x5)) x4).bind fun t159 => (if x159002.length < 17592186044416 then (spec_l4Turn.l1 k x4 (wrap64 (x5 + 1)) x154000 x154001 x154002 x159000 x159001 (x159002 ++ [t159])) else (none))) else (spec_l4Turn.l0 k (wrap64 (x4 + 1)) x154000 x154001 x154002 x159000 x159001 x159002)
end
def spec_l4Turn.f (k : Nat) (a0_0 : Int) (a0_1 : Int) (l0_2 : List Int) : Option (Int × Int × List Int) := spec_l4Turn.l0 k 0 a0_0 a0_1 l0_2 a0_1 a0_0 (([] : List Int))
theorem spec_l4Turn.mono_l : ∀ k, (∀ y0 y1 y2 y3 y4 y5 y6, LeO (spec_l4Turn.l0 k y0 y1 y2 y3 y4 y5 y6) (spec_l4Turn.l0 (k + 1) y0 y1 y2 y3 y4 y5 y6)) ∧ (∀ y0 y1 y2 y3 y4 y5 y6 y7, LeO (spec_l4Turn.l1 k y0 y1 y2 y3 y4 y5 y6 y7) (spec_l4Turn.l1 (k + 1) y0 y1 y2 y3 y4 y5 y6 y7))
  | 0 => ⟨fun _ _ _ _ _ _ _ r h => by simp [spec_l4Turn.l0] at h, fun _ _ _ _ _ _ _ _ r h => by simp [spec_l4Turn.l1] at h⟩
  | k + 1 => by
    obtain ⟨ih0, ih1⟩ := spec_l4Turn.mono_l k
    refine ⟨?_, ?_⟩
    · intro y0 y1 y2 y3 y4 y5 y6
      unfold spec_l4Turn.l0
      repeat' first
      | (with_reducible exact ih0 _ _ _ _ _ _ _)
      | (with_reducible exact ih1 _ _ _ _ _ _ _ _)
      | (with_reducible exact LeO.refl _)
      | (with_reducible exact LeO.none _)
      | (with_reducible refine LeO.ite ?_ ?_)
      | (with_reducible refine LeO.bind ?_ (fun _ => ?_))
      | exact ih0 _ _ _ _ _ _ _
      | exact ih1 _ _ _ _ _ _ _ _
      | exact LeO.none _
      | refine LeO.ite ?_ ?_
      | refine LeO.bind ?_ (fun _ => ?_)
    · intro y0 y1 y2 y3 y4 y5 y6 y7
      unfold spec_l4Turn.l1
      repeat' first
      | (with_reducible exact ih0 _ _ _ _ _ _ _)
      | (with_reducible exact ih1 _ _ _ _ _ _ _ _)
      | (with_reducible exact LeO.refl _)
      | (with_reducible exact LeO.none _)
      | (with_reducible refine LeO.ite ?_ ?_)
      | (with_reducible refine LeO.bind ?_ (fun _ => ?_))
      | exact ih0 _ _ _ _ _ _ _
      | exact ih1 _ _ _ _ _ _ _ _
      | exact LeO.none _
      | refine LeO.ite ?_ ?_
      | refine LeO.bind ?_ (fun _ => ?_)
theorem spec_l4Turn.mono : ∀ a0 a1 a2 k, LeO (spec_l4Turn.f k a0 a1 a2) (spec_l4Turn.f (k + 1) a0 a1 a2) := by
  intro a0 a1 a2 k
  obtain ⟨ih0, ih1⟩ := spec_l4Turn.mono_l k
  unfold spec_l4Turn.f
  repeat' first
      | (with_reducible exact ih0 _ _ _ _ _ _ _)
      | (with_reducible exact ih1 _ _ _ _ _ _ _ _)
      | (with_reducible exact LeO.refl _)
      | (with_reducible exact LeO.none _)
      | (with_reducible refine LeO.ite ?_ ?_)
      | (with_reducible refine LeO.bind ?_ (fun _ => ?_))
      | exact ih0 _ _ _ _ _ _ _
      | exact ih1 _ _ _ _ _ _ _ _
      | exact LeO.none _
      | refine LeO.ite ?_ ?_
      | refine LeO.bind ?_ (fun _ => ?_)
def spec_l4Turn.T8 : Bool × List (List Nat × List Nat) := (true, [([], []), ([0], [0]), ([], []), ([], []), ([3], [3]), ([4], [4]), ([], []), ([5, 6], [5, 6]), ([], []), ([2, 7, 8], [2, 7, 8]), ([9], [9]), ([1, 10, 9], [1, 10]), ([0, 1, 2, 3, 4, 5, 6, 7, 8, 9, 10, 11], []), ([12, 11, 11, 0, 1, 2, 3, 4, 5, 6, 7, 8, 9, 10, 11], [11, 12])])
def spec_l4Turn.B8 : List Nat := [0, 1, 0, 0, 8, 24, 0, 120, 0, 508, 1020, 2047, 4095, 8191]
theorem spec_l4Turn.tab8 : rtab .any (opsOf Try.f75 8) = spec_l4Turn.T8 := by kernel_rfl
theorem spec_l4Turn.bits8 : waitsOk spec_l4Turn.T8.2 spec_l4Turn.B8 = true := by kernel_rfl
set_option maxHeartbeats 8000000 in
set_option maxRecDepth 100000 in
theorem spec_l4Turn.calls (k : Nat) (a0_0 : Int) (a0_1 : Int) (A0_2 : Option Addr) (c0_2 : Nat) (l0_2 : List Int) (r1 : Int) (r2 : Int) (r3 : List Int) (w : World) (hr0_2 : Kd.C (Kd.int .i64) w A0_2 l0_2.length l0_2) (hc0_2 : l0_2.length ≤ c0_2) (h : spec_l4Turn.f k a0_0 a0_1 l0_2 = some (r1, r2, r3)) :
  Calls Try.prog 75 #[.agg #[.int .i64 a0_0, .int .i64 a0_1, .slice A0_2 l0_2.length c0_2]] w fun e w' => ∃ v2_ : Value, e = .returned (.agg #[.int .i64 r1, .int .i64 r2, v2_]) ∧ Kd.R (Kd.int .i64) 3 w' w.heap.size (fun _ => True) v2_ r3 ∧ Below w.heap.size w w' := by
 have hu26 := Try.underlying26
 have HR0_2 := Aside0.mk hr0_2
 have HC0_2 := Aside0.mk hc0_2
 clear hr0_2 hc0_2
 have HB := Aside0.mk (Below.refl w.heap.size w)
 have H : (spec_l4Turn.l0 k 0 a0_0 a0_1 l0_2 a0_1 a0_0 (([] : List Int))) = some (r1, r2, r3) := h
 clear h
 obtain ⟨y155, hy155⟩ : ∃ y_ : List Int, y_ = (([] : List Int)) := ⟨_, rfl⟩
 replace H : (spec_l4Turn.l0 k 0 a0_0 a0_1 l0_2 a0_1 a0_0 y155) = some (r1, r2, r3) := by first | (rw [hy155]; with_reducible exact H) | (have H2_ := (Option.bind_some _ _).symm.trans H; rw [hy155]; with_reducible exact H2_) | (have H2_ := (Option.bind_some _ _).symm.trans H; with_reducible exact H2_) | with_reducible exact H | (rw [hy155]; exact H) | exact H
 have Ny155 := Aside0.mk hy155
 clear hy155
 have H' := Aside0.mk H
 clear H
 go_enter Try.func75, Try.ntmps75
 go_wp2_with (first | ((with_reducible refine gate_dst (N := 1) rfl ?_); refine box_ (N := 1) (cs := #[.int .i64 a0_0, .int .i64 a0_1, .slice A0_2 l0_2.length c0_2]) (t := 26) ?_; intro gb153 hg w2 hbox hb; have BK153 := Aside0.mk (hbox); have GW153 := gz_ w hg; have GE153 := gz_ w hg; replace HB := Aside0.mk (below_step (bw_ w) hb); clear hb hbox hg) | ((with_reducible refine gate_dst (N := 2) rfl ?_); refine box_ (N := 2) (cs := #[.int .i64 0, .int .i64 0, .slice none 0 0]) (t := 26) ?_; intro gb154 hg w3 hbox hb; have n0_ := bb_ BK153 hb; have n1_ := Aside0.mk (below_step (bw_ w) hb); have n2_ := Aside0.mk (hbox); have n3_ := gz_ w hg; have n4_ := gz_ w hg; have n5_ := ne_ hg BK153; have n6_ := en_ hg BK153; clear BK153; clear HB; have BK153 := n0_; have HB := n1_; have BK154 := n2_; have GW154 := n3_; have GE154 := n4_; have NB153_154 := n5_; have NB154_153 := n6_; clear n0_ n1_ n2_ n3_ n4_ n5_ n6_; clear hb hbox hg; have hnb4 := NB153_154.out; have hnc4 := NB154_153.out; obtain ⟨hcz5_0, hcz5_1, hcz5_2, hfz5_0, hfz5_1, hfz5_2⟩ := bc3_ (w := w3) BK153) | ((with_reducible refine gate_dst (N := 10) rfl ?_); refine Kd.R_lit (Kd.int .i64) _ 3 ?hg (N := 10) ?hd (xs := ([] : List Int)) (inner := []) (ok := fun _ => True) (okp := fun _ => True) ?hr ?hp (fun _ hk => hk) trivial (Below.refl _ _) (Nat.le_refl _) (by simp) ?_; (case hd => rfl); (case hg => rfl); (case hr => first | (go_simp; done) | (go_simp; rfl)); (case hp => exact (Reps.none _ _)); intro v156 w6 ho7 hb hg_ hnew_; clear hg_ hnew_; (first | rw [← Ny155.out] at ho7 | (simp only [Int.reduceToNat] at ho7; rw [← Ny155.out] at ho7)); have HO157 := Aside0.mk (Kd.R_lower ho7 (below_size (bw_ w))); replace BK153 := bb_ BK153 hb; replace BK154 := bb_ BK154 hb; replace HB := Aside0.mk (below_step (bw_ w) hb); clear hb ho7; obtain ⟨Ao8, co8, eo8⟩ := Kd.R_slice HO157.out; subst eo8) | ((with_reducible refine gate_dst (N := 3) rfl ?_); refine box_ (N := 3) (cs := #[.int .i64 0, .int .i64 0, .slice none 0 0]) (t := 26) ?_; intro gb158 hg w9 hbox hb; have n0_ := Aside0.mk (Kd.R_below (ra_ HO157) hb); have n1_ := bb_ BK153 hb; have n2_ := bb_ BK154 hb; have n3_ := Aside0.mk (below_step (bw_ w) hb); have n4_ := Aside0.mk (hbox); have n5_ := gz_ w hg; have n6_ := gz_ w hg; have n7_ := ne_ hg BK153; have n8_ := en_ hg BK153; have n9_ := ne_ hg BK154; have n10_ := en_ hg BK154; clear HO157; clear BK153; clear BK154; clear HB; have HO157 := n0_; have BK153 := n1_; have BK154 := n2_; have HB := n3_; have BK158 := n4_; have GW158 := n5_; have GE158 := n6_; have NB153_158 := n7_; have NB158_153 := n8_; have NB154_158 := n9_; have NB158_154 := n10_; clear n0_ n1_ n2_ n3_ n4_ n5_ n6_ n7_ n8_ n9_ n10_; clear hb hbox hg; have hnb10 := NB158_153.out; have hnc10 := NB153_158.out; have hnb11 := NB158_154.out; have hnc11 := NB154_158.out; obtain ⟨hcz12_0, hcz12_1, hcz12_2, hfz12_0, hfz12_1, hfz12_2⟩ := bc3_ (w := w9) BK158))
 go_loopg [4] k (fun kq v4 w' => ∃ (x4_1 : Int) (x159002_1 : List Int) (u159002 : Value), v4 = .int .i64 x4_1 ∧ Aside0 (spec_l4Turn.l0 kq x4_1 a0_0 a0_1 l0_2 a0_1 a0_0 x159002_1 = some (r1, r2, r3)) ∧ Aside0 (kq ≤ k) ∧ Aside0 (Kd.R (Kd.int .i64) 3 w' w.heap.size (fun _ => True) u159002 x159002_1) ∧ Aside0 (w'.heap[gb153]? = some (.cells #[.int .i64 a0_0, .int .i64 a0_1, (.slice A0_2 l0_2.length c0_2)] 26 (0, 0))) ∧ Aside0 (w'.heap[gb154]? = some (.cells #[.int .i64 0, .int .i64 0, (.slice none 0 0)] 26 (0, 0))) ∧ Aside0 (w'.heap[gb158]? = some (.cells #[.int .i64 a0_1, .int .i64 a0_0, u159002] 26 (0, 0))) ∧ Aside0 (Below w.heap.size w w'))
 case atStart => exact ⟨(0), (y155), (.slice Ao8 y155.length co8), (by first | rfl | (simp; done) | (simp [*]; done)), H', ⟨Nat.le_refl _⟩, ⟨by exact rf_ (Kd.R_types HO157.out BK158.out (by decide)) (fun _ hk => trivial)⟩, ⟨bk_ BK153⟩, ⟨bk_ BK154⟩, ⟨bq_ BK158⟩, ⟨(bw_ w)⟩⟩
 case round =>
  clear H'
  try clear c1
  try clear p2
  try clear c4
  try clear c7
  try clear c10
  try clear c11
  try clear hcz12_0
  try clear hcz12_1
  try clear hcz12_2
  try clear hcz5_0
  try clear hcz5_1
  try clear hcz5_2
  try clear hfz12_0
  try clear hfz12_1
  try clear hfz12_2
  try clear hfz5_0
  try clear hfz5_1
  try clear hfz5_2
  obtain ⟨x4_1, x159002_1, u159002, rfl, HA, HK1, HO_159002, BK153, BK154, BK158, HB⟩ := hrel
  cases gk with
  | zero => exact absurd HA.out (by simp [spec_l4Turn.l0])
  | succ k1 =>
   have H := HA.out
   clear HA
   simp only [spec_l4Turn.l0] at H
   by_cases c13 : x4_1 < a0_0
   ·rw [if_pos c13] at H
    have c13b0 : decide (x4_1 < a0_0) = true := decide_eq_true c13
    clear c13
    have H' := Aside0.mk H
    clear H
    have hnb14 := NB158_153.out
    have hnc14 := NB153_158.out
    have hnb15 := NB158_154.out
    have hnc15 := NB154_158.out
    obtain ⟨hcz16_0, hcz16_1, hcz16_2, hfz16_0, hfz16_1, hfz16_2⟩ := bc3_ (w := wr) BK158
    go_wp2
    go_loopg [5] k1 (fun kq v5 w' => ∃ (x5_2 : Int) (x159002_2 : List Int) (u159002 : Value), v5 = .int .i64 x5_2 ∧ Aside0 (spec_l4Turn.l1 kq x4_1 x5_2 a0_0 a0_1 l0_2 a0_1 a0_0 x159002_2 = some (r1, r2, r3)) ∧ Aside0 (kq ≤ k1) ∧ Aside0 (Kd.R (Kd.int .i64) 3 w' w.heap.size (fun _ => True) u159002 x159002_2) ∧ Aside0 (w'.heap[gb153]? = some (.cells #[.int .i64 a0_0, .int .i64 a0_1, (.slice A0_2 l0_2.length c0_2)] 26 (0, 0))) ∧ Aside0 (w'.heap[gb154]? = some (.cells #[.int .i64 0, .int .i64 0, (.slice none 0 0)] 26 (0, 0))) ∧ Aside0 (w'.heap[gb158]? = some (.cells #[.int .i64 a0_1, .int .i64 a0_0, u159002] 26 (0, 0))) ∧ Aside0 (Below w.heap.size w w'))
    case atStart => exact ⟨(0), (x159002_1), (u159002), (by first | rfl | (simp; done) | (simp [*]; done)), H', ⟨Nat.le_refl _⟩, ⟨ra_ HO_159002⟩, ⟨bk_ BK153⟩, ⟨bk_ BK154⟩, ⟨bk_ BK158⟩, ⟨(bw_ w)⟩⟩
    case round =>
     clear H'
     try clear c1
     try clear p2
     try clear c4
     try clear c7
     try clear c10
     try clear c11
     try clear c13
     try clear c13b0
     try clear c14
     try clear c15
     try clear hcz12_0
     try clear hcz12_1
     try clear hcz12_2
     try clear hcz16_0
     try clear hcz16_1
     try clear hcz16_2
     try clear hcz5_0
     try clear hcz5_1
     try clear hcz5_2
     try clear hfz12_0
     try clear hfz12_1
     try clear hfz12_2
     try clear hfz16_0
     try clear hfz16_1
     try clear hfz16_2
     try clear hfz5_0
     try clear hfz5_1
     try clear hfz5_2
     try clear p2
     obtain ⟨x5_2, x159002_2, u159002, rfl, HA, HK2, HO_159002, BK153, BK154, BK158, HB⟩ := hrel
     cases gk with
     | zero => exact absurd HA.out (by simp [spec_l4Turn.l1])
     | succ k2 =>
      have H := HA.out
      clear HA
      simp only [spec_l4Turn.l1] at H
      by_cases c17 : x5_2 < a0_1
      ·rw [if_pos c17] at H
       have c17b0 : decide (x5_2 < a0_1) = true := decide_eq_true c17
       clear c17
       replace H := Option.bind_eq_some_iff.mp H
       obtain ⟨t159, A180, H⟩ := H
       replace H : (if x159002_2.length < 17592186044416 then (spec_l4Turn.l1 k2 x4_1 (wrap64 (x5_2 + 1)) a0_0 a0_1 l0_2 a0_1 a0_0 (x159002_2 ++ [t159])) else (none)) = some (r1, r2, r3) := H
       have A18 := Aside0.mk A180
       clear A180
       by_cases c19 : x159002_2.length < 17592186044416
       ·rw [if_pos c19] at H
        have LMc19 := Aside0.mk c19
        clear c19
        obtain ⟨y160, hy160⟩ : ∃ y_ : List Int, y_ = (x159002_2 ++ [t159]) := ⟨_, rfl⟩
        replace H : (spec_l4Turn.l1 k2 x4_1 (wrap64 (x5_2 + 1)) a0_0 a0_1 l0_2 a0_1 a0_0 y160) = some (r1, r2, r3) := by first | (rw [hy160]; with_reducible exact H) | (have H2_ := (Option.bind_some _ _).symm.trans H; rw [hy160]; with_reducible exact H2_) | (have H2_ := (Option.bind_some _ _).symm.trans H; with_reducible exact H2_) | with_reducible exact H | (rw [hy160]; exact H) | exact H
        have Ny160 := Aside0.mk hy160
        clear hy160
        have H' := Aside0.mk H
        clear H
        have hnb20 := NB158_153.out
        have hnc20 := NB153_158.out
        have hnb21 := NB158_154.out
        have hnc21 := NB154_158.out
        obtain ⟨hcz22_0, hcz22_1, hcz22_2, hfz22_0, hfz22_1, hfz22_2⟩ := bc3_ (w := wr) BK158
        try go_wp2
        replace HO_159002 := Aside0.mk (Kd.R_drew HO_159002.out)
        replace BK153 := Aside0.mk (blk_drew BK153.out)
        replace BK154 := Aside0.mk (blk_drew BK154.out)
        replace BK158 := Aside0.mk (blk_drew BK158.out)
        replace HB := Aside0.mk (below_drew1 HB.out)
        refine start_ (n := 14) (S := fun w' => w'.cell? ⟨gb158, 0, none⟩ = some (.int .i64 a0_1) ∧ w'.cell? ⟨gb158, 1, none⟩ = some (.int .i64 a0_0) ∧ w'.cell? ⟨gb158, 2, none⟩ = some (u159002) ∧ w'.cell? ⟨gb153, 0, none⟩ = some (.int .i64 a0_0) ∧ w'.cell? ⟨gb153, 1, none⟩ = some (.int .i64 a0_1) ∧ w'.cell? ⟨gb153, 2, none⟩ = some (.slice A0_2 l0_2.length c0_2)) (ds := [13]) #[false, false, false, false, false, false, false, false, false, false, false, false, false, false] (by kernel_rfl) rfl rfl ⟨bc_ BK158 0, bc_ BK158 1, bc_ BK158 2, bc_ BK153 0, bc_ BK153 1, bc_ BK153 2⟩ (fun hHeld => ?_); refine with_tabW spec_l4Turn.tab8 spec_l4Turn.bits8 (fun HT_ HW_ => ?_)
        generalize wr.drew = w23 at HO_159002 BK153 BK154 BK158 HB hHeld ⊢
        refine pureA (N := some 24) 0 HT_ ?_
        refine pureA (N := some 27) 3 HT_ ?_
        refine pureA (N := some 30) 6 HT_ ?_
        refine pureA (N := some 32) 8 HT_ ?_
        refine takeA (N := some 25) 1 HT_ HW_ hHeld ?_
        refine takeA (N := some 26) 2 HT_ HW_ hHeld ?_
        refine takeA (N := some 28) 4 HT_ HW_ hHeld ?_
        refine pureA (N := some 29) 5 HT_ ?_
        refine pureA (N := some 31) 7 HT_ ?_
        refine oneA (N := some 33) 9 HT_ (fun K hK => ?_)
        refine goesA Try.func113 #[.agg #[.int .i64 a0_0, .int .i64 a0_1, .slice A0_2 l0_2.length c0_2], .int .i64 (wrap64 ((wrap64 (a0_1 - 1)) - x5_2)), .int .i64 x4_1] ?_
        with_reducible refine (spec_l2At.calls a0_0 a0_1 _ _ l0_2 (wrap64 ((wrap64 (a0_1 - 1)) - x5_2)) x4_1 t159 _ ?side1 ?side2 A18.out).mono ?_
        (case side1 => exact cb_ HR0_2 HB)
        (case side2 => exact HC0_2.out)
        rintro e w24 ⟨rfl, hb⟩
        refine ⟨_, rfl, ?_⟩
        replace HO_159002 := Aside0.mk (Kd.R_below (ra_ HO_159002) hb)
        replace BK153 := bb_ BK153 hb
        replace BK154 := bb_ BK154 hb
        replace BK158 := bb_ BK158 hb
        replace HB := Aside0.mk (below_step (bw_ w) hb)
        (try clear hb)
        (try clear hb2)
        (try clear hk)
        (try clear hi)
        refine hK.out _ _ ⟨bc_ BK158 0, bc_ BK158 1, bc_ BK158 2, bc_ BK153 0, bc_ BK153 1, bc_ BK153 2⟩ (fun hHeld => ?_)
        clear hK K
        refine normA (N := some 33) ?_
        refine oneA (N := some 34) 10 HT_ (fun K hK => ?_)
        refine value_ (w1 := ?_) (v := ?_) (by rfl) rfl ?_ ?_
        rotate_left 2
        ·go_simp
         constructor
         ·rfl
         ·rfl
        refine hK.out _ _ ⟨(blk_cell (blk_alloc BK158.out _) 0).trans rfl, (blk_cell (blk_alloc BK158.out _) 1).trans rfl, (blk_cell (blk_alloc BK158.out _) 2).trans rfl, (blk_cell (blk_alloc BK153.out _) 0).trans rfl, (blk_cell (blk_alloc BK153.out _) 1).trans rfl, (blk_cell (blk_alloc BK153.out _) 2).trans rfl⟩ (fun hHeld => ?_)
        clear hK K
        refine normA (N := some 34) ?_
        refine oneA (N := some 35) 11 HT_ (fun K hK => ?_)
        refine Kd.R_append_step (Kd.int .i64) (w0 := w) w.heap.size (by rfl) (.tmp 25) (.tmp 34) 22 3 (.int .i64 0) 8 rfl Try.underlying22 info3 rfl (by decide) (by omega) u159002 x159002_2 t159 [.int .i64 t159] (fun _ => True) (fun _ => False) rfl rfl ?aP (fun _ hk => hk.elim) ?aF ?aO ?aB ?aS ?aL ?_
        (case aP => exact rfl)
        (case aB => exact (bw_ w))
        (case aF => exact (fun _ _ => trivial))
        (case aO => exact (ra_ HO_159002))
        (case aS => exact (below_size (bw_ w)))
        (case aL => have := LMc19.out; omega)
        intro v161 w25 ho hb hg hat
        rw [← Ny160.out] at ho
        replace BK153 := Aside0.mk (blk_grown (g := gb153) (o := .cells #[.int .i64 a0_0, .int .i64 a0_1, .slice A0_2 l0_2.length c0_2] 26 (0, 0)) (bk_ BK153) hg (Kd.R_ne HO_159002.out BK153.out (by decide)))
        replace BK154 := Aside0.mk (blk_grown (g := gb154) (o := .cells #[.int .i64 0, .int .i64 0, .slice none 0 0] 26 (0, 0)) (bk_ BK154) hg (Kd.R_ne HO_159002.out BK154.out (by decide)))
        replace BK158 := Aside0.mk (blk_grown (g := gb158) (o := .cells #[.int .i64 a0_1, .int .i64 a0_0, u159002] 26 (0, 0)) (bk_ BK158) hg (Kd.R_ne HO_159002.out BK158.out (by decide)))
        have HO162 := Aside0.mk (ho)
        replace HB := Aside0.mk (hb)
        clear HO_159002
        clear ho hb hg hat
        obtain ⟨Ao26, co26, eo26⟩ := Kd.R_slice HO162.out
        (first | subst eo26 | (injection eo26 with f1_ f2_ f3_; have f4_ := f1_.symm; have f5_ := f3_.symm; clear f1_ f2_ f3_; subst f4_; subst f5_))
        refine hK.out _ _ ⟨bc_ BK158 0, bc_ BK158 1, bc_ BK158 2, bc_ BK153 0, bc_ BK153 1, bc_ BK153 2⟩ (fun hHeld => ?_)
        clear hK K
        refine normA (N := some 35) ?_
        refine pureA (N := some 36) 12 HT_ ?_
        refine lastA (N := none) 13 HT_ (fun K hK => ?_)
        have hs27 : w25.cell? ⟨gb158, 2, none⟩ = some (u159002) := bc_ BK158 2
        have hfs27 := blk_frozen BK158.out 2
        have hns27_0 := NB153_158.out
        have hns27_1 := NB154_158.out
        have hms27_0 := NB158_153.out
        have hms27_1 := NB158_154.out
        refine skip_ (w1 := ?_) (by rfl) rfl ?_ ?_
        rotate_left
        ·go_simp
         rfl
        refine hK.out _ _ ?_
        clear hK K
        refine done_ (done_of HT_.out (by kernel_rfl)) ?_
        try go_wp2
        go_roundg k2
        case measure => have := HK1.out; have := HK2.out; omega
        case rel => exact ⟨(wrap64 (x5_2 + 1)), (y160), (.slice Ao26 y160.length co26), (by first | rfl | (simp; done) | (simp [*]; done)), H', ⟨by have := HK1.out; have := HK2.out; omega⟩, ⟨by exact rf_ (Kd.R_types HO162.out BK158.out (by decide)) (fun _ hk => trivial)⟩, ⟨bk_ BK153⟩, ⟨bk_ BK154⟩, ⟨bq_ BK158⟩, ⟨(bw_ w)⟩⟩
       ·rw [if_neg c19] at H
        exact absurd H (by simp)
      ·rw [if_neg c17] at H
       have c17b0 : decide (x5_2 < a0_1) = false := decide_eq_false c17
       clear c17
       have H' := Aside0.mk H
       clear H
       have hnb28 := NB158_153.out
       have hnc28 := NB153_158.out
       have hnb29 := NB158_154.out
       have hnc29 := NB154_158.out
       obtain ⟨hcz30_0, hcz30_1, hcz30_2, hfz30_0, hfz30_1, hfz30_2⟩ := bc3_ (w := wr) BK158
       go_wp2
       go_roundg k2
       case measure => have := HK1.out; have := HK2.out; omega
       case rel => exact ⟨(wrap64 (x4_1 + 1)), (x159002_2), (u159002), (by first | rfl | (simp; done) | (simp [*]; done)), H', ⟨by have := HK1.out; have := HK2.out; omega⟩, ⟨ra_ HO_159002⟩, ⟨bk_ BK153⟩, ⟨bk_ BK154⟩, ⟨bk_ BK158⟩, ⟨(bw_ w)⟩⟩
   ·rw [if_neg c13] at H
    have c13b0 : decide (x4_1 < a0_0) = false := decide_eq_false c13
    clear c13
    simp only [Option.some.injEq, Prod.mk.injEq] at H
    obtain ⟨rfl, rfl, rfl⟩ := H
    have hnb31 := NB158_153.out
    have hnc31 := NB153_158.out
    have hnb32 := NB158_154.out
    have hnc32 := NB154_158.out
    obtain ⟨hcz33_0, hcz33_1, hcz33_2, hfz33_0, hfz33_1, hfz33_2⟩ := bc3_ (w := wr) BK158
    have hnb34 := NB154_153.out
    have hnc34 := NB153_154.out
    obtain ⟨hcz35_0, hcz35_1, hcz35_2, hfz35_0, hfz35_1, hfz35_2⟩ := bc3_ (w := wr) BK154
    obtain ⟨Ao36, co36, eo36⟩ := Kd.R_slice HO_159002.out
    subst eo36
    go_wp2
    refine bodyPost_ret (results_cell_row rfl _ _ gb154 26 #[.int .i64 a0_1, .int .i64 a0_0, .slice Ao36 x159002_1.length co36] (0, 0) _ rfl (bq_ BK154) Try.underlying26 rfl (by kernel_rfl)) rfl ?_
    exact ⟨_, by first | rfl | (simp [errW_none, errW_some] <;> rfl) | (simp [*, errW_none, errW_some] <;> rfl), by exact rf_ (Kd.R_types HO_159002.out BK154.out (by decide)) (fun _ hk => trivial), (bw_ w)⟩

/-! ### spec_l4Move: function 78 -/
mutual
def spec_l4Move.j0 : Nat → Int → Int → Int → List Int → Option (Int × Int × List Int)
  | 0, _, _, _, _ => none
  | k + 1, x1, x171000, x171001, x171002 => spec_l4Move.l0 k x1 0 x171000 x171001 x171002
def spec_l4Move.l0 : Nat → Int → Int → Int → Int → List Int → Option (Int × Int × List Int)
  | 0, _, _, _, _, _ => none
  | k + 1, x1, x6, x171000, x171001, x171002 => if x6 < (Int.tmod x1 4) then ((spec_l4Turn.f k x171000 x171001 x171002).bind fun bt176 => (spec_l4Move.l0 k x1 (wrap64 (x6 + 1)) bt176.1 bt176.2.1 bt176.2.2)) else (some (x171000, x171001, x171002))
end
def spec_l4Move.f (k : Nat) (a0_0 : Int) (a0_1 : Int) (l0_2 : List Int) (a1 : Int) : Option (Int × Int × List Int) := (spec_l2Own.f a0_0 a0_1 l0_2).bind fun bt165 => (if a1 ≥ 4 then ((spec_l4Mirror.f k bt165.1 bt165.2.1 bt165.2.2).bind fun bt171 => (spec_l4Move.j0 k a1 bt171.1 bt171.2.1 bt171.2.2)) else (spec_l4Move.j0 k a1 bt165.1 bt165.2.1 bt165.2.2))
theorem spec_l4Move.mono_l : ∀ k, (∀ y0 y1 y2 y3, LeO (spec_l4Move.j0 k y0 y1 y2 y3) (spec_l4Move.j0 (k + 1) y0 y1 y2 y3)) ∧ (∀ y0 y1 y2 y3 y4, LeO (spec_l4Move.l0 k y0 y1 y2 y3 y4) (spec_l4Move.l0 (k + 1) y0 y1 y2 y3 y4))
  | 0 => ⟨fun _ _ _ _ r h => by simp [spec_l4Move.j0] at h, fun _ _ _ _ _ r h => by simp [spec_l4Move.l0] at h⟩
  | k + 1 => by
    obtain ⟨ih0, ih1⟩ := spec_l4Move.mono_l k
    refine ⟨?_, ?_⟩
    · intro y0 y1 y2 y3
      unfold spec_l4Move.j0
      repeat' first
      | (with_reducible exact ih0 _ _ _ _)
      | (with_reducible exact ih1 _ _ _ _ _)
      | (with_reducible exact spec_l4Mirror.mono _ _ _ _)
      | (with_reducible exact spec_l4Turn.mono _ _ _ _)
      | (with_reducible exact LeO.refl _)
      | (with_reducible exact LeO.none _)
      | (with_reducible refine LeO.ite ?_ ?_)
      | (with_reducible refine LeO.bind ?_ (fun _ => ?_))
      | exact ih0 _ _ _ _
      | exact ih1 _ _ _ _ _
      | exact spec_l4Mirror.mono _ _ _ _
      | exact spec_l4Turn.mono _ _ _ _
      | exact LeO.none _
      | refine LeO.ite ?_ ?_
      | refine LeO.bind ?_ (fun _ => ?_)
    · intro y0 y1 y2 y3 y4
      unfold spec_l4Move.l0
      repeat' first
      | (with_reducible exact ih0 _ _ _ _)
      | (with_reducible exact ih1 _ _ _ _ _)
      | (with_reducible exact spec_l4Mirror.mono _ _ _ _)
      | (with_reducible exact spec_l4Turn.mono _ _ _ _)
      | (with_reducible exact LeO.refl _)
      | (with_reducible exact LeO.none _)
      | (with_reducible refine LeO.ite ?_ ?_)
      | (with_reducible refine LeO.bind ?_ (fun _ => ?_))
      | exact ih0 _ _ _ _
      | exact ih1 _ _ _ _ _
      | exact spec_l4Mirror.mono _ _ _ _
      | exact spec_l4Turn.mono _ _ _ _
      | exact LeO.none _
      | refine LeO.ite ?_ ?_
      | refine LeO.bind ?_ (fun _ => ?_)
theorem spec_l4Move.mono : ∀ a0 a1 a2 a3 k, LeO (spec_l4Move.f k a0 a1 a2 a3) (spec_l4Move.f (k + 1) a0 a1 a2 a3) := by
  intro a0 a1 a2 a3 k
  obtain ⟨ih0, ih1⟩ := spec_l4Move.mono_l k
  unfold spec_l4Move.f
  repeat' first
      | (with_reducible exact ih0 _ _ _ _)
      | (with_reducible exact ih1 _ _ _ _ _)
      | (with_reducible exact spec_l4Mirror.mono _ _ _ _)
      | (with_reducible exact spec_l4Turn.mono _ _ _ _)
      | (with_reducible exact LeO.refl _)
      | (with_reducible exact LeO.none _)
      | (with_reducible refine LeO.ite ?_ ?_)
      | (with_reducible refine LeO.bind ?_ (fun _ => ?_))
      | exact ih0 _ _ _ _
      | exact ih1 _ _ _ _ _
      | exact spec_l4Mirror.mono _ _ _ _
      | exact spec_l4Turn.mono _ _ _ _
      | exact LeO.none _
      | refine LeO.ite ?_ ?_
      | refine LeO.bind ?_ (fun _ => ?_)
set_option maxHeartbeats 8000000 in
set_option maxRecDepth 100000 in
theorem spec_l4Move.calls (k : Nat) (a0_0 : Int) (a0_1 : Int) (A0_2 : Option Addr) (c0_2 : Nat) (l0_2 : List Int) (a1 : Int) (r1 : Int) (r2 : Int) (r3 : List Int) (w : World) (hr0_2 : Kd.C (Kd.int .i64) w A0_2 l0_2.length l0_2) (hc0_2 : l0_2.length ≤ c0_2) (h : spec_l4Move.f k a0_0 a0_1 l0_2 a1 = some (r1, r2, r3)) :
  Calls Try.prog 78 #[.agg #[.int .i64 a0_0, .int .i64 a0_1, .slice A0_2 l0_2.length c0_2], .int .i64 a1] w fun e w' => ∃ v2_ : Value, e = .returned (.agg #[.int .i64 r1, .int .i64 r2, v2_]) ∧ Kd.R (Kd.int .i64) 3 w' w.heap.size (fun _ => True) v2_ r3 ∧ Below w.heap.size w w' := by
 have hu26 := Try.underlying26
 have HR0_2 := Aside0.mk hr0_2
 have HC0_2 := Aside0.mk hc0_2
 clear hr0_2 hc0_2
 have HB := Aside0.mk (Below.refl w.heap.size w)
 have H : ((spec_l2Own.f a0_0 a0_1 l0_2).bind fun bt165 => (if a1 ≥ 4 then ((spec_l4Mirror.f k bt165.1 bt165.2.1 bt165.2.2).bind fun bt171 => (spec_l4Move.j0 k a1 bt171.1 bt171.2.1 bt171.2.2)) else (spec_l4Move.j0 k a1 bt165.1 bt165.2.1 bt165.2.2))) = some (r1, r2, r3) := h
 clear h
 replace H := Option.bind_eq_some_iff.mp H
 obtain ⟨⟨t165, t166, t167⟩, A30, H⟩ := H
 replace H : (if a1 ≥ 4 then ((spec_l4Mirror.f k t165 t166 t167).bind fun bt171 => (spec_l4Move.j0 k a1 bt171.1 bt171.2.1 bt171.2.2)) else (spec_l4Move.j0 k a1 t165 t166 t167)) = some (r1, r2, r3) := H
 have A3 := Aside0.mk A30
 clear A30
 have HC4 := Aside0.mk H
 clear H
 go_enter Try.func78, Try.ntmps78
 go_upto_if 10 with (first | ((with_reducible refine gate_dst (N := 2) rfl ?_); refine box_ (N := 2) (cs := #[.int .i64 a0_0, .int .i64 a0_1, .slice A0_2 l0_2.length c0_2]) (t := 26) ?_; intro gb163 hg w5 hbox hb; have BK163 := Aside0.mk (hbox); have GW163 := gz_ w hg; have GE163 := gz_ w hg; replace HB := Aside0.mk (below_step (bw_ w) hb); clear hb hbox hg) | ((with_reducible refine gate_dst (N := 4) rfl ?_); refine box_ (N := 4) (cs := #[.int .i64 0, .int .i64 0, .slice none 0 0]) (t := 26) ?_; intro gb164 hg w6 hbox hb; have n0_ := bb_ BK163 hb; have n1_ := Aside0.mk (below_step (bw_ w) hb); have n2_ := Aside0.mk (hbox); have n3_ := gz_ w hg; have n4_ := gz_ w hg; have n5_ := ne_ hg BK163; have n6_ := en_ hg BK163; clear BK163; clear HB; have BK163 := n0_; have HB := n1_; have BK164 := n2_; have GW164 := n3_; have GE164 := n4_; have NB163_164 := n5_; have NB164_163 := n6_; clear n0_ n1_ n2_ n3_ n4_ n5_ n6_; clear hb hbox hg; have hnb7 := NB163_164.out; have hnc7 := NB164_163.out; obtain ⟨hcz8_0, hcz8_1, hcz8_2, hfz8_0, hfz8_1, hfz8_2⟩ := bc3_ (w := w6) BK163) | ((with_reducible refine gate_callee (f := 56) rfl ?_); refine goesB (some 8) Try.func56 #[.agg #[.int .i64 a0_0, .int .i64 a0_1, .slice A0_2 l0_2.length c0_2]] ?_; (with_reducible refine (spec_l2Own.calls a0_0 a0_1 _ _ l0_2 t165 t166 t167 _ ?side1 ?side2 A3.out).mono ?_); (case side1 => exact cb_ HR0_2 HB); (case side2 => exact HC0_2.out); rintro e w9 ⟨v168, rfl, ho0, hb⟩; refine ⟨_, rfl, ?_⟩; have HO169 := Aside0.mk (Kd.R_lower ho0 (below_size (bw_ w))); replace BK163 := bb_ BK163 hb; replace BK164 := bb_ BK164 hb; replace HB := Aside0.mk (below_step (bw_ w) hb); (try clear hb); (try clear hb2); (try clear hk); (try clear hi); (try clear ho0)) | ((with_reducible refine gate_dst (N := 5) rfl ?_); refine box_ (N := 5) (cs := #[.int .i64 0, .int .i64 0, .slice none 0 0]) (t := 26) ?_; intro gb170 hg w10 hbox hb; have n0_ := Aside0.mk (Kd.R_below (ra_ HO169) hb); have n1_ := bb_ BK163 hb; have n2_ := bb_ BK164 hb; have n3_ := Aside0.mk (below_step (bw_ w) hb); have n4_ := Aside0.mk (hbox); have n5_ := gz_ w hg; have n6_ := gz_ w hg; have n7_ := ne_ hg BK163; have n8_ := en_ hg BK163; have n9_ := ne_ hg BK164; have n10_ := en_ hg BK164; clear HO169; clear BK163; clear BK164; clear HB; have HO169 := n0_; have BK163 := n1_; have BK164 := n2_; have HB := n3_; have BK170 := n4_; have GW170 := n5_; have GE170 := n6_; have NB163_170 := n7_; have NB170_163 := n8_; have NB164_170 := n9_; have NB170_164 := n10_; clear n0_ n1_ n2_ n3_ n4_ n5_ n6_ n7_ n8_ n9_ n10_; clear hb hbox hg; have hnb11 := NB170_163.out; have hnc11 := NB163_170.out; have hnb12 := NB170_164.out; have hnc12 := NB164_170.out; obtain ⟨hcz13_0, hcz13_1, hcz13_2, hfz13_0, hfz13_1, hfz13_2⟩ := bc3_ (w := w10) BK170; obtain ⟨Ao14, co14, eo14⟩ := Kd.R_slice HO169.out; subst eo14))
 (try simp only [Act.put, List.setIfInBounds_toArray, List.set_cons_zero, List.set_cons_succ])
 go_cut [] (fun wc => ∃ (kq : Nat) (x171000_3 : Int) (x171001_3 : Int) (x171002_3 : List Int) (u171002 : Value), Aside0 (spec_l4Move.j0 kq a1 x171000_3 x171001_3 x171002_3 = some (r1, r2, r3)) ∧ Aside0 (kq ≤ k) ∧ Aside0 (Kd.R (Kd.int .i64) 3 wc w.heap.size (fun _ => True) u171002 x171002_3) ∧ Aside0 (wc.heap[gb163]? = some (.cells #[.int .i64 a0_0, .int .i64 a0_1, (.slice A0_2 l0_2.length c0_2)] 26 (0, 0))) ∧ Aside0 (wc.heap[gb164]? = some (.cells #[.int .i64 0, .int .i64 0, (.slice none 0 0)] 26 (0, 0))) ∧ Aside0 (wc.heap[gb170]? = some (.cells #[.int .i64 x171000_3, .int .i64 x171001_3, u171002] 26 (0, 0))) ∧ Aside0 (Below w.heap.size w wc))
 case first =>
  have H := HC4.out
  clear HC4
  by_cases c15 : a1 ≥ 4
  ·rw [if_pos c15] at H
   have c15b0 : decide (4 ≤ a1) = true := decide_eq_true c15
   clear c15
   (first | rw [c15b0] | (simp only [i64_w, i32_w]; rw [c15b0]) | skip)
   replace H := Option.bind_eq_some_iff.mp H
   obtain ⟨⟨t171, t172, t173⟩, A160, H⟩ := H
   replace H : (spec_l4Move.j0 k a1 t171 t172 t173) = some (r1, r2, r3) := H
   have A16 := Aside0.mk A160
   clear A160
   have H' := Aside0.mk H
   clear H
   have hnb17 := NB170_163.out
   have hnc17 := NB163_170.out
   have hnb18 := NB170_164.out
   have hnc18 := NB164_170.out
   obtain ⟨hcz19_0, hcz19_1, hcz19_2, hfz19_0, hfz19_1, hfz19_2⟩ := bc3_ (w := w10) BK170
   go_wp2_with (first | ((with_reducible refine gate_callee (f := 74) rfl ?_); refine goesB (some 12) Try.func74 #[.agg #[.int .i64 t165, .int .i64 t166, .slice Ao14 t167.length co14]] ?_; (with_reducible refine (spec_l4Mirror.calls k t165 t166 _ _ t167 t171 t172 t173 _ ?side1 ?side2 A16.out).mono ?_); (case side1 => refine (Kd.R_reads' (e := 3) (base := w.heap.size) (ok := fun k_ => True) (n := t167.length) (c := co14) ?_).2.2; exact (by exact rf_ (Kd.R_types HO169.out BK170.out (by decide)) (fun _ h_ => h_.1))); (case side2 => exact (Kd.R_reads' HO169.out).2.1); rintro e w20 ⟨v174, rfl, ho0, hb⟩; refine ⟨_, rfl, ?_⟩; have n0_ := Aside0.mk (Kd.R_elder' (by exact rf_ (Kd.R_types HO169.out BK170.out (by decide)) (fun _ h_ => h_.1)) (Kd.R_base ho0) hb); have n1_ := Aside0.mk (Kd.R_lower (Kd.R_new' ho0 (Kd.R_lt (by exact rf_ (Kd.R_types HO169.out BK170.out (by decide)) (fun _ h_ => h_.1)))) (below_size (bw_ w))); have n2_ := bb_ BK163 hb; have n3_ := bb_ BK164 hb; have n4_ := Aside0.mk (blk_below (g := gb170) (o := .cells #[.int .i64 t165, .int .i64 t166, .slice Ao14 t167.length co14] 26 (0, 0)) (bq_ BK170) hb); have n5_ := Aside0.mk (below_step (bw_ w) hb); clear HO169; clear BK163; clear BK164; clear BK170; clear HB; have HO169 := n0_; have HO175 := n1_; have BK163 := n2_; have BK164 := n3_; have BK170 := n4_; have HB := n5_; clear n0_ n1_ n2_ n3_ n4_ n5_; (try clear hb); (try clear hb2); (try clear hk); (try clear hi); (try clear ho0); obtain ⟨hcz21_0, hcz21_1, hcz21_2, hfz21_0, hfz21_1, hfz21_2⟩ := bc3_ (w := w20) BK170; obtain ⟨Ao22, co22, eo22⟩ := Kd.R_slice HO175.out; subst eo22))
   go_meet
   case rel => exact ⟨_, (t171), (t172), (t173), (.slice Ao22 t173.length co22), H', ⟨by first | omega | exact Nat.le_refl _⟩, ⟨by exact rf_ (Kd.R_types HO175.out BK170.out (by decide)) (fun _ hk => trivial)⟩, ⟨bk_ BK163⟩, ⟨bk_ BK164⟩, ⟨bq_ BK170⟩, ⟨(bw_ w)⟩⟩
  ·rw [if_neg c15] at H
   have c15b0 : decide (4 ≤ a1) = false := decide_eq_false c15
   clear c15
   (first | rw [c15b0] | (simp only [i64_w, i32_w]; rw [c15b0]) | skip)
   have H' := Aside0.mk H
   clear H
   go_wp2
   go_meet
   case rel => exact ⟨_, (t165), (t166), (t167), (.slice Ao14 t167.length co14), H', ⟨by first | omega | exact Nat.le_refl _⟩, ⟨by exact rf_ (Kd.R_types HO169.out BK170.out (by decide)) (fun _ hk => trivial)⟩, ⟨bk_ BK163⟩, ⟨bk_ BK164⟩, ⟨bq_ BK170⟩, ⟨(bw_ w)⟩⟩
 case rest =>
  clear HC4
  try clear c1
  try clear p2
  try clear c5
  try clear c7
  try clear c11
  try clear c12
  try clear c15
  try clear c15b0
  try clear c17
  try clear c18
  try clear hcz13_0
  try clear hcz13_1
  try clear hcz13_2
  try clear hcz19_0
  try clear hcz19_1
  try clear hcz19_2
  try clear hcz21_0
  try clear hcz21_1
  try clear hcz21_2
  try clear hcz8_0
  try clear hcz8_1
  try clear hcz8_2
  try clear hfz13_0
  try clear hfz13_1
  try clear hfz13_2
  try clear hfz19_0
  try clear hfz19_1
  try clear hfz19_2
  try clear hfz21_0
  try clear hfz21_1
  try clear hfz21_2
  try clear hfz8_0
  try clear hfz8_1
  try clear hfz8_2
  obtain ⟨kq, x171000_3, x171001_3, x171002_3, u171002, HA, HJ3, HO_171002, BK163, BK164, BK170, HB⟩ := hcut
  cases kq with
  | zero => exact absurd HA.out (by simp [spec_l4Move.j0])
  | succ kj3 =>
   have H := HA.out
   clear HA
   simp only [spec_l4Move.j0] at H
   have H' := Aside0.mk H
   clear H
   go_wp2
   go_loopg [6] kj3 (fun kq v6 w' => ∃ (x6_2 : Int) (x171000_2 : Int) (x171001_2 : Int) (x171002_2 : List Int) (u171002 : Value), v6 = .int .i64 x6_2 ∧ Aside0 (spec_l4Move.l0 kq a1 x6_2 x171000_2 x171001_2 x171002_2 = some (r1, r2, r3)) ∧ Aside0 (kq ≤ kj3) ∧ Aside0 (Kd.R (Kd.int .i64) 3 w' w.heap.size (fun _ => True) u171002 x171002_2) ∧ Aside0 (w'.heap[gb163]? = some (.cells #[.int .i64 a0_0, .int .i64 a0_1, (.slice A0_2 l0_2.length c0_2)] 26 (0, 0))) ∧ Aside0 (w'.heap[gb164]? = some (.cells #[.int .i64 0, .int .i64 0, (.slice none 0 0)] 26 (0, 0))) ∧ Aside0 (w'.heap[gb170]? = some (.cells #[.int .i64 x171000_2, .int .i64 x171001_2, u171002] 26 (0, 0))) ∧ Aside0 (Below w.heap.size w w'))
   case atStart => exact ⟨(0), (x171000_3), (x171001_3), (x171002_3), (u171002), (by first | rfl | (simp; done) | (simp [*]; done)), H', ⟨Nat.le_refl _⟩, ⟨ra_ HO_171002⟩, ⟨bk_ BK163⟩, ⟨bk_ BK164⟩, ⟨bk_ BK170⟩, ⟨(bw_ w)⟩⟩
   case round =>
    clear H'
    try clear c1
    try clear p2
    try clear c5
    try clear c7
    try clear c11
    try clear c12
    try clear c15
    try clear c15b0
    try clear c17
    try clear c18
    try clear hcz13_0
    try clear hcz13_1
    try clear hcz13_2
    try clear hcz19_0
    try clear hcz19_1
    try clear hcz19_2
    try clear hcz21_0
    try clear hcz21_1
    try clear hcz21_2
    try clear hcz8_0
    try clear hcz8_1
    try clear hcz8_2
    try clear hfz13_0
    try clear hfz13_1
    try clear hfz13_2
    try clear hfz19_0
    try clear hfz19_1
    try clear hfz19_2
    try clear hfz21_0
    try clear hfz21_1
    try clear hfz21_2
    try clear hfz8_0
    try clear hfz8_1
    try clear hfz8_2
    try clear p2
    obtain ⟨x6_2, x171000_2, x171001_2, x171002_2, u171002, rfl, HA, HK2, HO_171002, BK163, BK164, BK170, HB⟩ := hrel
    cases gk with
    | zero => exact absurd HA.out (by simp [spec_l4Move.l0])
    | succ k2 =>
     have H := HA.out
     clear HA
     simp only [spec_l4Move.l0] at H
     by_cases c23 : x6_2 < (Int.tmod a1 4)
     ·rw [if_pos c23] at H
      have c23b0 : decide (x6_2 < (Int.tmod a1 4)) = true := decide_eq_true c23
      clear c23
      replace H := Option.bind_eq_some_iff.mp H
      obtain ⟨⟨t176, t177, t178⟩, A240, H⟩ := H
      replace H : (spec_l4Move.l0 k2 a1 (wrap64 (x6_2 + 1)) t176 t177 t178) = some (r1, r2, r3) := H
      have A24 := Aside0.mk A240
      clear A240
      have H' := Aside0.mk H
      clear H
      have hnb25 := NB170_163.out
      have hnc25 := NB163_170.out
      have hnb26 := NB170_164.out
      have hnc26 := NB164_170.out
      obtain ⟨hcz27_0, hcz27_1, hcz27_2, hfz27_0, hfz27_1, hfz27_2⟩ := bc3_ (w := wr) BK170
      obtain ⟨Ao28, co28, eo28⟩ := Kd.R_slice HO_171002.out
      subst eo28
      go_wp2_with (first | ((with_reducible refine gate_callee (f := 75) rfl ?_); refine goesB (some 20) Try.func75 #[.agg #[.int .i64 x171000_2, .int .i64 x171001_2, .slice Ao28 x171002_2.length co28]] ?_; (with_reducible refine (spec_l4Turn.calls k2 x171000_2 x171001_2 _ _ x171002_2 t176 t177 t178 _ ?side1 ?side2 A24.out).mono ?_); (case side1 => exact co_ (Kd.R_reads' HO_171002.out).2.2); (case side2 => exact (Kd.R_reads' HO_171002.out).2.1); rintro e w29 ⟨v179, rfl, ho0, hb⟩; refine ⟨_, rfl, ?_⟩; have n0_ := Aside0.mk (Kd.R_elder' (ra_ HO_171002) (Kd.R_base ho0) hb); have n1_ := Aside0.mk (Kd.R_lower (Kd.R_new' ho0 (Kd.R_lt (ra_ HO_171002))) (below_size (bw_ w))); have n2_ := bb_ BK163 hb; have n3_ := bb_ BK164 hb; have n4_ := bb_ BK170 hb; have n5_ := Aside0.mk (below_step (bw_ w) hb); clear HO_171002; clear BK163; clear BK164; clear BK170; clear HB; have HO_171002 := n0_; have HO180 := n1_; have BK163 := n2_; have BK164 := n3_; have BK170 := n4_; have HB := n5_; clear n0_ n1_ n2_ n3_ n4_ n5_; (try clear hb); (try clear hb2); (try clear hk); (try clear hi); (try clear ho0); obtain ⟨hcz30_0, hcz30_1, hcz30_2, hfz30_0, hfz30_1, hfz30_2⟩ := bc3_ (w := w29) BK170; obtain ⟨Ao31, co31, eo31⟩ := Kd.R_slice HO180.out; subst eo31))
      go_roundg k2
      case measure => have := HJ3.out; have := HK2.out; omega
      case rel => exact ⟨(wrap64 (x6_2 + 1)), (t176), (t177), (t178), (.slice Ao31 t178.length co31), (by first | rfl | (simp; done) | (simp [*]; done)), H', ⟨by have := HJ3.out; have := HK2.out; omega⟩, ⟨by exact rf_ (Kd.R_types HO180.out BK170.out (by decide)) (fun _ hk => trivial)⟩, ⟨bk_ BK163⟩, ⟨bk_ BK164⟩, ⟨bq_ BK170⟩, ⟨(bw_ w)⟩⟩
     ·rw [if_neg c23] at H
      have c23b0 : decide (x6_2 < (Int.tmod a1 4)) = false := decide_eq_false c23
      clear c23
      simp only [Option.some.injEq, Prod.mk.injEq] at H
      obtain ⟨rfl, rfl, rfl⟩ := H
      have hnb32 := NB170_163.out
      have hnc32 := NB163_170.out
      have hnb33 := NB170_164.out
      have hnc33 := NB164_170.out
      obtain ⟨hcz34_0, hcz34_1, hcz34_2, hfz34_0, hfz34_1, hfz34_2⟩ := bc3_ (w := wr) BK170
      have hnb35 := NB164_163.out
      have hnc35 := NB163_164.out
      obtain ⟨hcz36_0, hcz36_1, hcz36_2, hfz36_0, hfz36_1, hfz36_2⟩ := bc3_ (w := wr) BK164
      obtain ⟨Ao37, co37, eo37⟩ := Kd.R_slice HO_171002.out
      subst eo37
      go_wp2
      refine bodyPost_ret (results_cell_row rfl _ _ gb164 26 #[.int .i64 x171000_2, .int .i64 x171001_2, .slice Ao37 x171002_2.length co37] (0, 0) _ rfl (bq_ BK164) Try.underlying26 rfl (by kernel_rfl)) rfl ?_
      exact ⟨_, by first | rfl | (simp [errW_none, errW_some] <;> rfl) | (simp [*, errW_none, errW_some] <;> rfl), by exact rf_ (Kd.R_types HO_171002.out BK164.out (by decide)) (fun _ hk => trivial), (bw_ w)⟩

/-! ### spec_l2Part: function 124 -/
mutual
def spec_l2Part.l0 : Nat → Int → Int → Int → Int → Int → Int → Int → List Int → Int → Int → List Int → Option (Int × Int × List Int)
  | 0, _, _, _, _, _, _, _, _, _, _, _ => none
  | k + 1, x1, x2, x3, x4, x12, x182000, x182001, x182002, x187000, x187001, x187002 => if x12 < (wrap64 (x1 + x3)) then (spec_l2Part.l1 k x1 x2 x3 x4 x12 x2 x182000 x182001 x182002 x187000 x187001 x187002) else (some (x187000, x187001, x187002))
def spec_l2Part.l1 : Nat → Int → Int → Int → Int → Int → Int → Int → Int → List Int → Int → Int → List Int → Option (Int × Int × List Int)
  | 0, _, _, _, _, _, _, _, _, _, _, _, _ => none
  | k + 1, x1, x2, x3, x4, x12, x13, x182000, x182001, x182002, x187000, x187001, x187002 => if x13 < (wrap64 (x2 + x4)) then ((spec_l2At.f x182000 x182001 x182002 x12 x13).bind fun t187 => (if x187002.length < 17592186044416 then (spec_l2Part.l1 k x1 x2 x3 x4 x12 (wrap64 (x13 + 1)) x182000 x182001 x182002 x187000 x187001 (x187002 ++ [t187])) else (none))) else (spec_l2Part.l0 k x1 x2 x3 x4 (wrap64 (x12 + 1)) x182000 x182001 x182002 x187000 x187001 x187002)
end
def spec_l2Part.f (k : Nat) (a0_0 : Int) (a0_1 : Int) (l0_2 : List Int) (a1 : Int) (a2 : Int) (a3 : Int) (a4 : Int) : Option (Int × Int × List Int) := spec_l2Part.l0 k a1 a2 a3 a4 a1 a0_0 a0_1 l0_2 a4 a3 (([] : List Int))
theorem spec_l2Part.mono_l : ∀ k, (∀ y0 y1 y2 y3 y4 y5 y6 y7 y8 y9 y10, LeO (spec_l2Part.l0 k y0 y1 y2 y3 y4 y5 y6 y7 y8 y9 y10) (spec_l2Part.l0 (k + 1) y0 y1 y2 y3 y4 y5 y6 y7 y8 y9 y10)) ∧ (∀ y0 y1 y2 y3 y4 y5 y6 y7 y8 y9 y10 y11, LeO (spec_l2Part.l1 k y0 y1 y2 y3 y4 y5 y6 y7 y8 y9 y10 y11) (spec_l2Part.l1 (k + 1) y0 y1 y2 y3 y4 y5 y6 y7 y8 y9 y10 y11))
  | 0 => ⟨fun _ _ _ _ _ _ _ _ _ _ _ r h => by simp [spec_l2Part.l0] at h, fun _ _ _ _ _ _ _ _ _ _ _ _ r h => by simp [spec_l2Part.l1] at h⟩
  | k + 1 => by
    obtain ⟨ih0, ih1⟩ := spec_l2Part.mono_l k
    refine ⟨?_, ?_⟩
    · intro y0 y1 y2 y3 y4 y5 y6 y7 y8 y9 y10
      unfold spec_l2Part.l0
      repeat' first
      | (with_reducible exact ih0 _ _ _ _ _ _ _ _ _ _ _)
      | (with_reducible exact ih1 _ _ _ _ _ _ _ _ _ _ _ _)
      | (with_reducible exact LeO.refl _)
      | (with_reducible exact LeO.none _)
      | (with_reducible refine LeO.ite ?_ ?_)
      | (with_reducible refine LeO.bind ?_ (fun _ => ?_))
      | exact ih0 _ _ _ _ _ _ _ _ _ _ _
      | exact ih1 _ _ _ _ _ _ _ _ _ _ _ _
      | exact LeO.none _
      | refine LeO.ite ?_ ?_
      | refine LeO.bind ?_ (fun _ => ?_)
    · intro y0 y1 y2 y3 y4 y5 y6 y7 y8 y9 y10 y11
      unfold spec_l2Part.l1
      repeat' first
      | (with_reducible exact ih0 _ _ _ _ _ _ _ _ _ _ _)
      | (with_reducible exact ih1 _ _ _ _ _ _ _ _ _ _ _ _)
      | (with_reducible exact LeO.refl _)
      | (with_reducible exact LeO.none _)
      | (with_reducible refine LeO.ite ?_ ?_)
      | (with_reducible refine LeO.bind ?_ (fun _ => ?_))
      | exact ih0 _ _ _ _ _ _ _ _ _ _ _
      | exact ih1 _ _ _ _ _ _ _ _ _ _ _ _
      | exact LeO.none _
      | refine LeO.ite ?_ ?_
      | refine LeO.bind ?_ (fun _ => ?_)
theorem spec_l2Part.mono : ∀ a0 a1 a2 a3 a4 a5 a6 k, LeO (spec_l2Part.f k a0 a1 a2 a3 a4 a5 a6) (spec_l2Part.f (k + 1) a0 a1 a2 a3 a4 a5 a6) := by
  intro a0 a1 a2 a3 a4 a5 a6 k
  obtain ⟨ih0, ih1⟩ := spec_l2Part.mono_l k
  unfold spec_l2Part.f
  repeat' first
      | (with_reducible exact ih0 _ _ _ _ _ _ _ _ _ _ _)
      | (with_reducible exact ih1 _ _ _ _ _ _ _ _ _ _ _ _)
      | (with_reducible exact LeO.refl _)
      | (with_reducible exact LeO.none _)
      | (with_reducible refine LeO.ite ?_ ?_)
      | (with_reducible refine LeO.bind ?_ (fun _ => ?_))
      | exact ih0 _ _ _ _ _ _ _ _ _ _ _
      | exact ih1 _ _ _ _ _ _ _ _ _ _ _ _
      | exact LeO.none _
      | refine LeO.ite ?_ ?_
      | refine LeO.bind ?_ (fun _ => ?_)
def spec_l2Part.T8 : Bool × List (List Nat × List Nat) := (true, [([], []), ([0], [0]), ([], []), ([], []), ([], []), ([2, 3, 4], [2, 3, 4]), ([5], [5]), ([1, 6, 5], [1, 6]), ([0, 1, 2, 3, 4, 5, 6, 7], []), ([8, 7, 7, 0, 1, 2, 3, 4, 5, 6, 7], [7, 8])])
def spec_l2Part.B8 : List Nat := [0, 1, 0, 0, 0, 28, 60, 127, 255, 511]
theorem spec_l2Part.tab8 : rtab .any (opsOf Try.f124 8) = spec_l2Part.T8 := by kernel_rfl
theorem spec_l2Part.bits8 : waitsOk spec_l2Part.T8.2 spec_l2Part.B8 = true := by kernel_rfl
set_option maxHeartbeats 8000000 in
set_option maxRecDepth 100000 in
theorem spec_l2Part.calls (k : Nat) (a0_0 : Int) (a0_1 : Int) (A0_2 : Option Addr) (c0_2 : Nat) (l0_2 : List Int) (a1 : Int) (a2 : Int) (a3 : Int) (a4 : Int) (r1 : Int) (r2 : Int) (r3 : List Int) (w : World) (hr0_2 : Kd.C (Kd.int .i64) w A0_2 l0_2.length l0_2) (hc0_2 : l0_2.length ≤ c0_2) (h : spec_l2Part.f k a0_0 a0_1 l0_2 a1 a2 a3 a4 = some (r1, r2, r3)) :
  Calls Try.prog 124 #[.agg #[.int .i64 a0_0, .int .i64 a0_1, .slice A0_2 l0_2.length c0_2], .int .i64 a1, .int .i64 a2, .int .i64 a3, .int .i64 a4] w fun e w' => ∃ v2_ : Value, e = .returned (.agg #[.int .i64 r1, .int .i64 r2, v2_]) ∧ Kd.R (Kd.int .i64) 3 w' w.heap.size (fun _ => True) v2_ r3 ∧ Below w.heap.size w w' := by
 have hu26 := Try.underlying26
 have HR0_2 := Aside0.mk hr0_2
 have HC0_2 := Aside0.mk hc0_2
 clear hr0_2 hc0_2
 have HB := Aside0.mk (Below.refl w.heap.size w)
 have H : (spec_l2Part.l0 k a1 a2 a3 a4 a1 a0_0 a0_1 l0_2 a4 a3 (([] : List Int))) = some (r1, r2, r3) := h
 clear h
 obtain ⟨y183, hy183⟩ : ∃ y_ : List Int, y_ = (([] : List Int)) := ⟨_, rfl⟩
 replace H : (spec_l2Part.l0 k a1 a2 a3 a4 a1 a0_0 a0_1 l0_2 a4 a3 y183) = some (r1, r2, r3) := by first | (rw [hy183]; with_reducible exact H) | (have H2_ := (Option.bind_some _ _).symm.trans H; rw [hy183]; with_reducible exact H2_) | (have H2_ := (Option.bind_some _ _).symm.trans H; with_reducible exact H2_) | with_reducible exact H | (rw [hy183]; exact H) | exact H
 have Ny183 := Aside0.mk hy183
 clear hy183
 have H' := Aside0.mk H
 clear H
 go_enter Try.func124, Try.ntmps124
 go_wp2_with (first | ((with_reducible refine gate_dst (N := 5) rfl ?_); refine box_ (N := 5) (cs := #[.int .i64 a0_0, .int .i64 a0_1, .slice A0_2 l0_2.length c0_2]) (t := 26) ?_; intro gb181 hg w6 hbox hb; have BK181 := Aside0.mk (hbox); have GW181 := gz_ w hg; have GE181 := gz_ w hg; replace HB := Aside0.mk (below_step (bw_ w) hb); clear hb hbox hg) | ((with_reducible refine gate_dst (N := 10) rfl ?_); refine box_ (N := 10) (cs := #[.int .i64 0, .int .i64 0, .slice none 0 0]) (t := 26) ?_; intro gb182 hg w7 hbox hb; have n0_ := bb_ BK181 hb; have n1_ := Aside0.mk (below_step (bw_ w) hb); have n2_ := Aside0.mk (hbox); have n3_ := gz_ w hg; have n4_ := gz_ w hg; have n5_ := ne_ hg BK181; have n6_ := en_ hg BK181; clear BK181; clear HB; have BK181 := n0_; have HB := n1_; have BK182 := n2_; have GW182 := n3_; have GE182 := n4_; have NB181_182 := n5_; have NB182_181 := n6_; clear n0_ n1_ n2_ n3_ n4_ n5_ n6_; clear hb hbox hg) | ((with_reducible refine gate_dst (N := 16) rfl ?_); refine Kd.R_lit (Kd.int .i64) _ 3 ?hg (N := 16) ?hd (xs := ([] : List Int)) (inner := []) (ok := fun _ => True) (okp := fun _ => True) ?hr ?hp (fun _ hk => hk) trivial (Below.refl _ _) (Nat.le_refl _) (by simp) ?_; (case hd => rfl); (case hg => rfl); (case hr => first | (go_simp; done) | (go_simp; rfl)); (case hp => exact (Reps.none _ _)); intro v184 w8 ho9 hb hg_ hnew_; clear hg_ hnew_; (first | rw [← Ny183.out] at ho9 | (simp only [Int.reduceToNat] at ho9; rw [← Ny183.out] at ho9)); have HO185 := Aside0.mk (Kd.R_lower ho9 (below_size (bw_ w))); replace BK181 := bb_ BK181 hb; replace BK182 := bb_ BK182 hb; replace HB := Aside0.mk (below_step (bw_ w) hb); clear hb ho9; obtain ⟨Ao10, co10, eo10⟩ := Kd.R_slice HO185.out; subst eo10) | ((with_reducible refine gate_dst (N := 11) rfl ?_); refine box_ (N := 11) (cs := #[.int .i64 0, .int .i64 0, .slice none 0 0]) (t := 26) ?_; intro gb186 hg w11 hbox hb; have n0_ := Aside0.mk (Kd.R_below (ra_ HO185) hb); have n1_ := bb_ BK181 hb; have n2_ := bb_ BK182 hb; have n3_ := Aside0.mk (below_step (bw_ w) hb); have n4_ := Aside0.mk (hbox); have n5_ := gz_ w hg; have n6_ := gz_ w hg; have n7_ := ne_ hg BK181; have n8_ := en_ hg BK181; have n9_ := ne_ hg BK182; have n10_ := en_ hg BK182; clear HO185; clear BK181; clear BK182; clear HB; have HO185 := n0_; have BK181 := n1_; have BK182 := n2_; have HB := n3_; have BK186 := n4_; have GW186 := n5_; have GE186 := n6_; have NB181_186 := n7_; have NB186_181 := n8_; have NB182_186 := n9_; have NB186_182 := n10_; clear n0_ n1_ n2_ n3_ n4_ n5_ n6_ n7_ n8_ n9_ n10_; clear hb hbox hg; have hnb12 := NB186_181.out; have hnc12 := NB181_186.out; have hnb13 := NB186_182.out; have hnc13 := NB182_186.out; obtain ⟨hcz14_0, hcz14_1, hcz14_2, hfz14_0, hfz14_1, hfz14_2⟩ := bc3_ (w := w11) BK186))
 go_loopg [12] k (fun kq v12 w' => ∃ (x12_1 : Int) (x187002_1 : List Int) (u187002 : Value), v12 = .int .i64 x12_1 ∧ Aside0 (spec_l2Part.l0 kq a1 a2 a3 a4 x12_1 a0_0 a0_1 l0_2 a4 a3 x187002_1 = some (r1, r2, r3)) ∧ Aside0 (kq ≤ k) ∧ Aside0 (Kd.R (Kd.int .i64) 3 w' w.heap.size (fun _ => True) u187002 x187002_1) ∧ Aside0 (w'.heap[gb181]? = some (.cells #[.int .i64 a0_0, .int .i64 a0_1, (.slice A0_2 l0_2.length c0_2)] 26 (0, 0))) ∧ Aside0 (w'.heap[gb182]? = some (.cells #[.int .i64 0, .int .i64 0, (.slice none 0 0)] 26 (0, 0))) ∧ Aside0 (w'.heap[gb186]? = some (.cells #[.int .i64 a4, .int .i64 a3, u187002] 26 (0, 0))) ∧ Aside0 (Below w.heap.size w w'))
 case atStart => exact ⟨(a1), (y183), (.slice Ao10 y183.length co10), (by first | rfl | (simp; done) | (simp [*]; done)), H', ⟨Nat.le_refl _⟩, ⟨by exact rf_ (Kd.R_types HO185.out BK186.out (by decide)) (fun _ hk => trivial)⟩, ⟨bk_ BK181⟩, ⟨bk_ BK182⟩, ⟨bq_ BK186⟩, ⟨(bw_ w)⟩⟩
 case round =>
  clear H'
  try clear c1
  try clear p2
  try clear c12
  try clear c13
  try clear hcz14_0
  try clear hcz14_1
  try clear hcz14_2
  try clear hfz14_0
  try clear hfz14_1
  try clear hfz14_2
  obtain ⟨x12_1, x187002_1, u187002, rfl, HA, HK1, HO_187002, BK181, BK182, BK186, HB⟩ := hrel
  cases gk with
  | zero => exact absurd HA.out (by simp [spec_l2Part.l0])
  | succ k1 =>
   have H := HA.out
   clear HA
   simp only [spec_l2Part.l0] at H
   by_cases c15 : x12_1 < (wrap64 (a1 + a3))
   ·rw [if_pos c15] at H
    have c15b0 : decide (x12_1 < (wrap64 (a1 + a3))) = true := decide_eq_true c15
    clear c15
    have H' := Aside0.mk H
    clear H
    go_wp2
    go_loopg [13] k1 (fun kq v13 w' => ∃ (x13_2 : Int) (x187002_2 : List Int) (u187002 : Value), v13 = .int .i64 x13_2 ∧ Aside0 (spec_l2Part.l1 kq a1 a2 a3 a4 x12_1 x13_2 a0_0 a0_1 l0_2 a4 a3 x187002_2 = some (r1, r2, r3)) ∧ Aside0 (kq ≤ k1) ∧ Aside0 (Kd.R (Kd.int .i64) 3 w' w.heap.size (fun _ => True) u187002 x187002_2) ∧ Aside0 (w'.heap[gb181]? = some (.cells #[.int .i64 a0_0, .int .i64 a0_1, (.slice A0_2 l0_2.length c0_2)] 26 (0, 0))) ∧ Aside0 (w'.heap[gb182]? = some (.cells #[.int .i64 0, .int .i64 0, (.slice none 0 0)] 26 (0, 0))) ∧ Aside0 (w'.heap[gb186]? = some (.cells #[.int .i64 a4, .int .i64 a3, u187002] 26 (0, 0))) ∧ Aside0 (Below w.heap.size w w'))
    case atStart => exact ⟨(a2), (x187002_1), (u187002), (by first | rfl | (simp; done) | (simp [*]; done)), H', ⟨Nat.le_refl _⟩, ⟨ra_ HO_187002⟩, ⟨bk_ BK181⟩, ⟨bk_ BK182⟩, ⟨bk_ BK186⟩, ⟨(bw_ w)⟩⟩
    case round =>
     clear H'
     try clear c1
     try clear p2
     try clear p6
     try clear c12
     try clear c13
     try clear c15
     try clear c15b0
     try clear hcz14_0
     try clear hcz14_1
     try clear hcz14_2
     try clear hfz14_0
     try clear hfz14_1
     try clear hfz14_2
     try clear p2
     obtain ⟨x13_2, x187002_2, u187002, rfl, HA, HK2, HO_187002, BK181, BK182, BK186, HB⟩ := hrel
     cases gk with
     | zero => exact absurd HA.out (by simp [spec_l2Part.l1])
     | succ k2 =>
      have H := HA.out
      clear HA
      simp only [spec_l2Part.l1] at H
      by_cases c16 : x13_2 < (wrap64 (a2 + a4))
      ·rw [if_pos c16] at H
       have c16b0 : decide (x13_2 < (wrap64 (a2 + a4))) = true := decide_eq_true c16
       clear c16
       replace H := Option.bind_eq_some_iff.mp H
       obtain ⟨t187, A170, H⟩ := H
       replace H : (if x187002_2.length < 17592186044416 then (spec_l2Part.l1 k2 a1 a2 a3 a4 x12_1 (wrap64 (x13_2 + 1)) a0_0 a0_1 l0_2 a4 a3 (x187002_2 ++ [t187])) else (none)) = some (r1, r2, r3) := H
       have A17 := Aside0.mk A170
       clear A170
       by_cases c18 : x187002_2.length < 17592186044416
       ·rw [if_pos c18] at H
        have LMc18 := Aside0.mk c18
        clear c18
        obtain ⟨y188, hy188⟩ : ∃ y_ : List Int, y_ = (x187002_2 ++ [t187]) := ⟨_, rfl⟩
        replace H : (spec_l2Part.l1 k2 a1 a2 a3 a4 x12_1 (wrap64 (x13_2 + 1)) a0_0 a0_1 l0_2 a4 a3 y188) = some (r1, r2, r3) := by first | (rw [hy188]; with_reducible exact H) | (have H2_ := (Option.bind_some _ _).symm.trans H; rw [hy188]; with_reducible exact H2_) | (have H2_ := (Option.bind_some _ _).symm.trans H; with_reducible exact H2_) | with_reducible exact H | (rw [hy188]; exact H) | exact H
        have Ny188 := Aside0.mk hy188
        clear hy188
        have H' := Aside0.mk H
        clear H
        try go_wp2
        replace HO_187002 := Aside0.mk (Kd.R_drew HO_187002.out)
        replace BK181 := Aside0.mk (blk_drew BK181.out)
        replace BK182 := Aside0.mk (blk_drew BK182.out)
        replace BK186 := Aside0.mk (blk_drew BK186.out)
        replace HB := Aside0.mk (below_drew1 HB.out)
        refine start_ (n := 10) (S := fun w' => w'.cell? ⟨gb186, 0, none⟩ = some (.int .i64 a4) ∧ w'.cell? ⟨gb186, 1, none⟩ = some (.int .i64 a3) ∧ w'.cell? ⟨gb186, 2, none⟩ = some (u187002) ∧ w'.cell? ⟨gb181, 0, none⟩ = some (.int .i64 a0_0) ∧ w'.cell? ⟨gb181, 1, none⟩ = some (.int .i64 a0_1) ∧ w'.cell? ⟨gb181, 2, none⟩ = some (.slice A0_2 l0_2.length c0_2)) (ds := [9]) #[false, false, false, false, false, false, false, false, false, false] (by kernel_rfl) rfl rfl ⟨bc_ BK186 0, bc_ BK186 1, bc_ BK186 2, bc_ BK181 0, bc_ BK181 1, bc_ BK181 2⟩ (fun hHeld => ?_); refine with_tabW spec_l2Part.tab8 spec_l2Part.bits8 (fun HT_ HW_ => ?_)
        generalize wr.drew = w19 at HO_187002 BK181 BK182 BK186 HB hHeld ⊢
        refine pureA (N := some 34) 0 HT_ ?_
        refine pureA (N := some 37) 3 HT_ ?_
        refine pureA (N := some 38) 4 HT_ ?_
        refine takeA (N := some 35) 1 HT_ HW_ hHeld ?_
        refine takeA (N := some 36) 2 HT_ HW_ hHeld ?_
        refine oneA (N := some 39) 5 HT_ (fun K hK => ?_)
        refine goesA Try.func113 #[.agg #[.int .i64 a0_0, .int .i64 a0_1, .slice A0_2 l0_2.length c0_2], .int .i64 x12_1, .int .i64 x13_2] ?_
        with_reducible refine (spec_l2At.calls a0_0 a0_1 _ _ l0_2 x12_1 x13_2 t187 _ ?side1 ?side2 A17.out).mono ?_
        (case side1 => exact cb_ HR0_2 HB)
        (case side2 => exact HC0_2.out)
        rintro e w20 ⟨rfl, hb⟩
        refine ⟨_, rfl, ?_⟩
        replace HO_187002 := Aside0.mk (Kd.R_below (ra_ HO_187002) hb)
        replace BK181 := bb_ BK181 hb
        replace BK182 := bb_ BK182 hb
        replace BK186 := bb_ BK186 hb
        replace HB := Aside0.mk (below_step (bw_ w) hb)
        (try clear hb)
        (try clear hb2)
        (try clear hk)
        (try clear hi)
        refine hK.out _ _ ⟨bc_ BK186 0, bc_ BK186 1, bc_ BK186 2, bc_ BK181 0, bc_ BK181 1, bc_ BK181 2⟩ (fun hHeld => ?_)
        clear hK K
        refine normA (N := some 39) ?_
        refine oneA (N := some 40) 6 HT_ (fun K hK => ?_)
        refine value_ (w1 := ?_) (v := ?_) (by rfl) rfl ?_ ?_
        rotate_left 2
        ·go_simp
         constructor
         ·rfl
         ·rfl
        refine hK.out _ _ ⟨(blk_cell (blk_alloc BK186.out _) 0).trans rfl, (blk_cell (blk_alloc BK186.out _) 1).trans rfl, (blk_cell (blk_alloc BK186.out _) 2).trans rfl, (blk_cell (blk_alloc BK181.out _) 0).trans rfl, (blk_cell (blk_alloc BK181.out _) 1).trans rfl, (blk_cell (blk_alloc BK181.out _) 2).trans rfl⟩ (fun hHeld => ?_)
        clear hK K
        refine normA (N := some 40) ?_
        refine oneA (N := some 41) 7 HT_ (fun K hK => ?_)
        refine Kd.R_append_step (Kd.int .i64) (w0 := w) w.heap.size (by rfl) (.tmp 35) (.tmp 40) 22 3 (.int .i64 0) 8 rfl Try.underlying22 info3 rfl (by decide) (by omega) u187002 x187002_2 t187 [.int .i64 t187] (fun _ => True) (fun _ => False) rfl rfl ?aP (fun _ hk => hk.elim) ?aF ?aO ?aB ?aS ?aL ?_
        (case aP => exact rfl)
        (case aB => exact (bw_ w))
        (case aF => exact (fun _ _ => trivial))
        (case aO => exact (ra_ HO_187002))
        (case aS => exact (below_size (bw_ w)))
        (case aL => have := LMc18.out; omega)
        intro v189 w21 ho hb hg hat
        rw [← Ny188.out] at ho
        replace BK181 := Aside0.mk (blk_grown (g := gb181) (o := .cells #[.int .i64 a0_0, .int .i64 a0_1, .slice A0_2 l0_2.length c0_2] 26 (0, 0)) (bk_ BK181) hg (Kd.R_ne HO_187002.out BK181.out (by decide)))
        replace BK182 := Aside0.mk (blk_grown (g := gb182) (o := .cells #[.int .i64 0, .int .i64 0, .slice none 0 0] 26 (0, 0)) (bk_ BK182) hg (Kd.R_ne HO_187002.out BK182.out (by decide)))
        replace BK186 := Aside0.mk (blk_grown (g := gb186) (o := .cells #[.int .i64 a4, .int .i64 a3, u187002] 26 (0, 0)) (bk_ BK186) hg (Kd.R_ne HO_187002.out BK186.out (by decide)))
        have HO190 := Aside0.mk (ho)
        replace HB := Aside0.mk (hb)
        clear HO_187002
        clear ho hb hg hat
        obtain ⟨Ao22, co22, eo22⟩ := Kd.R_slice HO190.out
        (first | subst eo22 | (injection eo22 with f1_ f2_ f3_; have f4_ := f1_.symm; have f5_ := f3_.symm; clear f1_ f2_ f3_; subst f4_; subst f5_))
        refine hK.out _ _ ⟨bc_ BK186 0, bc_ BK186 1, bc_ BK186 2, bc_ BK181 0, bc_ BK181 1, bc_ BK181 2⟩ (fun hHeld => ?_)
        clear hK K
        refine normA (N := some 41) ?_
        refine pureA (N := some 42) 8 HT_ ?_
        refine lastA (N := none) 9 HT_ (fun K hK => ?_)
        have hs23 : w21.cell? ⟨gb186, 2, none⟩ = some (u187002) := bc_ BK186 2
        have hfs23 := blk_frozen BK186.out 2
        have hns23_0 := NB181_186.out
        have hns23_1 := NB182_186.out
        have hms23_0 := NB186_181.out
        have hms23_1 := NB186_182.out
        refine skip_ (w1 := ?_) (by rfl) rfl ?_ ?_
        rotate_left
        ·go_simp
         rfl
        refine hK.out _ _ ?_
        clear hK K
        refine done_ (done_of HT_.out (by kernel_rfl)) ?_
        try go_wp2
        go_roundg k2
        case measure => have := HK1.out; have := HK2.out; omega
        case rel => exact ⟨(wrap64 (x13_2 + 1)), (y188), (.slice Ao22 y188.length co22), (by first | rfl | (simp; done) | (simp [*]; done)), H', ⟨by have := HK1.out; have := HK2.out; omega⟩, ⟨by exact rf_ (Kd.R_types HO190.out BK186.out (by decide)) (fun _ hk => trivial)⟩, ⟨bk_ BK181⟩, ⟨bk_ BK182⟩, ⟨bq_ BK186⟩, ⟨(bw_ w)⟩⟩
       ·rw [if_neg c18] at H
        exact absurd H (by simp)
      ·rw [if_neg c16] at H
       have c16b0 : decide (x13_2 < (wrap64 (a2 + a4))) = false := decide_eq_false c16
       clear c16
       have H' := Aside0.mk H
       clear H
       go_wp2
       go_roundg k2
       case measure => have := HK1.out; have := HK2.out; omega
       case rel => exact ⟨(wrap64 (x12_1 + 1)), (x187002_2), (u187002), (by first | rfl | (simp; done) | (simp [*]; done)), H', ⟨by have := HK1.out; have := HK2.out; omega⟩, ⟨ra_ HO_187002⟩, ⟨bk_ BK181⟩, ⟨bk_ BK182⟩, ⟨bk_ BK186⟩, ⟨(bw_ w)⟩⟩
   ·rw [if_neg c15] at H
    have c15b0 : decide (x12_1 < (wrap64 (a1 + a3))) = false := decide_eq_false c15
    clear c15
    simp only [Option.some.injEq, Prod.mk.injEq] at H
    obtain ⟨rfl, rfl, rfl⟩ := H
    have hnb24 := NB186_181.out
    have hnc24 := NB181_186.out
    have hnb25 := NB186_182.out
    have hnc25 := NB182_186.out
    obtain ⟨hcz26_0, hcz26_1, hcz26_2, hfz26_0, hfz26_1, hfz26_2⟩ := bc3_ (w := wr) BK186
    have hnb27 := NB182_181.out
    have hnc27 := NB181_182.out
    obtain ⟨hcz28_0, hcz28_1, hcz28_2, hfz28_0, hfz28_1, hfz28_2⟩ := bc3_ (w := wr) BK182
    obtain ⟨Ao29, co29, eo29⟩ := Kd.R_slice HO_187002.out
    subst eo29
    go_wp2
    refine bodyPost_ret (results_cell_row rfl _ _ gb182 26 #[.int .i64 a4, .int .i64 a3, .slice Ao29 x187002_1.length co29] (0, 0) _ rfl (bq_ BK182) Try.underlying26 rfl (by kernel_rfl)) rfl ?_
    exact ⟨_, by first | rfl | (simp [errW_none, errW_some] <;> rfl) | (simp [*, errW_none, errW_some] <;> rfl), by exact rf_ (Kd.R_types HO_187002.out BK182.out (by decide)) (fun _ hk => trivial), (bw_ w)⟩

end Go.Proofs.Yteiaakppjcpgcaa.PFnExactAnyWayPlaces
