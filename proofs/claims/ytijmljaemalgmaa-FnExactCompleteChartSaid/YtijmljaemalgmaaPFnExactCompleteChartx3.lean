-- Printed by this session's own program (wip/tool/myprint.py, over the kit's print); Lean checks it.
import Derived.Test.YtijmljaemalgmaaPFnExactCompleteChartx0
import Derived.Test.YtijmljaemalgmaaPFnExactCompleteChartx2
namespace Go.Proofs.Ytijmljaemalgmaa.PFnExactCompleteChart
open Go.RowKit Go.Proofs.YtijmljaemalgmaaW.PrintWords Go.Proofs.YtijmljaemalgmaaW.PrintLast Go.Proofs.YtijmljaemalgmaaW.PrintMore
attribute [local go_sem] max2_int min2_int max_two min_two max_three min_three max_four min_four   -- for this text's walks alone
set_option linter.unusedVariables false
set_option linter.unusedSimpArgs false

/-! ### spec_l4Mirror: function 161 -/
mutual
def spec_l4Mirror.l0 : Nat → Int → Int → Int → List Int → Int → Int → List Int → Option (Int × Int × List Int)
  | 0, _, _, _, _, _, _, _ => none
  | k + 1, x4, x162000, x162001, x162002, x167000, x167001, x167002 => if x4 < x162001 then (spec_l4Mirror.l1 k x4 0 x162000 x162001 x162002 x167000 x167001 x167002) else (some (x167000, x167001, x167002))
def spec_l4Mirror.l1 : Nat → Int → Int → Int → Int → List Int → Int → Int → List Int → Option (Int × Int × List Int)
  | 0, _, _, _, _, _, _, _, _ => none
  | k + 1, x4, x5, x162000, x162001, x162002, x167000, x167001, x167002 => if x5 < x162000 then ((spec_l2At.f x162000 x162001 x162002 x4 (wrap64 ((wrap64 (x162000 - 1)) - x5))).bind fun t167 => (if x167002.length < 17592186044416 then (spec_l4Mirror.l1 k x4 (wrap64 (x5 + 1)) x162000 x162001 x162002 x167000 x167001 (x167002 ++ [t167])) else (none))) else (spec_l4Mirror.l0 k (wrap64 (x4 + 1)) x162000 x162001 x162002 x167000 x167001 x167002)
end
def spec_l4Mirror.f (k : Nat) (a0_0 : Int) (a0_1 : Int) (l0_2 : List Int) : Option (Int × Int × List Int) := spec_l4Mirror.l0 k 0 a0_0 a0_1 l0_2 a0_0 a0_1 (([] : List Int))
theorem spec_l4Mirror.mono_l : ∀ k, (∀ y0 y1 y2 y3 y4 y5 y6, LeO (spec_l4Mirror.l0 k y0 y1 y2 y3 y4 y5 y6) (spec_l4Mirror.l0 (k + 1) y0 y1 y2 y3 y4 y5 y6)) ∧ (∀ y0 y1 y2 y3 y4 y5 y6 y7, LeO (spec_l4Mirror.l1 k y0 y1 y2 y3 y4 y5 y6 y7) (spec_l4Mirror.l1 (k + 1) y0 y1 y2 y3 y4 y5 y6 y7))
  | 0 => ⟨fun _ _ _ _ _ _ _ r h => by simp [spec_l4Mirror.l0] at h, fun _ _ _ _ _ _ _ _ r h => by simp [spec_l4Mirror.l1] at h⟩
  | k + 1 => by
    obtain ⟨ih0, ih1⟩ := spec_l4Mirror.mono_l k
    refine ⟨?_, ?_⟩
    · intro y0 y1 y2 y3 y4 y5 y6
      unfold spec_l4Mirror.l0
      repeat' first
      | (with_reducible exact ih0 _ _ _ _ _ _ _)
      | (with_reducible exact ih1 _ _ _ _ _ _ _ _)
      | (with_reducible exact LeO.refl _)
      | (with_reducible exact LeO.none _)
      | (with_reducible refine LeO.ite ?_ ?_)
      | (with_reducible refine LeO.bind ?_ (fun _ => ?_))
      | exact ih0 _ _ _ _ _ _ _
      | exact ih1 _ _ _ _ _ _ _ _
      | exact LeO.none _
      | refine LeO.ite ?_ ?_
      | refine LeO.bind ?_ (fun _ => ?_)
    · intro y0 y1 y2 y3 y4 y5 y6 y7
      unfold spec_l4Mirror.l1
      repeat' first
      | (with_reducible exact ih0 _ _ _ _ _ _ _)
      | (with_reducible exact ih1 _ _ _ _ _ _ _ _)
      | (with_reducible exact LeO.refl _)
      | (with_reducible exact LeO.none _)
      | (with_reducible refine LeO.ite ?_ ?_)
      | (with_reducible refine LeO.bind ?_ (fun _ => ?_))
      | exact ih0 _ _ _ _ _ _ _
      | exact ih1 _ _ _ _ _ _ _ _
      | exact LeO.none _
      | refine LeO.ite ?_ ?_
      | refine LeO.bind ?_ (fun _ => ?_)
theorem spec_l4Mirror.mono : ∀ a0 a1 a2 k, LeO (spec_l4Mirror.f k a0 a1 a2) (spec_l4Mirror.f (k + 1) a0 a1 a2) := by
  intro a0 a1 a2 k
  obtain ⟨ih0, ih1⟩ := spec_l4Mirror.mono_l k
  unfold spec_l4Mirror.f
  repeat' first
      | (with_reducible exact ih0 _ _ _ _ _ _ _)
      | (with_reducible exact ih1 _ _ _ _ _ _ _ _)
      | (with_reducible exact LeO.refl _)
      | (with_reducible exact LeO.none _)
      | (with_reducible refine LeO.ite ?_ ?_)
      | (with_reducible refine LeO.bind ?_ (fun _ => ?_))
      | exact ih0 _ _ _ _ _ _ _
      | exact ih1 _ _ _ _ _ _ _ _
      | exact LeO.none _
      | refine LeO.ite ?_ ?_
      | refine LeO.bind ?_ (fun _ => ?_)
def spec_l4Mirror.T8 : Bool × List (List Nat × List Nat) := (true, [([], []), ([0], [0]), ([], []), ([], []), ([], []), ([4], [4]), ([5], [5]), ([], []), ([6, 7], [6, 7]), ([2, 3, 8], [2, 3, 8]), ([9], [9]), ([1, 10, 9], [1, 10]), ([0, 1, 2, 3, 4, 5, 6, 7, 8, 9, 10, 11], []), ([12, 11, 11, 0, 1, 2, 3, 4, 5, 6, 7, 8, 9, 10, 11], [11, 12])])
def spec_l4Mirror.B8 : List Nat := [0, 1, 0, 0, 0, 16, 48, 0, 240, 508, 1020, 2047, 4095, 8191]
theorem spec_l4Mirror.tab8 : rtab .any (opsOf Try.f161 8) = spec_l4Mirror.T8 := by kernel_rfl
theorem spec_l4Mirror.bits8 : waitsOk spec_l4Mirror.T8.2 spec_l4Mirror.B8 = true := by kernel_rfl
set_option maxHeartbeats 8000000 in
set_option maxRecDepth 100000 in
theorem spec_l4Mirror.calls (k : Nat) (a0_0 : Int) (a0_1 : Int) (A0_2 : Option Addr) (c0_2 : Nat) (l0_2 : List Int) (r1 : Int) (r2 : Int) (r3 : List Int) (w : World) (hr0_2 : Kd.C (Kd.int .i64) w A0_2 l0_2.length l0_2) (hc0_2 : l0_2.length ≤ c0_2) (h : spec_l4Mirror.f k a0_0 a0_1 l0_2 = some (r1, r2, r3)) :
  Calls Try.prog 161 #[.agg #[.int .i64 a0_0, .int .i64 a0_1, .slice A0_2 l0_2.length c0_2]] w fun e w' => ∃ v2_ : Value, e = .returned (.agg #[.int .i64 r1, .int .i64 r2, v2_]) ∧ Kd.R (Kd.int .i64) 3 w' w.heap.size (fun _ => True) v2_ r3 ∧ Below w.heap.size w w' := by
 have hu26 := Try.underlying26
 have HR0_2 := Aside0.mk hr0_2
 have HC0_2 := Aside0.mk hc0_2
 clear hr0_2 hc0_2
 have HB := Aside0.mk (Below.refl w.heap.size w)
 have H : (spec_l4Mirror.l0 k 0 a0_0 a0_1 l0_2 a0_0 a0_1 (([] : List Int))) = some (r1, r2, r3) := h
 clear h
 obtain ⟨y163, hy163⟩ : ∃ y_ : List Int, y_ = (([] : List Int)) := ⟨_, rfl⟩
 replace H : (spec_l4Mirror.l0 k 0 a0_0 a0_1 l0_2 a0_0 a0_1 y163) = some (r1, r2, r3) := by first | (rw [hy163]; with_reducible exact H) | (have H2_ := (Option.bind_some _ _).symm.trans H; rw [hy163]; with_reducible exact H2_) | (have H2_ := (Option.bind_some _ _).symm.trans H; with_reducible exact H2_) | with_reducible exact H | (rw [hy163]; exact H) | exact H
 have Ny163 := Aside0.mk hy163
 clear hy163
 have H' := Aside0.mk H
 clear H
 go_enter Try.func161, Try.ntmps161
 go_wp2_with (first | ((with_reducible refine gate_dst (N := 1) rfl ?_); refine box_ (N := 1) (cs := #[.int .i64 a0_0, .int .i64 a0_1, .slice A0_2 l0_2.length c0_2]) (t := 26) ?_; intro gb161 hg w2 hbox hb; have BK161 := Aside0.mk (hbox); have GW161 := gz_ w hg; have GE161 := gz_ w hg; replace HB := Aside0.mk (below_step (bw_ w) hb); clear hb hbox hg) | ((with_reducible refine gate_dst (N := 2) rfl ?_); refine box_ (N := 2) (cs := #[.int .i64 0, .int .i64 0, .slice none 0 0]) (t := 26) ?_; intro gb162 hg w3 hbox hb; have n0_ := bb_ BK161 hb; have n1_ := Aside0.mk (below_step (bw_ w) hb); have n2_ := Aside0.mk (hbox); have n3_ := gz_ w hg; have n4_ := gz_ w hg; have n5_ := ne_ hg BK161; have n6_ := en_ hg BK161; clear BK161; clear HB; have BK161 := n0_; have HB := n1_; have BK162 := n2_; have GW162 := n3_; have GE162 := n4_; have NB161_162 := n5_; have NB162_161 := n6_; clear n0_ n1_ n2_ n3_ n4_ n5_ n6_; clear hb hbox hg; have hnb4 := NB161_162.out; have hnc4 := NB162_161.out; obtain ⟨hcz5_0, hcz5_1, hcz5_2, hfz5_0, hfz5_1, hfz5_2⟩ := bc3_ (w := w3) BK161) | ((with_reducible refine gate_dst (N := 10) rfl ?_); refine Kd.R_lit (Kd.int .i64) _ 3 ?hg (N := 10) ?hd (xs := ([] : List Int)) (inner := []) (ok := fun _ => True) (okp := fun _ => True) ?hr ?hp (fun _ hk => hk) trivial (Below.refl _ _) (Nat.le_refl _) (by simp) ?_; (case hd => rfl); (case hg => rfl); (case hr => first | (go_simp; done) | (go_simp; rfl)); (case hp => exact (Reps.none _ _)); intro v164 w6 ho7 hb hg_ hnew_; clear hg_ hnew_; (first | rw [← Ny163.out] at ho7 | (simp only [Int.reduceToNat] at ho7; rw [← Ny163.out] at ho7)); have HO165 := Aside0.mk (Kd.R_lower ho7 (below_size (bw_ w))); replace BK161 := bb_ BK161 hb; replace BK162 := bb_ BK162 hb; replace HB := Aside0.mk (below_step (bw_ w) hb); clear hb ho7; obtain ⟨Ao8, co8, eo8⟩ := Kd.R_slice HO165.out; subst eo8) | ((with_reducible refine gate_dst (N := 3) rfl ?_); refine box_ (N := 3) (cs := #[.int .i64 0, .int .i64 0, .slice none 0 0]) (t := 26) ?_; intro gb166 hg w9 hbox hb; have n0_ := Aside0.mk (Kd.R_below (ra_ HO165) hb); have n1_ := bb_ BK161 hb; have n2_ := bb_ BK162 hb; have n3_ := Aside0.mk (below_step (bw_ w) hb); have n4_ := Aside0.mk (hbox); have n5_ := gz_ w hg; have n6_ := gz_ w hg; have n7_ := ne_ hg BK161; have n8_ := en_ hg BK161; have n9_ := ne_ hg BK162; have n10_ := en_ hg BK162; clear HO165; clear BK161; clear BK162; clear HB; have HO165 := n0_; have BK161 := n1_; have BK162 := n2_; have HB := n3_; have BK166 := n4_; have GW166 := n5_; have GE166 := n6_; have NB161_166 := n7_; have NB166_161 := n8_; have NB162_166 := n9_; have NB166_162 := n10_; clear n0_ n1_ n2_ n3_ n4_ n5_ n6_ n7_ n8_ n9_ n10_; clear hb hbox hg; have hnb10 := NB166_161.out; have hnc10 := NB161_166.out; have hnb11 := NB166_162.out; have hnc11 := NB162_166.out; obtain ⟨hcz12_0, hcz12_1, hcz12_2, hfz12_0, hfz12_1, hfz12_2⟩ := bc3_ (w := w9) BK166))
 go_loopg [4] k (fun kq v4 w' => ∃ (x4_1 : Int) (x167002_1 : List Int) (u167002 : Value), v4 = .int .i64 x4_1 ∧ Aside0 (spec_l4Mirror.l0 kq x4_1 a0_0 a0_1 l0_2 a0_0 a0_1 x167002_1 = some (r1, r2, r3)) ∧ Aside0 (kq ≤ k) ∧ Aside0 (Kd.R (Kd.int .i64) 3 w' w.heap.size (fun _ => True) u167002 x167002_1) ∧ Aside0 (w'.heap[gb161]? = some (.cells #[.int .i64 a0_0, .int .i64 a0_1, (.slice A0_2 l0_2.length c0_2)] 26 (0, 0))) ∧ Aside0 (w'.heap[gb162]? = some (.cells #[.int .i64 0, .int .i64 0, (.slice none 0 0)] 26 (0, 0))) ∧ Aside0 (w'.heap[gb166]? = some (.cells #[.int .i64 a0_0, .int .i64 a0_1, u167002] 26 (0, 0))) ∧ Aside0 (Below w.heap.size w w'))
 case atStart => exact ⟨(0), (y163), (.slice Ao8 y163.length co8), (by first | rfl | (simp; done) | (simp [*]; done)), H', ⟨Nat.le_refl _⟩, ⟨by exact rf_ (Kd.R_types HO165.out BK166.out (by decide)) (fun _ hk => trivial)⟩, ⟨bk_ BK161⟩, ⟨bk_ BK162⟩, ⟨bq_ BK166⟩, ⟨(bw_ w)⟩⟩
 case round =>
  clear H'
  try clear c1
  try clear p2
  try clear c4
  try clear c10
  try clear c11
  try clear hcz12_0
  try clear hcz12_1
  try clear hcz12_2
  try clear hcz5_0
  try clear hcz5_1
  try clear hcz5_2
  try clear hfz12_0
  try clear hfz12_1
  try clear hfz12_2
  try clear hfz5_0
  try clear hfz5_1
  try clear hfz5_2
  obtain ⟨x4_1, x167002_1, u167002, rfl, HA, HK1, HO_167002, BK161, BK162, BK166, HB⟩ := hrel
  cases gk with
  | zero => exact absurd HA.out (by simp [spec_l4Mirror.l0])
  | succ k1 =>
   have H := HA.out
   clear HA
   simp only [spec_l4Mirror.l0] at H
   by_cases c13 : x4_1 < a0_1
   ·rw [if_pos c13] at H
    have c13b0 : decide (x4_1 < a0_1) = true := decide_eq_true c13
    clear c13
    have H' := Aside0.mk H
    clear H
    have hnb14 := NB161_162.out
    have hnc14 := NB162_161.out
    have hnb15 := NB161_166.out
    have hnc15 := NB166_161.out
    obtain ⟨hcz16_0, hcz16_1, hcz16_2, hfz16_0, hfz16_1, hfz16_2⟩ := bc3_ (w := wr) BK161
    go_wp2
    go_loopg [5] k1 (fun kq v5 w' => ∃ (x5_2 : Int) (x167002_2 : List Int) (u167002 : Value), v5 = .int .i64 x5_2 ∧ Aside0 (spec_l4Mirror.l1 kq x4_1 x5_2 a0_0 a0_1 l0_2 a0_0 a0_1 x167002_2 = some (r1, r2, r3)) ∧ Aside0 (kq ≤ k1) ∧ Aside0 (Kd.R (Kd.int .i64) 3 w' w.heap.size (fun _ => True) u167002 x167002_2) ∧ Aside0 (w'.heap[gb161]? = some (.cells #[.int .i64 a0_0, .int .i64 a0_1, (.slice A0_2 l0_2.length c0_2)] 26 (0, 0))) ∧ Aside0 (w'.heap[gb162]? = some (.cells #[.int .i64 0, .int .i64 0, (.slice none 0 0)] 26 (0, 0))) ∧ Aside0 (w'.heap[gb166]? = some (.cells #[.int .i64 a0_0, .int .i64 a0_1, u167002] 26 (0, 0))) ∧ Aside0 (Below w.heap.size w w'))
    case atStart => exact ⟨(0), (x167002_1), (u167002), (by first | rfl | (simp; done) | (simp [*]; done)), H', ⟨Nat.le_refl _⟩, ⟨ra_ HO_167002⟩, ⟨bk_ BK161⟩, ⟨bk_ BK162⟩, ⟨bk_ BK166⟩, ⟨(bw_ w)⟩⟩
    case round =>
     clear H'
     try clear c1
     try clear p2
     try clear c4
     try clear c10
     try clear c11
     try clear c13
     try clear c13b0
     try clear c14
     try clear c15
     try clear c16
     try clear hcz12_0
     try clear hcz12_1
     try clear hcz12_2
     try clear hcz16_0
     try clear hcz16_1
     try clear hcz16_2
     try clear hcz5_0
     try clear hcz5_1
     try clear hcz5_2
     try clear hfz12_0
     try clear hfz12_1
     try clear hfz12_2
     try clear hfz16_0
     try clear hfz16_1
     try clear hfz16_2
     try clear hfz5_0
     try clear hfz5_1
     try clear hfz5_2
     try clear p2
     obtain ⟨x5_2, x167002_2, u167002, rfl, HA, HK2, HO_167002, BK161, BK162, BK166, HB⟩ := hrel
     cases gk with
     | zero => exact absurd HA.out (by simp [spec_l4Mirror.l1])
     | succ k2 =>
      have H := HA.out
      clear HA
      simp only [spec_l4Mirror.l1] at H
      by_cases c17 : x5_2 < a0_0
      ·rw [if_pos c17] at H
       have c17b0 : decide (x5_2 < a0_0) = true := decide_eq_true c17
       clear c17
       replace H := Option.bind_eq_some_iff.mp H
       obtain ⟨t167, A180, H⟩ := H
       replace H : (if x167002_2.length < 17592186044416 then (spec_l4Mirror.l1 k2 x4_1 (wrap64 (x5_2 + 1)) a0_0 a0_1 l0_2 a0_0 a0_1 (x167002_2 ++ [t167])) else (none)) = some (r1, r2, r3) := H
       have A18 := Aside0.mk A180
       clear A180
       by_cases c19 : x167002_2.length < 17592186044416
       ·rw [if_pos c19] at H
        have LMc19 := Aside0.mk c19
        clear c19
        obtain ⟨y168, hy168⟩ : ∃ y_ : List Int, y_ = (x167002_2 ++ [t167]) := ⟨_, rfl⟩
        replace H : (spec_l4Mirror.l1 k2 x4_1 (wrap64 (x5_2 + 1)) a0_0 a0_1 l0_2 a0_0 a0_1 y168) = some (r1, r2, r3) := by first | (rw [hy168]; with_reducible exact H) | (have H2_ := (Option.bind_some _ _).symm.trans H; rw [hy168]; with_reducible exact H2_) | (have H2_ := (Option.bind_some _ _).symm.trans H; with_reducible exact H2_) | with_reducible exact H | (rw [hy168]; exact H) | exact H
        have Ny168 := Aside0.mk hy168
        clear hy168
        have H' := Aside0.mk H
        clear H
        have hnb20 := NB161_162.out
        have hnc20 := NB162_161.out
        have hnb21 := NB161_166.out
        have hnc21 := NB166_161.out
        obtain ⟨hcz22_0, hcz22_1, hcz22_2, hfz22_0, hfz22_1, hfz22_2⟩ := bc3_ (w := wr) BK161
        try go_wp2
        replace HO_167002 := Aside0.mk (Kd.R_drew HO_167002.out)
        replace BK161 := Aside0.mk (blk_drew BK161.out)
        replace BK162 := Aside0.mk (blk_drew BK162.out)
        replace BK166 := Aside0.mk (blk_drew BK166.out)
        replace HB := Aside0.mk (below_drew1 HB.out)
        refine start_ (n := 14) (S := fun w' => w'.cell? ⟨gb166, 0, none⟩ = some (.int .i64 a0_0) ∧ w'.cell? ⟨gb166, 1, none⟩ = some (.int .i64 a0_1) ∧ w'.cell? ⟨gb166, 2, none⟩ = some (u167002) ∧ w'.cell? ⟨gb161, 0, none⟩ = some (.int .i64 a0_0) ∧ w'.cell? ⟨gb161, 1, none⟩ = some (.int .i64 a0_1) ∧ w'.cell? ⟨gb161, 2, none⟩ = some (.slice A0_2 l0_2.length c0_2)) (ds := [13]) #[false, false, false, false, false, false, false, false, false, false, false, false, false, false] (by kernel_rfl) rfl rfl ⟨bc_ BK166 0, bc_ BK166 1, bc_ BK166 2, bc_ BK161 0, bc_ BK161 1, bc_ BK161 2⟩ (fun hHeld => ?_); refine with_tabW spec_l4Mirror.tab8 spec_l4Mirror.bits8 (fun HT_ HW_ => ?_)
        generalize wr.drew = w23 at HO_167002 BK161 BK162 BK166 HB hHeld ⊢
        refine pureA (N := some 24) 0 HT_ ?_
        refine pureA (N := some 27) 3 HT_ ?_
        refine pureA (N := some 28) 4 HT_ ?_
        refine pureA (N := some 31) 7 HT_ ?_
        refine takeA (N := some 25) 1 HT_ HW_ hHeld ?_
        refine takeA (N := some 26) 2 HT_ HW_ hHeld ?_
        refine takeA (N := some 29) 5 HT_ HW_ hHeld ?_
        refine pureA (N := some 30) 6 HT_ ?_
        refine pureA (N := some 32) 8 HT_ ?_
        refine oneA (N := some 33) 9 HT_ (fun K hK => ?_)
        refine goesA Try.func176 #[.agg #[.int .i64 a0_0, .int .i64 a0_1, .slice A0_2 l0_2.length c0_2], .int .i64 x4_1, .int .i64 (wrap64 ((wrap64 (a0_0 - 1)) - x5_2))] ?_
        with_reducible refine (spec_l2At.calls a0_0 a0_1 _ _ l0_2 x4_1 (wrap64 ((wrap64 (a0_0 - 1)) - x5_2)) t167 _ ?side1 ?side2 A18.out).mono ?_
        (case side1 => exact cb_ HR0_2 HB)
        (case side2 => exact HC0_2.out)
        rintro e w24 ⟨rfl, hb⟩
        refine ⟨_, rfl, ?_⟩
        replace HO_167002 := Aside0.mk (Kd.R_below (ra_ HO_167002) hb)
        replace BK161 := bb_ BK161 hb
        replace BK162 := bb_ BK162 hb
        replace BK166 := bb_ BK166 hb
        replace HB := Aside0.mk (below_step (bw_ w) hb)
        (try clear hb)
        (try clear hb2)
        (try clear hk)
        (try clear hi)
        refine hK.out _ _ ⟨bc_ BK166 0, bc_ BK166 1, bc_ BK166 2, bc_ BK161 0, bc_ BK161 1, bc_ BK161 2⟩ (fun hHeld => ?_)
        clear hK K
        refine normA (N := some 33) ?_
        refine oneA (N := some 34) 10 HT_ (fun K hK => ?_)
        refine value_ (w1 := ?_) (v := ?_) (by rfl) rfl ?_ ?_
        rotate_left 2
        ·go_simp
         constructor
         ·rfl
         ·rfl
        refine hK.out _ _ ⟨(blk_cell (blk_alloc BK166.out _) 0).trans rfl, (blk_cell (blk_alloc BK166.out _) 1).trans rfl, (blk_cell (blk_alloc BK166.out _) 2).trans rfl, (blk_cell (blk_alloc BK161.out _) 0).trans rfl, (blk_cell (blk_alloc BK161.out _) 1).trans rfl, (blk_cell (blk_alloc BK161.out _) 2).trans rfl⟩ (fun hHeld => ?_)
        clear hK K
        refine normA (N := some 34) ?_
        refine oneA (N := some 35) 11 HT_ (fun K hK => ?_)
        refine Kd.R_append_step (Kd.int .i64) (w0 := w) w.heap.size (by rfl) (.tmp 25) (.tmp 34) 22 3 (.int .i64 0) 8 rfl Try.underlying22 info3 rfl (by decide) (by omega) u167002 x167002_2 t167 [.int .i64 t167] (fun _ => True) (fun _ => False) rfl rfl ?aP (fun _ hk => hk.elim) ?aF ?aO ?aB ?aS ?aL ?_
        (case aP => exact rfl)
        (case aB => exact (bw_ w))
        (case aF => exact (fun _ _ => trivial))
        (case aO => exact (ra_ HO_167002))
        (case aS => exact (below_size (bw_ w)))
        (case aL => have := LMc19.out; omega)
        intro v169 w25 ho hb hg hat
        rw [← Ny168.out] at ho
        replace BK161 := Aside0.mk (blk_grown (g := gb161) (o := .cells #[.int .i64 a0_0, .int .i64 a0_1, .slice A0_2 l0_2.length c0_2] 26 (0, 0)) (bk_ BK161) hg (Kd.R_ne HO_167002.out BK161.out (by decide)))
        replace BK162 := Aside0.mk (blk_grown (g := gb162) (o := .cells #[.int .i64 0, .int .i64 0, .slice none 0 0] 26 (0, 0)) (bk_ BK162) hg (Kd.R_ne HO_167002.out BK162.out (by decide)))
        replace BK166 := Aside0.mk (blk_grown (g := gb166) (o := .cells #[.int .i64 a0_0, .int .i64 a0_1, u167002] 26 (0, 0)) (bk_ BK166) hg (Kd.R_ne HO_167002.out BK166.out (by decide)))
        have HO170 := Aside0.mk (ho)
        replace HB := Aside0.mk (hb)
        clear HO_167002
        clear ho hb hg hat
        obtain ⟨Ao26, co26, eo26⟩ := Kd.R_slice HO170.out
        (first | subst eo26 | (injection eo26 with f1_ f2_ f3_; have f4_ := f1_.symm; have f5_ := f3_.symm; clear f1_ f2_ f3_; subst f4_; subst f5_))
        refine hK.out _ _ ⟨bc_ BK166 0, bc_ BK166 1, bc_ BK166 2, bc_ BK161 0, bc_ BK161 1, bc_ BK161 2⟩ (fun hHeld => ?_)
        clear hK K
        refine normA (N := some 35) ?_
        refine pureA (N := some 36) 12 HT_ ?_
        refine lastA (N := none) 13 HT_ (fun K hK => ?_)
        have hs27 : w25.cell? ⟨gb166, 2, none⟩ = some (u167002) := bc_ BK166 2
        have hfs27 := blk_frozen BK166.out 2
        have hns27_0 := NB161_166.out
        have hns27_1 := NB162_166.out
        have hms27_0 := NB166_161.out
        have hms27_1 := NB166_162.out
        refine skip_ (w1 := ?_) (by rfl) rfl ?_ ?_
        rotate_left
        ·go_simp
         rfl
        refine hK.out _ _ ?_
        clear hK K
        refine done_ (done_of HT_.out (by kernel_rfl)) ?_
        try go_wp2
        go_roundg k2
        case measure => have := HK1.out; have := HK2.out; omega
        case rel => exact ⟨(wrap64 (x5_2 + 1)), (y168), (.slice Ao26 y168.length co26), (by first | rfl | (simp; done) | (simp [*]; done)), H', ⟨by have := HK1.out; have := HK2.out; omega⟩, ⟨by exact rf_ (Kd.R_types HO170.out BK166.out (by decide)) (fun _ hk => trivial)⟩, ⟨bk_ BK161⟩, ⟨bk_ BK162⟩, ⟨bq_ BK166⟩, ⟨(bw_ w)⟩⟩
       ·rw [if_neg c19] at H
        exact absurd H (by simp)
      ·rw [if_neg c17] at H
       have c17b0 : decide (x5_2 < a0_0) = false := decide_eq_false c17
       clear c17
       have H' := Aside0.mk H
       clear H
       have hnb28 := NB161_162.out
       have hnc28 := NB162_161.out
       have hnb29 := NB161_166.out
       have hnc29 := NB166_161.out
       obtain ⟨hcz30_0, hcz30_1, hcz30_2, hfz30_0, hfz30_1, hfz30_2⟩ := bc3_ (w := wr) BK161
       go_wp2
       go_roundg k2
       case measure => have := HK1.out; have := HK2.out; omega
       case rel => exact ⟨(wrap64 (x4_1 + 1)), (x167002_2), (u167002), (by first | rfl | (simp; done) | (simp [*]; done)), H', ⟨by have := HK1.out; have := HK2.out; omega⟩, ⟨ra_ HO_167002⟩, ⟨bk_ BK161⟩, ⟨bk_ BK162⟩, ⟨bk_ BK166⟩, ⟨(bw_ w)⟩⟩
   ·rw [if_neg c13] at H
    have c13b0 : decide (x4_1 < a0_1) = false := decide_eq_false c13
    clear c13
    simp only [Option.some.injEq, Prod.mk.injEq] at H
    obtain ⟨rfl, rfl, rfl⟩ := H
    have hnb31 := NB161_162.out
    have hnc31 := NB162_161.out
    have hnb32 := NB161_166.out
    have hnc32 := NB166_161.out
    obtain ⟨hcz33_0, hcz33_1, hcz33_2, hfz33_0, hfz33_1, hfz33_2⟩ := bc3_ (w := wr) BK161
    have hnb34 := NB166_162.out
    have hnc34 := NB162_166.out
    obtain ⟨hcz35_0, hcz35_1, hcz35_2, hfz35_0, hfz35_1, hfz35_2⟩ := bc3_ (w := wr) BK166
    obtain ⟨hcz36_0, hcz36_1, hcz36_2, hfz36_0, hfz36_1, hfz36_2⟩ := bc3_ (w := wr) BK162
    obtain ⟨Ao37, co37, eo37⟩ := Kd.R_slice HO_167002.out
    subst eo37
    go_wp2
    refine bodyPost_ret (results_cell_row rfl _ _ gb162 26 #[.int .i64 a0_0, .int .i64 a0_1, .slice Ao37 x167002_1.length co37] (0, 0) _ rfl (bq_ BK162) Try.underlying26 rfl (by kernel_rfl)) rfl ?_
    exact ⟨_, by first | rfl | (simp [errW_none, errW_some] <;> rfl) | (simp [*, errW_none, errW_some] <;> rfl), by exact rf_ (Kd.R_types HO_167002.out BK162.out (by decide)) (fun _ hk => trivial), (bw_ w)⟩

/-! ### spec_l4Move: function 152 -/
mutual
def spec_l4Move.j0 : Nat → Int → Int → Int → List Int → Option (Int × Int × List Int)
  | 0, _, _, _, _ => none
  | k + 1, x1, x179000, x179001, x179002 => spec_l4Move.l0 k x1 0 x179000 x179001 x179002
def spec_l4Move.l0 : Nat → Int → Int → Int → Int → List Int → Option (Int × Int × List Int)
  | 0, _, _, _, _, _ => none
  | k + 1, x1, x6, x179000, x179001, x179002 => if x6 < (Int.tmod x1 4) then ((spec_l4Turn.f k x179000 x179001 x179002).bind fun bt184 => (spec_l4Move.l0 k x1 (wrap64 (x6 + 1)) bt184.1 bt184.2.1 bt184.2.2)) else (some (x179000, x179001, x179002))
end
def spec_l4Move.f (k : Nat) (a0_0 : Int) (a0_1 : Int) (l0_2 : List Int) (a1 : Int) : Option (Int × Int × List Int) := (spec_l2Own.f a0_0 a0_1 l0_2).bind fun bt173 => (if a1 ≥ 4 then ((spec_l4Mirror.f k bt173.1 bt173.2.1 bt173.2.2).bind fun bt179 => (spec_l4Move.j0 k a1 bt179.1 bt179.2.1 bt179.2.2)) else (spec_l4Move.j0 k a1 bt173.1 bt173.2.1 bt173.2.2))
theorem spec_l4Move.mono_l : ∀ k, (∀ y0 y1 y2 y3, LeO (spec_l4Move.j0 k y0 y1 y2 y3) (spec_l4Move.j0 (k + 1) y0 y1 y2 y3)) ∧ (∀ y0 y1 y2 y3 y4, LeO (spec_l4Move.l0 k y0 y1 y2 y3 y4) (spec_l4Move.l0 (k + 1) y0 y1 y2 y3 y4))
  | 0 => ⟨fun _ _ _ _ r h => by simp [spec_l4Move.j0] at h, fun _ _ _ _ _ r h => by simp [spec_l4Move.l0] at h⟩
  | k + 1 => by
    obtain ⟨ih0, ih1⟩ := spec_l4Move.mono_l k
    refine ⟨?_, ?_⟩
    · intro y0 y1 y2 y3
      unfold spec_l4Move.j0
      repeat' first
      | (with_reducible exact ih0 _ _ _ _)
      | (with_reducible exact ih1 _ _ _ _ _)
      | (with_reducible exact spec_l4Mirror.mono _ _ _ _)
      | (with_reducible exact spec_l4Turn.mono _ _ _ _)
      | (with_reducible exact LeO.refl _)
      | (with_reducible exact LeO.none _)
      | (with_reducible refine LeO.ite ?_ ?_)
      | (with_reducible refine LeO.bind ?_ (fun _ => ?_))
      | exact ih0 _ _ _ _
      | exact ih1 _ _ _ _ _
      | exact spec_l4Mirror.mono _ _ _ _
      | exact spec_l4Turn.mono _ _ _ _
      | exact LeO.none _
      | refine LeO.ite ?_ ?_
      | refine LeO.bind ?_ (fun _ => ?_)
    · intro y0 y1 y2 y3 y4
      unfold spec_l4Move.l0
      repeat' first
      | (with_reducible exact ih0 _ _ _ _)
      | (with_reducible exact ih1 _ _ _ _ _)
      | (with_reducible exact spec_l4Mirror.mono _ _ _ _)
      | (with_reducible exact spec_l4Turn.mono _ _ _ _)
      | (with_reducible exact LeO.refl _)
      | (with_reducible exact LeO.none _)
      | (with_reducible refine LeO.ite ?_ ?_)
      | (with_reducible refine LeO.bind ?_ (fun _ => ?_))
      | exact ih0 _ _ _ _
      | exact ih1 _ _ _ _ _
      | exact spec_l4Mirror.mono _ _ _ _
      | exact spec_l4Turn.mono _ _ _ _
      | exact LeO.none _
      | refine LeO.ite ?_ ?_
      | refine LeO.bind ?_ (fun _ => ?_)
theorem spec_l4Move.mono : ∀ a0 a1 a2 a3 k, LeO (spec_l4Move.f k a0 a1 a2 a3) (spec_l4Move.f (k + 1) a0 a1 a2 a3) := by
  intro a0 a1 a2 a3 k
  obtain ⟨ih0, ih1⟩ := spec_l4Move.mono_l k
  unfold spec_l4Move.f
  repeat' first
      | (with_reducible exact ih0 _ _ _ _)
      | (with_reducible exact ih1 _ _ _ _ _)
      | (with_reducible exact spec_l4Mirror.mono _ _ _ _)
      | (with_reducible exact spec_l4Turn.mono _ _ _ _)
      | (with_reducible exact LeO.refl _)
      | (with_reducible exact LeO.none _)
      | (with_reducible refine LeO.ite ?_ ?_)
      | (with_reducible refine LeO.bind ?_ (fun _ => ?_))
      | exact ih0 _ _ _ _
      | exact ih1 _ _ _ _ _
      | exact spec_l4Mirror.mono _ _ _ _
      | exact spec_l4Turn.mono _ _ _ _
      | exact LeO.none _
      | refine LeO.ite ?_ ?_
      | refine LeO.bind ?_ (fun _ => ?_)
set_option maxHeartbeats 8000000 in
set_option maxRecDepth 100000 in
theorem spec_l4Move.calls (k : Nat) (a0_0 : Int) (a0_1 : Int) (A0_2 : Option Addr) (c0_2 : Nat) (l0_2 : List Int) (a1 : Int) (r1 : Int) (r2 : Int) (r3 : List Int) (w : World) (hr0_2 : Kd.C (Kd.int .i64) w A0_2 l0_2.length l0_2) (hc0_2 : l0_2.length ≤ c0_2) (h : spec_l4Move.f k a0_0 a0_1 l0_2 a1 = some (r1, r2, r3)) :
  Calls Try.prog 152 #[.agg #[.int .i64 a0_0, .int .i64 a0_1, .slice A0_2 l0_2.length c0_2], .int .i64 a1] w fun e w' => ∃ v2_ : Value, e = .returned (.agg #[.int .i64 r1, .int .i64 r2, v2_]) ∧ Kd.R (Kd.int .i64) 3 w' w.heap.size (fun _ => True) v2_ r3 ∧ Below w.heap.size w w' := by
 have hu26 := Try.underlying26
 have HR0_2 := Aside0.mk hr0_2
 have HC0_2 := Aside0.mk hc0_2
 clear hr0_2 hc0_2
 have HB := Aside0.mk (Below.refl w.heap.size w)
 have H : ((spec_l2Own.f a0_0 a0_1 l0_2).bind fun bt173 => (if a1 ≥ 4 then ((spec_l4Mirror.f k bt173.1 bt173.2.1 bt173.2.2).bind fun bt179 => (spec_l4Move.j0 k a1 bt179.1 bt179.2.1 bt179.2.2)) else (spec_l4Move.j0 k a1 bt173.1 bt173.2.1 bt173.2.2))) = some (r1, r2, r3) := h
 clear h
 replace H := Option.bind_eq_some_iff.mp H
 obtain ⟨⟨t173, t174, t175⟩, A30, H⟩ := H
 replace H : (if a1 ≥ 4 then ((spec_l4Mirror.f k t173 t174 t175).bind fun bt179 => (spec_l4Move.j0 k a1 bt179.1 bt179.2.1 bt179.2.2)) else (spec_l4Move.j0 k a1 t173 t174 t175)) = some (r1, r2, r3) := H
 have A3 := Aside0.mk A30
 clear A30
 have HC4 := Aside0.mk H
 clear H
 go_enter Try.func152, Try.ntmps152
 go_upto_if 10 with (first | ((with_reducible refine gate_dst (N := 2) rfl ?_); refine box_ (N := 2) (cs := #[.int .i64 a0_0, .int .i64 a0_1, .slice A0_2 l0_2.length c0_2]) (t := 26) ?_; intro gb171 hg w5 hbox hb; have BK171 := Aside0.mk (hbox); have GW171 := gz_ w hg; have GE171 := gz_ w hg; replace HB := Aside0.mk (below_step (bw_ w) hb); clear hb hbox hg) | ((with_reducible refine gate_dst (N := 4) rfl ?_); refine box_ (N := 4) (cs := #[.int .i64 0, .int .i64 0, .slice none 0 0]) (t := 26) ?_; intro gb172 hg w6 hbox hb; have n0_ := bb_ BK171 hb; have n1_ := Aside0.mk (below_step (bw_ w) hb); have n2_ := Aside0.mk (hbox); have n3_ := gz_ w hg; have n4_ := gz_ w hg; have n5_ := ne_ hg BK171; have n6_ := en_ hg BK171; clear BK171; clear HB; have BK171 := n0_; have HB := n1_; have BK172 := n2_; have GW172 := n3_; have GE172 := n4_; have NB171_172 := n5_; have NB172_171 := n6_; clear n0_ n1_ n2_ n3_ n4_ n5_ n6_; clear hb hbox hg; have hnb7 := NB171_172.out; have hnc7 := NB172_171.out; obtain ⟨hcz8_0, hcz8_1, hcz8_2, hfz8_0, hfz8_1, hfz8_2⟩ := bc3_ (w := w6) BK171) | ((with_reducible refine gate_callee (f := 135) rfl ?_); refine goesB (some 8) Try.func135 #[.agg #[.int .i64 a0_0, .int .i64 a0_1, .slice A0_2 l0_2.length c0_2]] ?_; (with_reducible refine (spec_l2Own.calls a0_0 a0_1 _ _ l0_2 t173 t174 t175 _ ?side1 ?side2 A3.out).mono ?_); (case side1 => exact cb_ HR0_2 HB); (case side2 => exact HC0_2.out); rintro e w9 ⟨v176, rfl, ho0, hb⟩; refine ⟨_, rfl, ?_⟩; have HO177 := Aside0.mk (Kd.R_lower ho0 (below_size (bw_ w))); replace BK171 := bb_ BK171 hb; replace BK172 := bb_ BK172 hb; replace HB := Aside0.mk (below_step (bw_ w) hb); (try clear hb); (try clear hb2); (try clear hk); (try clear hi); (try clear ho0)) | ((with_reducible refine gate_dst (N := 5) rfl ?_); refine box_ (N := 5) (cs := #[.int .i64 0, .int .i64 0, .slice none 0 0]) (t := 26) ?_; intro gb178 hg w10 hbox hb; have n0_ := Aside0.mk (Kd.R_below (ra_ HO177) hb); have n1_ := bb_ BK171 hb; have n2_ := bb_ BK172 hb; have n3_ := Aside0.mk (below_step (bw_ w) hb); have n4_ := Aside0.mk (hbox); have n5_ := gz_ w hg; have n6_ := gz_ w hg; have n7_ := ne_ hg BK171; have n8_ := en_ hg BK171; have n9_ := ne_ hg BK172; have n10_ := en_ hg BK172; clear HO177; clear BK171; clear BK172; clear HB; have HO177 := n0_; have BK171 := n1_; have BK172 := n2_; have HB := n3_; have BK178 := n4_; have GW178 := n5_; have GE178 := n6_; have NB171_178 := n7_; have NB178_171 := n8_; have NB172_178 := n9_; have NB178_172 := n10_; clear n0_ n1_ n2_ n3_ n4_ n5_ n6_ n7_ n8_ n9_ n10_; clear hb hbox hg; have hnb11 := NB178_171.out; have hnc11 := NB171_178.out; have hnb12 := NB178_172.out; have hnc12 := NB172_178.out; obtain ⟨hcz13_0, hcz13_1, hcz13_2, hfz13_0, hfz13_1, hfz13_2⟩ := bc3_ (w := w10) BK178; obtain ⟨Ao14, co14, eo14⟩ := Kd.R_slice HO177.out; subst eo14))
 (try simp only [Act.put, List.setIfInBounds_toArray, List.set_cons_zero, List.set_cons_succ])
 go_cut [] (fun wc => ∃ (kq : Nat) (x179000_3 : Int) (x179001_3 : Int) (x179002_3 : List Int) (u179002 : Value), Aside0 (spec_l4Move.j0 kq a1 x179000_3 x179001_3 x179002_3 = some (r1, r2, r3)) ∧ Aside0 (kq ≤ k) ∧ Aside0 (Kd.R (Kd.int .i64) 3 wc w.heap.size (fun _ => True) u179002 x179002_3) ∧ Aside0 (wc.heap[gb171]? = some (.cells #[.int .i64 a0_0, .int .i64 a0_1, (.slice A0_2 l0_2.length c0_2)] 26 (0, 0))) ∧ Aside0 (wc.heap[gb172]? = some (.cells #[.int .i64 0, .int .i64 0, (.slice none 0 0)] 26 (0, 0))) ∧ Aside0 (wc.heap[gb178]? = some (.cells #[.int .i64 x179000_3, .int .i64 x179001_3, u179002] 26 (0, 0))) ∧ Aside0 (Below w.heap.size w wc))
 case first =>
  have H := HC4.out
  clear HC4
  by_cases c15 : a1 ≥ 4
  ·rw [if_pos c15] at H
   have c15b0 : decide (4 ≤ a1) = true := decide_eq_true c15
   clear c15
   (first | rw [c15b0] | (simp only [i64_w, i32_w]; rw [c15b0]) | skip)
   replace H := Option.bind_eq_some_iff.mp H
   obtain ⟨⟨t179, t180, t181⟩, A160, H⟩ := H
   replace H : (spec_l4Move.j0 k a1 t179 t180 t181) = some (r1, r2, r3) := H
   have A16 := Aside0.mk A160
   clear A160
   have H' := Aside0.mk H
   clear H
   have hnb17 := NB178_171.out
   have hnc17 := NB171_178.out
   have hnb18 := NB178_172.out
   have hnc18 := NB172_178.out
   obtain ⟨hcz19_0, hcz19_1, hcz19_2, hfz19_0, hfz19_1, hfz19_2⟩ := bc3_ (w := w10) BK178
   go_wp2_with (first | ((with_reducible refine gate_callee (f := 161) rfl ?_); refine goesB (some 12) Try.func161 #[.agg #[.int .i64 t173, .int .i64 t174, .slice Ao14 t175.length co14]] ?_; (with_reducible refine (spec_l4Mirror.calls k t173 t174 _ _ t175 t179 t180 t181 _ ?side1 ?side2 A16.out).mono ?_); (case side1 => refine (Kd.R_reads' (e := 3) (base := w.heap.size) (ok := fun k_ => True) (n := t175.length) (c := co14) ?_).2.2; exact (by exact rf_ (Kd.R_types HO177.out BK178.out (by decide)) (fun _ h_ => h_.1))); (case side2 => exact (Kd.R_reads' HO177.out).2.1); rintro e w20 ⟨v182, rfl, ho0, hb⟩; refine ⟨_, rfl, ?_⟩; have n0_ := Aside0.mk (Kd.R_elder' (by exact rf_ (Kd.R_types HO177.out BK178.out (by decide)) (fun _ h_ => h_.1)) (Kd.R_base ho0) hb); have n1_ := Aside0.mk (Kd.R_lower (Kd.R_new' ho0 (Kd.R_lt (by exact rf_ (Kd.R_types HO177.out BK178.out (by decide)) (fun _ h_ => h_.1)))) (below_size (bw_ w))); have n2_ := bb_ BK171 hb; have n3_ := bb_ BK172 hb; have n4_ := Aside0.mk (blk_below (g := gb178) (o := .cells #[.int .i64 t173, .int .i64 t174, .slice Ao14 t175.length co14] 26 (0, 0)) (bq_ BK178) hb); have n5_ := Aside0.mk (below_step (bw_ w) hb); clear HO177; clear BK171; clear BK172; clear BK178; clear HB; have HO177 := n0_; have HO183 := n1_; have BK171 := n2_; have BK172 := n3_; have BK178 := n4_; have HB := n5_; clear n0_ n1_ n2_ n3_ n4_ n5_; (try clear hb); (try clear hb2); (try clear hk); (try clear hi); (try clear ho0); obtain ⟨hcz21_0, hcz21_1, hcz21_2, hfz21_0, hfz21_1, hfz21_2⟩ := bc3_ (w := w20) BK178; obtain ⟨Ao22, co22, eo22⟩ := Kd.R_slice HO183.out; subst eo22))
   go_meet
   case rel => exact ⟨_, (t179), (t180), (t181), (.slice Ao22 t181.length co22), H', ⟨by first | omega | exact Nat.le_refl _⟩, ⟨by exact rf_ (Kd.R_types HO183.out BK178.out (by decide)) (fun _ hk => trivial)⟩, ⟨bk_ BK171⟩, ⟨bk_ BK172⟩, ⟨bq_ BK178⟩, ⟨(bw_ w)⟩⟩
  ·rw [if_neg c15] at H
   have c15b0 : decide (4 ≤ a1) = false := decide_eq_false c15
   clear c15
   (first | rw [c15b0] | (simp only [i64_w, i32_w]; rw [c15b0]) | skip)
   have H' := Aside0.mk H
   clear H
   go_wp2
   go_meet
   case rel => exact ⟨_, (t173), (t174), (t175), (.slice Ao14 t175.length co14), H', ⟨by first | omega | exact Nat.le_refl _⟩, ⟨by exact rf_ (Kd.R_types HO177.out BK178.out (by decide)) (fun _ hk => trivial)⟩, ⟨bk_ BK171⟩, ⟨bk_ BK172⟩, ⟨bq_ BK178⟩, ⟨(bw_ w)⟩⟩
 case rest =>
  clear HC4
  try clear c1
  try clear p2
  try clear c7
  try clear c11
  try clear c12
  try clear c13
  try clear c15
  try clear c15b0
  try clear c16
  try clear c17
  try clear c18
  try clear hcz13_0
  try clear hcz13_1
  try clear hcz13_2
  try clear hcz19_0
  try clear hcz19_1
  try clear hcz19_2
  try clear hcz21_0
  try clear hcz21_1
  try clear hcz21_2
  try clear hcz8_0
  try clear hcz8_1
  try clear hcz8_2
  try clear hfz13_0
  try clear hfz13_1
  try clear hfz13_2
  try clear hfz19_0
  try clear hfz19_1
  try clear hfz19_2
  try clear hfz21_0
  try clear hfz21_1
  try clear hfz21_2
  try clear hfz8_0
  try clear hfz8_1
  try clear hfz8_2
  obtain ⟨kq, x179000_3, x179001_3, x179002_3, u179002, HA, HJ3, HO_179002, BK171, BK172, BK178, HB⟩ := hcut
  cases kq with
  | zero => exact absurd HA.out (by simp [spec_l4Move.j0])
  | succ kj3 =>
   have H := HA.out
   clear HA
   simp only [spec_l4Move.j0] at H
   have H' := Aside0.mk H
   clear H
   go_wp2
   go_loopg [6] kj3 (fun kq v6 w' => ∃ (x6_2 : Int) (x179000_2 : Int) (x179001_2 : Int) (x179002_2 : List Int) (u179002 : Value), v6 = .int .i64 x6_2 ∧ Aside0 (spec_l4Move.l0 kq a1 x6_2 x179000_2 x179001_2 x179002_2 = some (r1, r2, r3)) ∧ Aside0 (kq ≤ kj3) ∧ Aside0 (Kd.R (Kd.int .i64) 3 w' w.heap.size (fun _ => True) u179002 x179002_2) ∧ Aside0 (w'.heap[gb171]? = some (.cells #[.int .i64 a0_0, .int .i64 a0_1, (.slice A0_2 l0_2.length c0_2)] 26 (0, 0))) ∧ Aside0 (w'.heap[gb172]? = some (.cells #[.int .i64 0, .int .i64 0, (.slice none 0 0)] 26 (0, 0))) ∧ Aside0 (w'.heap[gb178]? = some (.cells #[.int .i64 x179000_2, .int .i64 x179001_2, u179002] 26 (0, 0))) ∧ Aside0 (Below w.heap.size w w'))
   case atStart => exact ⟨(0), (x179000_3), (x179001_3), (x179002_3), (u179002), (by first | rfl | (simp; done) | (simp [*]; done)), H', ⟨Nat.le_refl _⟩, ⟨ra_ HO_179002⟩, ⟨bk_ BK171⟩, ⟨bk_ BK172⟩, ⟨bk_ BK178⟩, ⟨(bw_ w)⟩⟩
   case round =>
    clear H'
    try clear c1
    try clear p2
    try clear c7
    try clear c11
    try clear c12
    try clear c13
    try clear c15
    try clear c15b0
    try clear c16
    try clear c17
    try clear c18
    try clear hcz13_0
    try clear hcz13_1
    try clear hcz13_2
    try clear hcz19_0
    try clear hcz19_1
    try clear hcz19_2
    try clear hcz21_0
    try clear hcz21_1
    try clear hcz21_2
    try clear hcz8_0
    try clear hcz8_1
    try clear hcz8_2
    try clear hfz13_0
    try clear hfz13_1
    try clear hfz13_2
    try clear hfz19_0
    try clear hfz19_1
    try clear hfz19_2
    try clear hfz21_0
    try clear hfz21_1
    try clear hfz21_2
    try clear hfz8_0
    try clear hfz8_1
    try clear hfz8_2
    try clear p2
    obtain ⟨x6_2, x179000_2, x179001_2, x179002_2, u179002, rfl, HA, HK2, HO_179002, BK171, BK172, BK178, HB⟩ := hrel
    cases gk with
    | zero => exact absurd HA.out (by simp [spec_l4Move.l0])
    | succ k2 =>
     have H := HA.out
     clear HA
     simp only [spec_l4Move.l0] at H
     by_cases c23 : x6_2 < (Int.tmod a1 4)
     ·rw [if_pos c23] at H
      have c23b0 : decide (x6_2 < (Int.tmod a1 4)) = true := decide_eq_true c23
      clear c23
      replace H := Option.bind_eq_some_iff.mp H
      obtain ⟨⟨t184, t185, t186⟩, A240, H⟩ := H
      replace H : (spec_l4Move.l0 k2 a1 (wrap64 (x6_2 + 1)) t184 t185 t186) = some (r1, r2, r3) := H
      have A24 := Aside0.mk A240
      clear A240
      have H' := Aside0.mk H
      clear H
      have hnb25 := NB178_171.out
      have hnc25 := NB171_178.out
      have hnb26 := NB178_172.out
      have hnc26 := NB172_178.out
      obtain ⟨hcz27_0, hcz27_1, hcz27_2, hfz27_0, hfz27_1, hfz27_2⟩ := bc3_ (w := wr) BK178
      obtain ⟨Ao28, co28, eo28⟩ := Kd.R_slice HO_179002.out
      subst eo28
      go_wp2_with (first | ((with_reducible refine gate_callee (f := 160) rfl ?_); refine goesB (some 20) Try.func160 #[.agg #[.int .i64 x179000_2, .int .i64 x179001_2, .slice Ao28 x179002_2.length co28]] ?_; (with_reducible refine (spec_l4Turn.calls k2 x179000_2 x179001_2 _ _ x179002_2 t184 t185 t186 _ ?side1 ?side2 A24.out).mono ?_); (case side1 => exact co_ (Kd.R_reads' HO_179002.out).2.2); (case side2 => exact (Kd.R_reads' HO_179002.out).2.1); rintro e w29 ⟨v187, rfl, ho0, hb⟩; refine ⟨_, rfl, ?_⟩; have n0_ := Aside0.mk (Kd.R_elder' (ra_ HO_179002) (Kd.R_base ho0) hb); have n1_ := Aside0.mk (Kd.R_lower (Kd.R_new' ho0 (Kd.R_lt (ra_ HO_179002))) (below_size (bw_ w))); have n2_ := bb_ BK171 hb; have n3_ := bb_ BK172 hb; have n4_ := bb_ BK178 hb; have n5_ := Aside0.mk (below_step (bw_ w) hb); clear HO_179002; clear BK171; clear BK172; clear BK178; clear HB; have HO_179002 := n0_; have HO188 := n1_; have BK171 := n2_; have BK172 := n3_; have BK178 := n4_; have HB := n5_; clear n0_ n1_ n2_ n3_ n4_ n5_; (try clear hb); (try clear hb2); (try clear hk); (try clear hi); (try clear ho0); obtain ⟨hcz30_0, hcz30_1, hcz30_2, hfz30_0, hfz30_1, hfz30_2⟩ := bc3_ (w := w29) BK178; obtain ⟨Ao31, co31, eo31⟩ := Kd.R_slice HO188.out; subst eo31))
      go_roundg k2
      case measure => have := HJ3.out; have := HK2.out; omega
      case rel => exact ⟨(wrap64 (x6_2 + 1)), (t184), (t185), (t186), (.slice Ao31 t186.length co31), (by first | rfl | (simp; done) | (simp [*]; done)), H', ⟨by have := HJ3.out; have := HK2.out; omega⟩, ⟨by exact rf_ (Kd.R_types HO188.out BK178.out (by decide)) (fun _ hk => trivial)⟩, ⟨bk_ BK171⟩, ⟨bk_ BK172⟩, ⟨bq_ BK178⟩, ⟨(bw_ w)⟩⟩
     ·rw [if_neg c23] at H
      have c23b0 : decide (x6_2 < (Int.tmod a1 4)) = false := decide_eq_false c23
      clear c23
      simp only [Option.some.injEq, Prod.mk.injEq] at H
      obtain ⟨rfl, rfl, rfl⟩ := H
      have hnb32 := NB178_171.out
      have hnc32 := NB171_178.out
      have hnb33 := NB178_172.out
      have hnc33 := NB172_178.out
      obtain ⟨hcz34_0, hcz34_1, hcz34_2, hfz34_0, hfz34_1, hfz34_2⟩ := bc3_ (w := wr) BK178
      have hnb35 := NB172_171.out
      have hnc35 := NB171_172.out
      obtain ⟨hcz36_0, hcz36_1, hcz36_2, hfz36_0, hfz36_1, hfz36_2⟩ := bc3_ (w := wr) BK172
      obtain ⟨Ao37, co37, eo37⟩ := Kd.R_slice HO_179002.out
      subst eo37
      go_wp2
      refine bodyPost_ret (results_cell_row rfl _ _ gb172 26 #[.int .i64 x179000_2, .int .i64 x179001_2, .slice Ao37 x179002_2.length co37] (0, 0) _ rfl (bq_ BK172) Try.underlying26 rfl (by kernel_rfl)) rfl ?_
      exact ⟨_, by first | rfl | (simp [errW_none, errW_some] <;> rfl) | (simp [*, errW_none, errW_some] <;> rfl), by exact rf_ (Kd.R_types HO_179002.out BK172.out (by decide)) (fun _ hk => trivial), (bw_ w)⟩

end Go.Proofs.Ytijmljaemalgmaa.PFnExactCompleteChart
