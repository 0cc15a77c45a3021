-- Printed by this session's own program (wip/tool/myprint.py, over the kit's print); Lean checks it.
import Derived.Test.YtijmljaemalgmaaPFnExactCompleteChartx0
import Derived.Test.YtijmljaemalgmaaPFnExactCompleteChartx6
namespace Go.Proofs.Ytijmljaemalgmaa.PFnExactCompleteChart
open Go.RowKit Go.Proofs.YtijmljaemalgmaaW.PrintWords Go.Proofs.YtijmljaemalgmaaW.PrintLast Go.Proofs.YtijmljaemalgmaaW.PrintMore
attribute [local go_sem] max2_int min2_int max_two min_two max_three min_three max_four min_four   -- for this text's walks alone
set_option linter.unusedVariables false
set_option linter.unusedSimpArgs false

/-! ### impl_makeChart__Chart_turned_1: function 178 -/
mutual
def impl_makeChart__Chart_turned_1.l0 : Nat → Int → Int → Int → Int → Int → List Int → Int → Int → List Int → Option (Int × Int × List Int)
  | 0, _, _, _, _, _, _, _, _, _ => none
  | k + 1, x0, x13, x14, x288000, x288001, x288002, x290000, x290001, x290002 => if x14 < x13 then (impl_makeChart__Chart_turned_1.l1 k x0 x14 x13 x14 x0 0 x288000 x288001 x288002 x290000 x290001 x290002) else (some (x290000, x290001, x290002))
def impl_makeChart__Chart_turned_1.l1 : Nat → Int → Int → Int → Int → Int → Int → Int → Int → List Int → Int → Int → List Int → Option (Int × Int × List Int)
  | 0, _, _, _, _, _, _, _, _, _, _, _, _ => none
  | k + 1, x0, x8, x13, x14, x17, x18, x288000, x288001, x288002, x290000, x290001, x290002 => if x18 < x17 then ((impl_Chart_turned_1.f x8 x18 x288000 x288001 x288002).bind fun t290 => (if x290002.length < 17592186044416 then (impl_makeChart__Chart_turned_1.l1 k x0 x8 x13 x14 x17 (wrap64 (x18 + 1)) x288000 x288001 x288002 x290000 x290001 (x290002 ++ [t290])) else (none))) else (impl_makeChart__Chart_turned_1.l0 k x0 x13 (wrap64 (x14 + 1)) x288000 x288001 x288002 x290000 x290001 x290002)
end
def impl_makeChart__Chart_turned_1.f (k : Nat) (a0 : Int) (a1 : Int) (a2_0 : Int) (a2_1 : Int) (l2_2 : List Int) : Option (Int × Int × List Int) := impl_makeChart__Chart_turned_1.l0 k a0 a1 0 a2_0 a2_1 l2_2 a0 a1 ([] : List Int)
theorem impl_makeChart__Chart_turned_1.mono_l : ∀ k, (∀ y0 y1 y2 y3 y4 y5 y6 y7 y8, LeO (impl_makeChart__Chart_turned_1.l0 k y0 y1 y2 y3 y4 y5 y6 y7 y8) (impl_makeChart__Chart_turned_1.l0 (k + 1) y0 y1 y2 y3 y4 y5 y6 y7 y8)) ∧ (∀ y0 y1 y2 y3 y4 y5 y6 y7 y8 y9 y10 y11, LeO (impl_makeChart__Chart_turned_1.l1 k y0 y1 y2 y3 y4 y5 y6 y7 y8 y9 y10 y11) (impl_makeChart__Chart_turned_1.l1 (k + 1) y0 y1 y2 y3 y4 y5 y6 y7 y8 y9 y10 y11))
  | 0 => ⟨fun _ _ _ _ _ _ _ _ _ r h => by simp [impl_makeChart__Chart_turned_1.l0] at h, fun _ _ _ _ _ _ _ _ _ _ _ _ r h => by simp [impl_makeChart__Chart_turned_1.l1] at h⟩
  | k + 1 => by
    obtain ⟨ih0, ih1⟩ := impl_makeChart__Chart_turned_1.mono_l k
    refine ⟨?_, ?_⟩
    · intro y0 y1 y2 y3 y4 y5 y6 y7 y8
      unfold impl_makeChart__Chart_turned_1.l0
      repeat' first
      | (with_reducible exact ih0 _ _ _ _ _ _ _ _ _)
      | (with_reducible exact ih1 _ _ _ _ _ _ _ _ _ _ _ _)
      | (with_reducible exact LeO.refl _)
      | (with_reducible exact LeO.none _)
      | (with_reducible refine LeO.ite ?_ ?_)
      | (with_reducible refine LeO.bind ?_ (fun _ => ?_))
      | exact ih0 _ _ _ _ _ _ _ _ _
      | exact ih1 _ _ _ _ _ _ _ _ _ _ _ _
      | exact LeO.none _
      | refine LeO.ite ?_ ?_
      | refine LeO.bind ?_ (fun _ => ?_)
    · intro y0 y1 y2 y3 y4 y5 y6 y7 y8 y9 y10 y11
      unfold impl_makeChart__Chart_turned_1.l1
      repeat' first
      | (with_reducible exact ih0 _ _ _ _ _ _ _ _ _)
      | (with_reducible exact ih1 _ _ _ _ _ _ _ _ _ _ _ _)
      | (with_reducible exact LeO.refl _)
      | (with_reducible exact LeO.none _)
      | (with_reducible refine LeO.ite ?_ ?_)
      | (with_reducible refine LeO.bind ?_ (fun _ => ?_))
      | exact ih0 _ _ _ _ _ _ _ _ _
      | exact ih1 _ _ _ _ _ _ _ _ _ _ _ _
      | exact LeO.none _
      | refine LeO.ite ?_ ?_
      | refine LeO.bind ?_ (fun _ => ?_)
theorem impl_makeChart__Chart_turned_1.mono : ∀ a0 a1 a2 a3 a4 k, LeO (impl_makeChart__Chart_turned_1.f k a0 a1 a2 a3 a4) (impl_makeChart__Chart_turned_1.f (k + 1) a0 a1 a2 a3 a4) := by
  intro a0 a1 a2 a3 a4 k
  obtain ⟨ih0, ih1⟩ := impl_makeChart__Chart_turned_1.mono_l k
  unfold impl_makeChart__Chart_turned_1.f
  repeat' first
      | (with_reducible exact ih0 _ _ _ _ _ _ _ _ _)
      | (with_reducible exact ih1 _ _ _ _ _ _ _ _ _ _ _ _)
      | (with_reducible exact LeO.refl _)
      | (with_reducible exact LeO.none _)
      | (with_reducible refine LeO.ite ?_ ?_)
      | (with_reducible refine LeO.bind ?_ (fun _ => ?_))
      | exact ih0 _ _ _ _ _ _ _ _ _
      | exact ih1 _ _ _ _ _ _ _ _ _ _ _ _
      | exact LeO.none _
      | refine LeO.ite ?_ ?_
      | refine LeO.bind ?_ (fun _ => ?_)
def impl_makeChart__Chart_turned_1.T8 : Bool × List (List Nat × List Nat) := (true, [([], []), ([0], [0]), ([], []), ([], []), ([], []), ([2, 3, 4], [2, 3, 4]), ([5], [5]), ([1, 6, 5], [1, 6]), ([0, 1, 2, 3, 4, 5, 6, 7], []), ([8, 7, 7, 0, 1, 2, 3, 4, 5, 6, 7], [7, 8])])
def impl_makeChart__Chart_turned_1.B8 : List Nat := [0, 1, 0, 0, 0, 28, 60, 127, 255, 511]
theorem impl_makeChart__Chart_turned_1.tab8 : rtab .any (opsOf Try.f178 8) = impl_makeChart__Chart_turned_1.T8 := by kernel_rfl
theorem impl_makeChart__Chart_turned_1.bits8 : waitsOk impl_makeChart__Chart_turned_1.T8.2 impl_makeChart__Chart_turned_1.B8 = true := by kernel_rfl
set_option maxHeartbeats 8000000 in
set_option maxRecDepth 100000 in
theorem impl_makeChart__Chart_turned_1.calls (k : Nat) (a0 : Int) (a1 : Int) (gb287 : Nat) (a2_0 : Int) (a2_1 : Int) (A2_2 : Option Addr) (c2_2 : Nat) (l2_2 : List Int) (r1 : Int) (r2 : Int) (r3 : List Int) (w : World) (hb287 : w.heap[gb287]? = some (.cells #[.int .i64 a2_0, .int .i64 a2_1, .slice A2_2 l2_2.length c2_2] 26 (0, 0))) (hr2_2 : Kd.C (Kd.int .i64) w A2_2 l2_2.length l2_2) (hc2_2 : l2_2.length ≤ c2_2) (h : impl_makeChart__Chart_turned_1.f k a0 a1 a2_0 a2_1 l2_2 = some (r1, r2, r3)) :
  Calls Try.prog 178 #[.int .i64 a0, .int .i64 a1, (.func (.func 244) #[] #[.pointer (some ⟨gb287, 0, none⟩)])] w fun e w' => ∃ v2_ : Value, e = .returned (.agg #[.int .i64 r1, .int .i64 r2, v2_]) ∧ Kd.R (Kd.int .i64) 3 w' w.heap.size (fun _ => True) v2_ r3 ∧ Below w.heap.size w w' := by
 have hu26 := Try.underlying26
 have HR2_2 := Aside0.mk hr2_2
 have HC2_2 := Aside0.mk hc2_2
 clear hr2_2 hc2_2
 have BK287 := Aside0.mk hb287
 clear hb287
 have HB := Aside0.mk (Below.refl w.heap.size w)
 have H : (impl_makeChart__Chart_turned_1.l0 k a0 a1 0 a2_0 a2_1 l2_2 a0 a1 ([] : List Int)) = some (r1, r2, r3) := h
 clear h
 have H' := Aside0.mk H
 clear H
 go_enter Try.func178, Try.ntmps178
 go_wp2_with (first | ((with_reducible refine gate_dst (N := 6) rfl ?_); refine box_ (N := 6) (cs := #[.int .i64 0, .int .i64 0, .slice none 0 0]) (t := 26) ?_; intro gb288 hg w4 hbox hb; have n0_ := bb_ BK287 hb; have n1_ := Aside0.mk (below_step (bw_ w) hb); have n2_ := Aside0.mk (hbox); have n3_ := gz_ w hg; have n4_ := gz_ w hg; have n5_ := ne_ hg BK287; have n6_ := en_ hg BK287; clear BK287; clear HB; have BK287 := n0_; have HB := n1_; have BK288 := n2_; have GW288 := n3_; have GE288 := n4_; have NB287_288 := n5_; have NB288_287 := n6_; clear n0_ n1_ n2_ n3_ n4_ n5_ n6_; clear hb hbox hg) | ((with_reducible refine gate_dst (N := 7) rfl ?_); refine box_ (N := 7) (cs := #[.int .i64 0, .int .i64 0, .slice none 0 0]) (t := 26) ?_; intro gb289 hg w5 hbox hb; have n0_ := bb_ BK287 hb; have n1_ := bb_ BK288 hb; have n2_ := Aside0.mk (below_step (bw_ w) hb); have n3_ := Aside0.mk (hbox); have n4_ := gz_ w hg; have n5_ := gz_ w hg; have n6_ := ne_ hg BK287; have n7_ := en_ hg BK287; have n8_ := ne_ hg BK288; have n9_ := en_ hg BK288; clear BK287; clear BK288; clear HB; have BK287 := n0_; have BK288 := n1_; have HB := n2_; have BK289 := n3_; have GW289 := n4_; have GE289 := n5_; have NB287_289 := n6_; have NB289_287 := n7_; have NB288_289 := n8_; have NB289_288 := n9_; clear n0_ n1_ n2_ n3_ n4_ n5_ n6_ n7_ n8_ n9_; clear hb hbox hg; have hnb6 := NB289_287.out; have hnc6 := NB287_289.out; have hnb7 := NB289_288.out; have hnc7 := NB288_289.out; obtain ⟨hcz8_0, hcz8_1, hcz8_2, hfz8_0, hfz8_1, hfz8_2⟩ := bc3_ (w := w5) BK289))
 go_loopg [14] k (fun kq v14 w' => ∃ (x14_1 : Int) (x290002_1 : List Int) (u290002 : Value), v14 = .int .i64 x14_1 ∧ Aside0 (impl_makeChart__Chart_turned_1.l0 kq a0 a1 x14_1 a2_0 a2_1 l2_2 a0 a1 x290002_1 = some (r1, r2, r3)) ∧ Aside0 (kq ≤ k) ∧ Aside0 (Kd.R (Kd.int .i64) 3 w' w.heap.size (fun _ => True) u290002 x290002_1) ∧ Aside0 (w'.heap[gb287]? = some (.cells #[.int .i64 a2_0, .int .i64 a2_1, (.slice A2_2 l2_2.length c2_2)] 26 (0, 0))) ∧ Aside0 (w'.heap[gb288]? = some (.cells #[.int .i64 0, .int .i64 0, (.slice none 0 0)] 26 (0, 0))) ∧ Aside0 (w'.heap[gb289]? = some (.cells #[.int .i64 a0, .int .i64 a1, u290002] 26 (0, 0))) ∧ Aside0 (Below w.heap.size w w'))
 case atStart => exact ⟨(0), (([] : List Int)), (.slice none 0 0), (by first | rfl | (simp; done) | (simp [*]; done)), H', ⟨Nat.le_refl _⟩, ⟨by first | exact Kd.R_nil _ _ _ _ _ | exact Kd.N_nil _ _ _ _ _ | exact Kd.V_nil _ _ _ _ _ | exact Kd.Q_nil _ _ _ _ _ | exact Kd.S_nil _ _ _ _ _⟩, ⟨bk_ BK287⟩, ⟨bk_ BK288⟩, ⟨bq_ BK289⟩, ⟨(bw_ w)⟩⟩
 case round =>
  clear H'
  try clear c1
  try clear c2
  try clear p2
  try clear c6
  try clear c7
  try clear hcz8_0
  try clear hcz8_1
  try clear hcz8_2
  try clear hfz8_0
  try clear hfz8_1
  try clear hfz8_2
  obtain ⟨x14_1, x290002_1, u290002, rfl, HA, HK1, HO_290002, BK287, BK288, BK289, HB⟩ := hrel
  cases gk with
  | zero => exact absurd HA.out (by simp [impl_makeChart__Chart_turned_1.l0])
  | succ k1 =>
   have H := HA.out
   clear HA
   simp only [impl_makeChart__Chart_turned_1.l0] at H
   by_cases c9 : x14_1 < a1
   ·rw [if_pos c9] at H
    have c9b0 : decide (x14_1 < a1) = true := decide_eq_true c9
    clear c9
    have H' := Aside0.mk H
    clear H
    go_wp2
    go_loopg [18] k1 (fun kq v18 w' => ∃ (x18_2 : Int) (x290002_2 : List Int) (u290002 : Value), v18 = .int .i64 x18_2 ∧ Aside0 (impl_makeChart__Chart_turned_1.l1 kq a0 x14_1 a1 x14_1 a0 x18_2 a2_0 a2_1 l2_2 a0 a1 x290002_2 = some (r1, r2, r3)) ∧ Aside0 (kq ≤ k1) ∧ Aside0 (Kd.R (Kd.int .i64) 3 w' w.heap.size (fun _ => True) u290002 x290002_2) ∧ Aside0 (w'.heap[gb287]? = some (.cells #[.int .i64 a2_0, .int .i64 a2_1, (.slice A2_2 l2_2.length c2_2)] 26 (0, 0))) ∧ Aside0 (w'.heap[gb288]? = some (.cells #[.int .i64 0, .int .i64 0, (.slice none 0 0)] 26 (0, 0))) ∧ Aside0 (w'.heap[gb289]? = some (.cells #[.int .i64 a0, .int .i64 a1, u290002] 26 (0, 0))) ∧ Aside0 (Below w.heap.size w w'))
    case atStart => exact ⟨(0), (x290002_1), (u290002), (by first | rfl | (simp; done) | (simp [*]; done)), H', ⟨Nat.le_refl _⟩, ⟨ra_ HO_290002⟩, ⟨bk_ BK287⟩, ⟨bk_ BK288⟩, ⟨bk_ BK289⟩, ⟨(bw_ w)⟩⟩
    case round =>
     clear H'
     try clear c1
     try clear c2
     try clear p2
     try clear c6
     try clear c7
     try clear c9
     try clear c9b0
     try clear hcz8_0
     try clear hcz8_1
     try clear hcz8_2
     try clear hfz8_0
     try clear hfz8_1
     try clear hfz8_2
     try clear p2
     obtain ⟨x18_2, x290002_2, u290002, rfl, HA, HK2, HO_290002, BK287, BK288, BK289, HB⟩ := hrel
     cases gk with
     | zero => exact absurd HA.out (by simp [impl_makeChart__Chart_turned_1.l1])
     | succ k2 =>
      have H := HA.out
      clear HA
      simp only [impl_makeChart__Chart_turned_1.l1] at H
      by_cases c10 : x18_2 < a0
      ·rw [if_pos c10] at H
       have c10b0 : decide (x18_2 < a0) = true := decide_eq_true c10
       clear c10
       replace H := Option.bind_eq_some_iff.mp H
       obtain ⟨t290, A110, H⟩ := H
       replace H : (if x290002_2.length < 17592186044416 then (impl_makeChart__Chart_turned_1.l1 k2 a0 x14_1 a1 x14_1 a0 (wrap64 (x18_2 + 1)) a2_0 a2_1 l2_2 a0 a1 (x290002_2 ++ [t290])) else (none)) = some (r1, r2, r3) := H
       have A11 := Aside0.mk A110
       clear A110
       by_cases c12 : x290002_2.length < 17592186044416
       ·rw [if_pos c12] at H
        have LMc12 := Aside0.mk c12
        clear c12
        obtain ⟨y291, hy291⟩ : ∃ y_ : List Int, y_ = (x290002_2 ++ [t290]) := ⟨_, rfl⟩
        replace H : (impl_makeChart__Chart_turned_1.l1 k2 a0 x14_1 a1 x14_1 a0 (wrap64 (x18_2 + 1)) a2_0 a2_1 l2_2 a0 a1 y291) = some (r1, r2, r3) := by first | (rw [hy291]; with_reducible exact H) | (have H2_ := (Option.bind_some _ _).symm.trans H; rw [hy291]; with_reducible exact H2_) | (have H2_ := (Option.bind_some _ _).symm.trans H; with_reducible exact H2_) | with_reducible exact H | (rw [hy291]; exact H) | exact H
        have Ny291 := Aside0.mk hy291
        clear hy291
        have H' := Aside0.mk H
        clear H
        try go_wp2
        replace HO_290002 := Aside0.mk (Kd.R_drew HO_290002.out)
        replace BK287 := Aside0.mk (blk_drew BK287.out)
        replace BK288 := Aside0.mk (blk_drew BK288.out)
        replace BK289 := Aside0.mk (blk_drew BK289.out)
        replace HB := Aside0.mk (below_drew1 HB.out)
        refine start_ (n := 10) (S := fun w' => w'.cell? ⟨gb289, 0, none⟩ = some (.int .i64 a0) ∧ w'.cell? ⟨gb289, 1, none⟩ = some (.int .i64 a1) ∧ w'.cell? ⟨gb289, 2, none⟩ = some (u290002)) (ds := [9]) #[false, false, false, false, false, false, false, false, false, false] (by kernel_rfl) rfl rfl ⟨bc_ BK289 0, bc_ BK289 1, bc_ BK289 2⟩ (fun hHeld => ?_); refine with_tabW impl_makeChart__Chart_turned_1.tab8 impl_makeChart__Chart_turned_1.bits8 (fun HT_ HW_ => ?_)
        generalize wr.drew = w13 at HO_290002 BK287 BK288 BK289 HB hHeld ⊢
        refine pureA (N := some 21) 0 HT_ ?_
        refine pureA (N := some 23) 2 HT_ ?_
        refine pureA (N := some 24) 3 HT_ ?_
        refine pureA (N := some 25) 4 HT_ ?_
        refine takeA (N := some 22) 1 HT_ HW_ hHeld ?_
        refine oneA (N := some 26) 5 HT_ (fun K hK => ?_)
        refine goesVr_ Try.func244 (by kernel_rfl) rfl #[.int .i64 x14_1, .int .i64 x18_2, .pointer (some ⟨gb287, 0, none⟩)] (by rfl) rfl rfl (by first | rfl | (simp [Act.eval]; done)) (by first | rfl | (simp [Act.eval]; done)) ?_
        with_reducible refine (impl_Chart_turned_1.calls x14_1 x18_2 gb287 a2_0 a2_1 A2_2 c2_2 l2_2 t290 _ ?side1 ?side2 ?side3 A11.out).mono ?_
        (case side1 => (with_reducible repeat (first | refine blk_drewN ?_ _ | refine blk_drew ?_ | refine blk_alloc ?_ _)); exact BK287.out)
        (case side2 => exact cb_ HR2_2 HB)
        (case side3 => exact HC2_2.out)
        rintro e w14 ⟨rfl, hb⟩
        refine ⟨_, rfl, ?_⟩
        replace HO_290002 := Aside0.mk (Kd.R_below (ra_ HO_290002) hb)
        replace BK287 := bb_ BK287 hb
        replace BK288 := bb_ BK288 hb
        replace BK289 := bb_ BK289 hb
        replace HB := Aside0.mk (below_step (bw_ w) hb)
        (try clear hb)
        (try clear hb2)
        (try clear hk)
        (try clear hi)
        refine hK.out _ _ ⟨bc_ BK289 0, bc_ BK289 1, bc_ BK289 2⟩ (fun hHeld => ?_)
        clear hK K
        refine normA (N := some 26) ?_
        refine oneA (N := some 27) 6 HT_ (fun K hK => ?_)
        refine value_ (w1 := ?_) (v := ?_) (by rfl) rfl ?_ ?_
        rotate_left 2
        ·go_simp
         constructor
         ·rfl
         ·rfl
        refine hK.out _ _ ⟨(blk_cell (blk_alloc BK289.out _) 0).trans rfl, (blk_cell (blk_alloc BK289.out _) 1).trans rfl, (blk_cell (blk_alloc BK289.out _) 2).trans rfl⟩ (fun hHeld => ?_)
        clear hK K
        refine normA (N := some 27) ?_
        refine oneA (N := some 28) 7 HT_ (fun K hK => ?_)
        refine Kd.R_append_step (Kd.int .i64) (w0 := w) w.heap.size (by rfl) (.tmp 22) (.tmp 27) 22 3 (.int .i64 0) 8 rfl Try.underlying22 info3 rfl (by decide) (by omega) u290002 x290002_2 t290 [.int .i64 t290] (fun _ => True) (fun _ => False) rfl rfl ?aP (fun _ hk => hk.elim) ?aF ?aO ?aB ?aS ?aL ?_
        (case aP => exact rfl)
        (case aB => exact (bw_ w))
        (case aF => exact (fun _ _ => trivial))
        (case aO => exact (ra_ HO_290002))
        (case aS => exact (below_size (bw_ w)))
        (case aL => have := LMc12.out; omega)
        intro v292 w15 ho hb hg hat
        rw [← Ny291.out] at ho
        replace BK287 := Aside0.mk (blk_grown (g := gb287) (o := .cells #[.int .i64 a2_0, .int .i64 a2_1, .slice A2_2 l2_2.length c2_2] 26 (0, 0)) (bk_ BK287) hg (Kd.R_ne HO_290002.out BK287.out (by decide)))
        replace BK288 := Aside0.mk (blk_grown (g := gb288) (o := .cells #[.int .i64 0, .int .i64 0, .slice none 0 0] 26 (0, 0)) (bk_ BK288) hg (Kd.R_ne HO_290002.out BK288.out (by decide)))
        replace BK289 := Aside0.mk (blk_grown (g := gb289) (o := .cells #[.int .i64 a0, .int .i64 a1, u290002] 26 (0, 0)) (bk_ BK289) hg (Kd.R_ne HO_290002.out BK289.out (by decide)))
        have HO293 := Aside0.mk (ho)
        replace HB := Aside0.mk (hb)
        clear HO_290002
        clear ho hb hg hat
        obtain ⟨Ao16, co16, eo16⟩ := Kd.R_slice HO293.out
        (first | subst eo16 | (injection eo16 with f1_ f2_ f3_; have f4_ := f1_.symm; have f5_ := f3_.symm; clear f1_ f2_ f3_; subst f4_; subst f5_))
        refine hK.out _ _ ⟨bc_ BK289 0, bc_ BK289 1, bc_ BK289 2⟩ (fun hHeld => ?_)
        clear hK K
        refine normA (N := some 28) ?_
        refine pureA (N := some 29) 8 HT_ ?_
        refine lastA (N := none) 9 HT_ (fun K hK => ?_)
        have hs17 : w15.cell? ⟨gb289, 2, none⟩ = some (u290002) := bc_ BK289 2
        have hfs17 := blk_frozen BK289.out 2
        have hns17_0 := NB287_289.out
        have hns17_1 := NB288_289.out
        have hms17_0 := NB289_287.out
        have hms17_1 := NB289_288.out
        refine skip_ (w1 := ?_) (by rfl) rfl ?_ ?_
        rotate_left
        ·go_simp
         rfl
        refine hK.out _ _ ?_
        clear hK K
        refine done_ (done_of HT_.out (by kernel_rfl)) ?_
        try go_wp2
        go_roundg k2
        case measure => have := HK1.out; have := HK2.out; omega
        case rel => exact ⟨(wrap64 (x18_2 + 1)), (y291), (.slice Ao16 y291.length co16), (by first | rfl | (simp; done) | (simp [*]; done)), H', ⟨by have := HK1.out; have := HK2.out; omega⟩, ⟨by exact rf_ (Kd.R_types HO293.out BK289.out (by decide)) (fun _ hk => trivial)⟩, ⟨bk_ BK287⟩, ⟨bk_ BK288⟩, ⟨bq_ BK289⟩, ⟨(bw_ w)⟩⟩
       ·rw [if_neg c12] at H
        exact absurd H (by simp)
      ·rw [if_neg c10] at H
       have c10b0 : decide (x18_2 < a0) = false := decide_eq_false c10
       clear c10
       have H' := Aside0.mk H
       clear H
       go_wp2
       go_roundg k2
       case measure => have := HK1.out; have := HK2.out; omega
       case rel => exact ⟨(wrap64 (x14_1 + 1)), (x290002_2), (u290002), (by first | rfl | (simp; done) | (simp [*]; done)), H', ⟨by have := HK1.out; have := HK2.out; omega⟩, ⟨ra_ HO_290002⟩, ⟨bk_ BK287⟩, ⟨bk_ BK288⟩, ⟨bk_ BK289⟩, ⟨(bw_ w)⟩⟩
   ·rw [if_neg c9] at H
    have c9b0 : decide (x14_1 < a1) = false := decide_eq_false c9
    clear c9
    simp only [Option.some.injEq, Prod.mk.injEq] at H
    obtain ⟨rfl, rfl, rfl⟩ := H
    have hnb18 := NB289_287.out
    have hnc18 := NB287_289.out
    have hnb19 := NB289_288.out
    have hnc19 := NB288_289.out
    obtain ⟨hcz20_0, hcz20_1, hcz20_2, hfz20_0, hfz20_1, hfz20_2⟩ := bc3_ (w := wr) BK289
    have hnb21 := NB288_287.out
    have hnc21 := NB287_288.out
    obtain ⟨hcz22_0, hcz22_1, hcz22_2, hfz22_0, hfz22_1, hfz22_2⟩ := bc3_ (w := wr) BK288
    obtain ⟨Ao23, co23, eo23⟩ := Kd.R_slice HO_290002.out
    subst eo23
    go_wp2
    refine bodyPost_ret (results_cell_row rfl _ _ gb288 26 #[.int .i64 a0, .int .i64 a1, .slice Ao23 x290002_1.length co23] (0, 0) _ rfl (bq_ BK288) Try.underlying26 rfl (by kernel_rfl)) rfl ?_
    exact ⟨_, by first | rfl | (simp [errW_none, errW_some] <;> rfl) | (simp [*, errW_none, errW_some] <;> rfl), by exact rf_ (Kd.R_types HO_290002.out BK288.out (by decide)) (fun _ hk => trivial), (bw_ w)⟩

/-! ### impl_Chart_turned: function 200 -/
def impl_Chart_turned.f (k : Nat) (a0_0 : Int) (a0_1 : Int) (l0_2 : List Int) : Option (Int × Int × List Int) := (impl_makeChart__Chart_turned_1.f k a0_1 a0_0 a0_0 a0_1 l0_2).bind fun bt296 => (some (bt296.1, bt296.2.1, bt296.2.2))
theorem impl_Chart_turned.mono : ∀ a0 a1 a2 k, LeO (impl_Chart_turned.f k a0 a1 a2) (impl_Chart_turned.f (k + 1) a0 a1 a2) := by
  intro a0 a1 a2 k
  unfold impl_Chart_turned.f
  repeat' first
      | (with_reducible exact impl_makeChart__Chart_turned_1.mono _ _ _ _ _ _)
      | (with_reducible exact LeO.refl _)
      | (with_reducible exact LeO.none _)
      | (with_reducible refine LeO.ite ?_ ?_)
      | (with_reducible refine LeO.bind ?_ (fun _ => ?_))
      | exact impl_makeChart__Chart_turned_1.mono _ _ _ _ _ _
      | exact LeO.none _
      | refine LeO.ite ?_ ?_
      | refine LeO.bind ?_ (fun _ => ?_)
set_option maxHeartbeats 8000000 in
set_option maxRecDepth 100000 in
theorem impl_Chart_turned.calls (k : Nat) (a0_0 : Int) (a0_1 : Int) (A0_2 : Option Addr) (c0_2 : Nat) (l0_2 : List Int) (r1 : Int) (r2 : Int) (r3 : List Int) (w : World) (hr0_2 : Kd.C (Kd.int .i64) w A0_2 l0_2.length l0_2) (hc0_2 : l0_2.length ≤ c0_2) (h : impl_Chart_turned.f k a0_0 a0_1 l0_2 = some (r1, r2, r3)) :
  Calls Try.prog 200 #[.agg #[.int .i64 a0_0, .int .i64 a0_1, .slice A0_2 l0_2.length c0_2]] w fun e w' => ∃ v2_ : Value, e = .returned (.agg #[.int .i64 r1, .int .i64 r2, v2_]) ∧ Kd.R (Kd.int .i64) 3 w' w.heap.size (fun _ => True) v2_ r3 ∧ Below w.heap.size w w' := by
 have hu26 := Try.underlying26
 have hmf_ : ∀ (f_ : Fn) (a_ b_ : Array Value) (W_ : World), (Instr.makeFunc f_ a_ b_).run Try.prog W_ = .ok (.func f_ a_ b_) W_ := fun _ _ _ _ => rfl
 have HR0_2 := Aside0.mk hr0_2
 have HC0_2 := Aside0.mk hc0_2
 clear hr0_2 hc0_2
 have HB := Aside0.mk (Below.refl w.heap.size w)
 have H : ((impl_makeChart__Chart_turned_1.f k a0_1 a0_0 a0_0 a0_1 l0_2).bind fun bt296 => (some (bt296.1, bt296.2.1, bt296.2.2))) = some (r1, r2, r3) := h
 clear h
 replace H := Option.bind_eq_some_iff.mp H
 obtain ⟨⟨t296, t297, t298⟩, A20, H⟩ := H
 replace H : (some (t296, t297, t298)) = some (r1, r2, r3) := H
 have A2 := Aside0.mk A20
 clear A20
 simp only [Option.some.injEq, Prod.mk.injEq] at H
 obtain ⟨rfl, rfl, rfl⟩ := H
 go_enter Try.func200, Try.ntmps200
 go_wp2_with (first | ((with_reducible refine gate_dst (N := 1) rfl ?_); refine box_ (N := 1) (cs := #[.int .i64 a0_0, .int .i64 a0_1, .slice A0_2 l0_2.length c0_2]) (t := 26) ?_; intro gb294 hg w3 hbox hb; have BK294 := Aside0.mk (hbox); have GW294 := gz_ w hg; have GE294 := gz_ w hg; replace HB := Aside0.mk (below_step (bw_ w) hb); clear hb hbox hg) | ((with_reducible refine gate_dst (N := 2) rfl ?_); refine box_ (N := 2) (cs := #[.int .i64 0, .int .i64 0, .slice none 0 0]) (t := 26) ?_; intro gb295 hg w4 hbox hb; have n0_ := bb_ BK294 hb; have n1_ := Aside0.mk (below_step (bw_ w) hb); have n2_ := Aside0.mk (hbox); have n3_ := gz_ w hg; have n4_ := gz_ w hg; have n5_ := ne_ hg BK294; have n6_ := en_ hg BK294; clear BK294; clear HB; have BK294 := n0_; have HB := n1_; have BK295 := n2_; have GW295 := n3_; have GE295 := n4_; have NB294_295 := n5_; have NB295_294 := n6_; clear n0_ n1_ n2_ n3_ n4_ n5_ n6_; clear hb hbox hg; have hnb5 := NB294_295.out; have hnc5 := NB295_294.out; obtain ⟨hcz6_0, hcz6_1, hcz6_2, hfz6_0, hfz6_1, hfz6_2⟩ := bc3_ (w := w4) BK294) | ((with_reducible refine gate_callee (f := 178) rfl ?_); refine goesB (some 8) Try.func178 #[.int .i64 a0_1, .int .i64 a0_0, (.func (.func 244) #[] #[.pointer (some ⟨gb294, 0, none⟩)])] ?_; (with_reducible refine (impl_makeChart__Chart_turned_1.calls k a0_1 a0_0 gb294 a0_0 a0_1 A0_2 c0_2 l0_2 t296 t297 t298 _ ?side1 ?side2 ?side3 A2.out).mono ?_); (case side1 => (with_reducible repeat (first | refine blk_drewN ?_ _ | refine blk_drew ?_ | refine blk_alloc ?_ _)); exact BK294.out); (case side2 => exact cb_ HR0_2 HB); (case side3 => exact HC0_2.out); rintro e w7 ⟨v299, rfl, ho0, hb⟩; refine ⟨_, rfl, ?_⟩; have HO300 := Aside0.mk (Kd.R_lower ho0 (below_size (bw_ w))); replace BK294 := bb_ BK294 hb; replace BK295 := bb_ BK295 hb; replace HB := Aside0.mk (below_step (bw_ w) hb); (try clear hb); (try clear hb2); (try clear hk); (try clear hi); (try clear ho0); obtain ⟨hcz8_0, hcz8_1, hcz8_2, hfz8_0, hfz8_1, hfz8_2⟩ := bc3_ (w := w7) BK295; obtain ⟨Ao9, co9, eo9⟩ := Kd.R_slice HO300.out; subst eo9))
 refine bodyPost_ret (results_cell_row rfl _ _ gb295 26 #[.int .i64 t296, .int .i64 t297, .slice Ao9 t298.length co9] (0, 0) _ rfl (bq_ BK295) Try.underlying26 rfl (by kernel_rfl)) rfl ?_
 exact ⟨_, by first | rfl | (simp [errW_none, errW_some] <;> rfl) | (simp [*, errW_none, errW_some] <;> rfl), by exact rf_ (Kd.R_types HO300.out BK295.out (by decide)) (fun _ hk => trivial), (bw_ w)⟩

/-! ### impl_Chart_mirrored_1: function 248 -/
def impl_Chart_mirrored_1.f (a0 : Int) (a1 : Int) (a2_0 : Int) (a2_1 : Int) (l2_2 : List Int) : Option (Int) := (impl_Chart_at.f a2_0 a2_1 l2_2 a0 (wrap64 ((wrap64 (a2_0 - 1)) - a1))).bind fun t307 => (some t307)
set_option maxHeartbeats 8000000 in
set_option maxRecDepth 100000 in
theorem impl_Chart_mirrored_1.calls (a0 : Int) (a1 : Int) (gb306 : Nat) (a2_0 : Int) (a2_1 : Int) (A2_2 : Option Addr) (c2_2 : Nat) (l2_2 : List Int) (r : Int) (w : World) (hb306 : w.heap[gb306]? = some (.cells #[.int .i64 a2_0, .int .i64 a2_1, .slice A2_2 l2_2.length c2_2] 26 (0, 0))) (hr2_2 : Kd.C (Kd.int .i64) w A2_2 l2_2.length l2_2) (hc2_2 : l2_2.length ≤ c2_2) (h : impl_Chart_mirrored_1.f a0 a1 a2_0 a2_1 l2_2 = some r) :
  Calls Try.prog 248 #[.int .i64 a0, .int .i64 a1, .pointer (some ⟨gb306, 0, none⟩)] w fun e w' => e = .returned (.int .i64 r) ∧ Below w.heap.size w w' := by
 have hu26 := Try.underlying26
 have HR2_2 := Aside0.mk hr2_2
 have HC2_2 := Aside0.mk hc2_2
 clear hr2_2 hc2_2
 have BK306 := Aside0.mk hb306
 clear hb306
 have HB := Aside0.mk (Below.refl w.heap.size w)
 have H : ((impl_Chart_at.f a2_0 a2_1 l2_2 a0 (wrap64 ((wrap64 (a2_0 - 1)) - a1))).bind fun t307 => (some t307)) = some r := h
 clear h
 replace H := Option.bind_eq_some_iff.mp H
 obtain ⟨t307, A40, H⟩ := H
 replace H : (some t307) = some r := H
 have A4 := Aside0.mk A40
 clear A40
 obtain rfl := Option.some.inj H
 obtain ⟨hcz5_0, hcz5_1, hcz5_2, hfz5_0, hfz5_1, hfz5_2⟩ := bc3_ (w := w) BK306
 go_enter Try.func248, Try.ntmps248
 go_wp2_with (first | ((with_reducible refine gate_callee (f := 171) rfl ?_); refine goesB (some 13) Try.func171 #[.agg #[.int .i64 a2_0, .int .i64 a2_1, .slice A2_2 l2_2.length c2_2], .int .i64 a0, .int .i64 (wrap64 ((wrap64 (a2_0 - 1)) - a1))] ?_; (with_reducible refine (impl_Chart_at.calls a2_0 a2_1 _ _ l2_2 a0 (wrap64 ((wrap64 (a2_0 - 1)) - a1)) t307 _ ?side1 ?side2 A4.out).mono ?_); (case side1 => repeat (first | exact HR2_2.out | (with_reducible refine Kd.C_alloc ?_ _) | (with_reducible refine Kd.C_drewN ?_ _) | (with_reducible refine Kd.C_drew ?_))); (case side2 => exact HC2_2.out); rintro e w6 ⟨rfl, hb⟩; refine ⟨_, rfl, ?_⟩; replace BK306 := bb_ BK306 hb; replace HB := Aside0.mk (below_step (bw_ w) hb); (try clear hb); (try clear hb2); (try clear hk); (try clear hi)))
 go_ret
 exact ⟨by first | rfl | (simp [errW_none, errW_some] <;> rfl) | (simp [*, errW_none, errW_some] <;> rfl), (bw_ w)⟩

/-! ### impl_makeChart__Chart_mirrored_1: function 178 -/
mutual
def impl_makeChart__Chart_mirrored_1.l0 : Nat → Int → Int → Int → Int → Int → List Int → Int → Int → List Int → Option (Int × Int × List Int)
  | 0, _, _, _, _, _, _, _, _, _ => none
  | k + 1, x0, x13, x14, x309000, x309001, x309002, x311000, x311001, x311002 => if x14 < x13 then (impl_makeChart__Chart_mirrored_1.l1 k x0 x14 x13 x14 x0 0 x309000 x309001 x309002 x311000 x311001 x311002) else (some (x311000, x311001, x311002))
def impl_makeChart__Chart_mirrored_1.l1 : Nat → Int → Int → Int → Int → Int → Int → Int → Int → List Int → Int → Int → List Int → Option (Int × Int × List Int)
  | 0, _, _, _, _, _, _, _, _, _, _, _, _ => none
  | k + 1, x0, x8, x13, x14, x17, x18, x309000, x309001, x309002, x311000, x311001, x311002 => if x18 < x17 then ((impl_Chart_mirrored_1.f x8 x18 x309000 x309001 x309002).bind fun t311 => (if x311002.length < 17592186044416 then (impl_makeChart__Chart_mirrored_1.l1 k x0 x8 x13 x14 x17 (wrap64 (x18 + 1)) x309000 x309001 x309002 x311000 x311001 (x311002 ++ [t311])) else (none))) else (impl_makeChart__Chart_mirrored_1.l0 k x0 x13 (wrap64 (x14 + 1)) x309000 x309001 x309002 x311000 x311001 x311002)
end
def impl_makeChart__Chart_mirrored_1.f (k : Nat) (a0 : Int) (a1 : Int) (a2_0 : Int) (a2_1 : Int) (l2_2 : List Int) : Option (Int × Int × List Int) := impl_makeChart__Chart_mirrored_1.l0 k a0 a1 0 a2_0 a2_1 l2_2 a0 a1 ([] : List Int)
theorem impl_makeChart__Chart_mirrored_1.mono_l : ∀ k, (∀ y0 y1 y2 y3 y4 y5 y6 y7 y8, LeO (impl_makeChart__Chart_mirrored_1.l0 k y0 y1 y2 y3 y4 y5 y6 y7 y8) (impl_makeChart__Chart_mirrored_1.l0 (k + 1) y0 y1 y2 y3 y4 y5 y6 y7 y8)) ∧ (∀ y0 y1 y2 y3 y4 y5 y6 y7 y8 y9 y10 y11, LeO (impl_makeChart__Chart_mirrored_1.l1 k y0 y1 y2 y3 y4 y5 y6 y7 y8 y9 y10 y11) (impl_makeChart__Chart_mirrored_1.l1 (k + 1) y0 y1 y2 y3 y4 y5 y6 y7 y8 y9 y10 y11))
  | 0 => ⟨fun _ _ _ _ _ _ _ _ _ r h => by simp [impl_makeChart__Chart_mirrored_1.l0] at h, fun _ _ _ _ _ _ _ _ _ _ _ _ r h => by simp [impl_makeChart__Chart_mirrored_1.l1] at h⟩
  | k + 1 => by
    obtain ⟨ih0, ih1⟩ := impl_makeChart__Chart_mirrored_1.mono_l k
    refine ⟨?_, ?_⟩
    · intro y0 y1 y2 y3 y4 y5 y6 y7 y8
      unfold impl_makeChart__Chart_mirrored_1.l0
      repeat' first
      | (with_reducible exact ih0 _ _ _ _ _ _ _ _ _)
      | (with_reducible exact ih1 _ _ _ _ _ _ _ _ _ _ _ _)
      | (with_reducible exact LeO.refl _)
      | (with_reducible exact LeO.none _)
      | (with_reducible refine LeO.ite ?_ ?_)
      | (with_reducible refine LeO.bind ?_ (fun _ => ?_))
      | exact ih0 _ _ _ _ _ _ _ _ _
      | exact ih1 _ _ _ _ _ _ _ _ _ _ _ _
      | exact LeO.none _
      | refine LeO.ite ?_ ?_
      | refine LeO.bind ?_ (fun _ => ?_)
    · intro y0 y1 y2 y3 y4 y5 y6 y7 y8 y9 y10 y11
      unfold impl_makeChart__Chart_mirrored_1.l1
      repeat' first
      | (with_reducible exact ih0 _ _ _ _ _ _ _ _ _)
      | (with_reducible exact ih1 _ _ _ _ _ _ _ _ _ _ _ _)
      | (with_reducible exact LeO.refl _)
      | (with_reducible exact LeO.none _)
      | (with_reducible refine LeO.ite ?_ ?_)
      | (with_reducible refine LeO.bind ?_ (fun _ => ?_))
      | exact ih0 _ _ _ _ _ _ _ _ _
      | exact ih1 _ _ _ _ _ _ _ _ _ _ _ _
      | exact LeO.none _
      | refine LeO.ite ?_ ?_
      | refine LeO.bind ?_ (fun _ => ?_)
theorem impl_makeChart__Chart_mirrored_1.mono : ∀ a0 a1 a2 a3 a4 k, LeO (impl_makeChart__Chart_mirrored_1.f k a0 a1 a2 a3 a4) (impl_makeChart__Chart_mirrored_1.f (k + 1) a0 a1 a2 a3 a4) := by
  intro a0 a1 a2 a3 a4 k
  obtain ⟨ih0, ih1⟩ := impl_makeChart__Chart_mirrored_1.mono_l k
  unfold impl_makeChart__Chart_mirrored_1.f
  repeat' first
      | (with_reducible exact ih0 _ _ _ _ _ _ _ _ _)
      | (with_reducible exact ih1 _ _ _ _ _ _ _ _ _ _ _ _)
      | (with_reducible exact LeO.refl _)
      | (with_reducible exact LeO.none _)
      | (with_reducible refine LeO.ite ?_ ?_)
      | (with_reducible refine LeO.bind ?_ (fun _ => ?_))
      | exact ih0 _ _ _ _ _ _ _ _ _
      | exact ih1 _ _ _ _ _ _ _ _ _ _ _ _
      | exact LeO.none _
      | refine LeO.ite ?_ ?_
      | refine LeO.bind ?_ (fun _ => ?_)
def impl_makeChart__Chart_mirrored_1.T8 : Bool × List (List Nat × List Nat) := (true, [([], []), ([0], [0]), ([], []), ([], []), ([], []), ([2, 3, 4], [2, 3, 4]), ([5], [5]), ([1, 6, 5], [1, 6]), ([0, 1, 2, 3, 4, 5, 6, 7], []), ([8, 7, 7, 0, 1, 2, 3, 4, 5, 6, 7], [7, 8])])
def impl_makeChart__Chart_mirrored_1.B8 : List Nat := [0, 1, 0, 0, 0, 28, 60, 127, 255, 511]
theorem impl_makeChart__Chart_mirrored_1.tab8 : rtab .any (opsOf Try.f178 8) = impl_makeChart__Chart_mirrored_1.T8 := by kernel_rfl
theorem impl_makeChart__Chart_mirrored_1.bits8 : waitsOk impl_makeChart__Chart_mirrored_1.T8.2 impl_makeChart__Chart_mirrored_1.B8 = true := by kernel_rfl
set_option maxHeartbeats 8000000 in
set_option maxRecDepth 100000 in
theorem impl_makeChart__Chart_mirrored_1.calls (k : Nat) (a0 : Int) (a1 : Int) (gb308 : Nat) (a2_0 : Int) (a2_1 : Int) (A2_2 : Option Addr) (c2_2 : Nat) (l2_2 : List Int) (r1 : Int) (r2 : Int) (r3 : List Int) (w : World) (hb308 : w.heap[gb308]? = some (.cells #[.int .i64 a2_0, .int .i64 a2_1, .slice A2_2 l2_2.length c2_2] 26 (0, 0))) (hr2_2 : Kd.C (Kd.int .i64) w A2_2 l2_2.length l2_2) (hc2_2 : l2_2.length ≤ c2_2) (h : impl_makeChart__Chart_mirrored_1.f k a0 a1 a2_0 a2_1 l2_2 = some (r1, r2, r3)) :
  Calls Try.prog 178 #[.int .i64 a0, .int .i64 a1, (.func (.func 248) #[] #[.pointer (some ⟨gb308, 0, none⟩)])] w fun e w' => ∃ v2_ : Value, e = .returned (.agg #[.int .i64 r1, .int .i64 r2, v2_]) ∧ Kd.R (Kd.int .i64) 3 w' w.heap.size (fun _ => True) v2_ r3 ∧ Below w.heap.size w w' := by
 have hu26 := Try.underlying26
 have HR2_2 := Aside0.mk hr2_2
 have HC2_2 := Aside0.mk hc2_2
 clear hr2_2 hc2_2
 have BK308 := Aside0.mk hb308
 clear hb308
 have HB := Aside0.mk (Below.refl w.heap.size w)
 have H : (impl_makeChart__Chart_mirrored_1.l0 k a0 a1 0 a2_0 a2_1 l2_2 a0 a1 ([] : List Int)) = some (r1, r2, r3) := h
 clear h
 have H' := Aside0.mk H
 clear H
 go_enter Try.func178, Try.ntmps178
 go_wp2_with (first | ((with_reducible refine gate_dst (N := 6) rfl ?_); refine box_ (N := 6) (cs := #[.int .i64 0, .int .i64 0, .slice none 0 0]) (t := 26) ?_; intro gb309 hg w4 hbox hb; have n0_ := bb_ BK308 hb; have n1_ := Aside0.mk (below_step (bw_ w) hb); have n2_ := Aside0.mk (hbox); have n3_ := gz_ w hg; have n4_ := gz_ w hg; have n5_ := ne_ hg BK308; have n6_ := en_ hg BK308; clear BK308; clear HB; have BK308 := n0_; have HB := n1_; have BK309 := n2_; have GW309 := n3_; have GE309 := n4_; have NB308_309 := n5_; have NB309_308 := n6_; clear n0_ n1_ n2_ n3_ n4_ n5_ n6_; clear hb hbox hg) | ((with_reducible refine gate_dst (N := 7) rfl ?_); refine box_ (N := 7) (cs := #[.int .i64 0, .int .i64 0, .slice none 0 0]) (t := 26) ?_; intro gb310 hg w5 hbox hb; have n0_ := bb_ BK308 hb; have n1_ := bb_ BK309 hb; have n2_ := Aside0.mk (below_step (bw_ w) hb); have n3_ := Aside0.mk (hbox); have n4_ := gz_ w hg; have n5_ := gz_ w hg; have n6_ := ne_ hg BK308; have n7_ := en_ hg BK308; have n8_ := ne_ hg BK309; have n9_ := en_ hg BK309; clear BK308; clear BK309; clear HB; have BK308 := n0_; have BK309 := n1_; have HB := n2_; have BK310 := n3_; have GW310 := n4_; have GE310 := n5_; have NB308_310 := n6_; have NB310_308 := n7_; have NB309_310 := n8_; have NB310_309 := n9_; clear n0_ n1_ n2_ n3_ n4_ n5_ n6_ n7_ n8_ n9_; clear hb hbox hg; have hnb6 := NB310_308.out; have hnc6 := NB308_310.out; have hnb7 := NB310_309.out; have hnc7 := NB309_310.out; obtain ⟨hcz8_0, hcz8_1, hcz8_2, hfz8_0, hfz8_1, hfz8_2⟩ := bc3_ (w := w5) BK310))
 go_loopg [14] k (fun kq v14 w' => ∃ (x14_1 : Int) (x311002_1 : List Int) (u311002 : Value), v14 = .int .i64 x14_1 ∧ Aside0 (impl_makeChart__Chart_mirrored_1.l0 kq a0 a1 x14_1 a2_0 a2_1 l2_2 a0 a1 x311002_1 = some (r1, r2, r3)) ∧ Aside0 (kq ≤ k) ∧ Aside0 (Kd.R (Kd.int .i64) 3 w' w.heap.size (fun _ => True) u311002 x311002_1) ∧ Aside0 (w'.heap[gb308]? = some (.cells #[.int .i64 a2_0, .int .i64 a2_1, (.slice A2_2 l2_2.length c2_2)] 26 (0, 0))) ∧ Aside0 (w'.heap[gb309]? = some (.cells #[.int .i64 0, .int .i64 0, (.slice none 0 0)] 26 (0, 0))) ∧ Aside0 (w'.heap[gb310]? = some (.cells #[.int .i64 a0, .int .i64 a1, u311002] 26 (0, 0))) ∧ Aside0 (Below w.heap.size w w'))
 case atStart => exact ⟨(0), (([] : List Int)), (.slice none 0 0), (by first | rfl | (simp; done) | (simp [*]; done)), H', ⟨Nat.le_refl _⟩, ⟨by first | exact Kd.R_nil _ _ _ _ _ | exact Kd.N_nil _ _ _ _ _ | exact Kd.V_nil _ _ _ _ _ | exact Kd.Q_nil _ _ _ _ _ | exact Kd.S_nil _ _ _ _ _⟩, ⟨bk_ BK308⟩, ⟨bk_ BK309⟩, ⟨bq_ BK310⟩, ⟨(bw_ w)⟩⟩
 case round =>
  clear H'
  try clear c1
  try clear c2
  try clear p2
  try clear c6
  try clear c7
  try clear hcz8_0
  try clear hcz8_1
  try clear hcz8_2
  try clear hfz8_0
  try clear hfz8_1
  try clear hfz8_2
  obtain ⟨x14_1, x311002_1, u311002, rfl, HA, HK1, HO_311002, BK308, BK309, BK310, HB⟩ := hrel
  cases gk with
  | zero => exact absurd HA.out (by simp [impl_makeChart__Chart_mirrored_1.l0])
  | succ k1 =>
   have H := HA.out
   clear HA
   simp only [impl_makeChart__Chart_mirrored_1.l0] at H
   by_cases c9 : x14_1 < a1
   ·rw [if_pos c9] at H
    have c9b0 : decide (x14_1 < a1) = true := decide_eq_true c9
    clear c9
    have H' := Aside0.mk H
    clear H
    go_wp2
    go_loopg [18] k1 (fun kq v18 w' => ∃ (x18_2 : Int) (x311002_2 : List Int) (u311002 : Value), v18 = .int .i64 x18_2 ∧ Aside0 (impl_makeChart__Chart_mirrored_1.l1 kq a0 x14_1 a1 x14_1 a0 x18_2 a2_0 a2_1 l2_2 a0 a1 x311002_2 = some (r1, r2, r3)) ∧ Aside0 (kq ≤ k1) ∧ Aside0 (Kd.R (Kd.int .i64) 3 w' w.heap.size (fun _ => True) u311002 x311002_2) ∧ Aside0 (w'.heap[gb308]? = some (.cells #[.int .i64 a2_0, .int .i64 a2_1, (.slice A2_2 l2_2.length c2_2)] 26 (0, 0))) ∧ Aside0 (w'.heap[gb309]? = some (.cells #[.int .i64 0, .int .i64 0, (.slice none 0 0)] 26 (0, 0))) ∧ Aside0 (w'.heap[gb310]? = some (.cells #[.int .i64 a0, .int .i64 a1, u311002] 26 (0, 0))) ∧ Aside0 (Below w.heap.size w w'))
    case atStart => exact ⟨(0), (x311002_1), (u311002), (by first | rfl | (simp; done) | (simp [*]; done)), H', ⟨Nat.le_refl _⟩, ⟨ra_ HO_311002⟩, ⟨bk_ BK308⟩, ⟨bk_ BK309⟩, ⟨bk_ BK310⟩, ⟨(bw_ w)⟩⟩
    case round =>
     clear H'
     try clear c1
     try clear c2
     try clear p2
     try clear c6
     try clear c7
     try clear c9
     try clear c9b0
     try clear hcz8_0
     try clear hcz8_1
     try clear hcz8_2
     try clear hfz8_0
     try clear hfz8_1
     try clear hfz8_2
     try clear p2
     obtain ⟨x18_2, x311002_2, u311002, rfl, HA, HK2, HO_311002, BK308, BK309, BK310, HB⟩ := hrel
     cases gk with
     | zero => exact absurd HA.out (by simp [impl_makeChart__Chart_mirrored_1.l1])
     | succ k2 =>
      have H := HA.out
      clear HA
      simp only [impl_makeChart__Chart_mirrored_1.l1] at H
      by_cases c10 : x18_2 < a0
      ·rw [if_pos c10] at H
       have c10b0 : decide (x18_2 < a0) = true := decide_eq_true c10
       clear c10
       replace H := Option.bind_eq_some_iff.mp H
       obtain ⟨t311, A110, H⟩ := H
       replace H : (if x311002_2.length < 17592186044416 then (impl_makeChart__Chart_mirrored_1.l1 k2 a0 x14_1 a1 x14_1 a0 (wrap64 (x18_2 + 1)) a2_0 a2_1 l2_2 a0 a1 (x311002_2 ++ [t311])) else (none)) = some (r1, r2, r3) := H
       have A11 := Aside0.mk A110
       clear A110
       by_cases c12 : x311002_2.length < 17592186044416
       ·rw [if_pos c12] at H
        have LMc12 := Aside0.mk c12
        clear c12
        obtain ⟨y312, hy312⟩ : ∃ y_ : List Int, y_ = (x311002_2 ++ [t311]) := ⟨_, rfl⟩
        replace H : (impl_makeChart__Chart_mirrored_1.l1 k2 a0 x14_1 a1 x14_1 a0 (wrap64 (x18_2 + 1)) a2_0 a2_1 l2_2 a0 a1 y312) = some (r1, r2, r3) := by first | (rw [hy312]; with_reducible exact H) | (have H2_ := (Option.bind_some _ _).symm.trans H; rw [hy312]; with_reducible exact H2_) | (have H2_ := (Option.bind_some _ _).symm.trans H; with_reducible exact H2_) | with_reducible exact H | (rw [hy312]; exact H) | exact H
        have Ny312 := Aside0.mk hy312
        clear hy312
        have H' := Aside0.mk H
        clear H
        try go_wp2
        replace HO_311002 := Aside0.mk (Kd.R_drew HO_311002.out)
        replace BK308 := Aside0.mk (blk_drew BK308.out)
        replace BK309 := Aside0.mk (blk_drew BK309.out)
        replace BK310 := Aside0.mk (blk_drew BK310.out)
        replace HB := Aside0.mk (below_drew1 HB.out)
        refine start_ (n := 10) (S := fun w' => w'.cell? ⟨gb310, 0, none⟩ = some (.int .i64 a0) ∧ w'.cell? ⟨gb310, 1, none⟩ = some (.int .i64 a1) ∧ w'.cell? ⟨gb310, 2, none⟩ = some (u311002)) (ds := [9]) #[false, false, false, false, false, false, false, false, false, false] (by kernel_rfl) rfl rfl ⟨bc_ BK310 0, bc_ BK310 1, bc_ BK310 2⟩ (fun hHeld => ?_); refine with_tabW impl_makeChart__Chart_mirrored_1.tab8 impl_makeChart__Chart_mirrored_1.bits8 (fun HT_ HW_ => ?_)
        generalize wr.drew = w13 at HO_311002 BK308 BK309 BK310 HB hHeld ⊢
        refine pureA (N := some 21) 0 HT_ ?_
        refine pureA (N := some 23) 2 HT_ ?_
        refine pureA (N := some 24) 3 HT_ ?_
        refine pureA (N := some 25) 4 HT_ ?_
        refine takeA (N := some 22) 1 HT_ HW_ hHeld ?_
        refine oneA (N := some 26) 5 HT_ (fun K hK => ?_)
        refine goesVr_ Try.func248 (by kernel_rfl) rfl #[.int .i64 x14_1, .int .i64 x18_2, .pointer (some ⟨gb308, 0, none⟩)] (by rfl) rfl rfl (by first | rfl | (simp [Act.eval]; done)) (by first | rfl | (simp [Act.eval]; done)) ?_
        with_reducible refine (impl_Chart_mirrored_1.calls x14_1 x18_2 gb308 a2_0 a2_1 A2_2 c2_2 l2_2 t311 _ ?side1 ?side2 ?side3 A11.out).mono ?_
        (case side1 => (with_reducible repeat (first | refine blk_drewN ?_ _ | refine blk_drew ?_ | refine blk_alloc ?_ _)); exact BK308.out)
        (case side2 => exact cb_ HR2_2 HB)
        (case side3 => exact HC2_2.out)
        rintro e w14 ⟨rfl, hb⟩
        refine ⟨_, rfl, ?_⟩
        replace HO_311002 := Aside0.mk (Kd.R_below (ra_ HO_311002) hb)
        replace BK308 := bb_ BK308 hb
        replace BK309 := bb_ BK309 hb
        replace BK310 := bb_ BK310 hb
        replace HB := Aside0.mk (below_step (bw_ w) hb)
        (try clear hb)
        (try clear hb2)
        (try clear hk)
        (try clear hi)
        refine hK.out _ _ ⟨bc_ BK310 0, bc_ BK310 1, bc_ BK310 2⟩ (fun hHeld => ?_)
        clear hK K
        refine normA (N := some 26) ?_
        refine oneA (N := some 27) 6 HT_ (fun K hK => ?_)
        refine value_ (w1 := ?_) (v := ?_) (by rfl) rfl ?_ ?_
        rotate_left 2
        ·go_simp
         constructor
         ·rfl
         ·rfl
        refine hK.out _ _ ⟨(blk_cell (blk_alloc BK310.out _) 0).trans rfl, (blk_cell (blk_alloc BK310.out _) 1).trans rfl, (blk_cell (blk_alloc BK310.out _) 2).trans rfl⟩ (fun hHeld => ?_)
        clear hK K
        refine normA (N := some 27) ?_
        refine oneA (N := some 28) 7 HT_ (fun K hK => ?_)
        refine Kd.R_append_step (Kd.int .i64) (w0 := w) w.heap.size (by rfl) (.tmp 22) (.tmp 27) 22 3 (.int .i64 0) 8 rfl Try.underlying22 info3 rfl (by decide) (by omega) u311002 x311002_2 t311 [.int .i64 t311] (fun _ => True) (fun _ => False) rfl rfl ?aP (fun _ hk => hk.elim) ?aF ?aO ?aB ?aS ?aL ?_
        (case aP => exact rfl)
        (case aB => exact (bw_ w))
        (case aF => exact (fun _ _ => trivial))
        (case aO => exact (ra_ HO_311002))
        (case aS => exact (below_size (bw_ w)))
        (case aL => have := LMc12.out; omega)
        intro v313 w15 ho hb hg hat
        rw [← Ny312.out] at ho
        replace BK308 := Aside0.mk (blk_grown (g := gb308) (o := .cells #[.int .i64 a2_0, .int .i64 a2_1, .slice A2_2 l2_2.length c2_2] 26 (0, 0)) (bk_ BK308) hg (Kd.R_ne HO_311002.out BK308.out (by decide)))
        replace BK309 := Aside0.mk (blk_grown (g := gb309) (o := .cells #[.int .i64 0, .int .i64 0, .slice none 0 0] 26 (0, 0)) (bk_ BK309) hg (Kd.R_ne HO_311002.out BK309.out (by decide)))
        replace BK310 := Aside0.mk (blk_grown (g := gb310) (o := .cells #[.int .i64 a0, .int .i64 a1, u311002] 26 (0, 0)) (bk_ BK310) hg (Kd.R_ne HO_311002.out BK310.out (by decide)))
        have HO314 := Aside0.mk (ho)
        replace HB := Aside0.mk (hb)
        clear HO_311002
        clear ho hb hg hat
        obtain ⟨Ao16, co16, eo16⟩ := Kd.R_slice HO314.out
        (first | subst eo16 | (injection eo16 with f1_ f2_ f3_; have f4_ := f1_.symm; have f5_ := f3_.symm; clear f1_ f2_ f3_; subst f4_; subst f5_))
        refine hK.out _ _ ⟨bc_ BK310 0, bc_ BK310 1, bc_ BK310 2⟩ (fun hHeld => ?_)
        clear hK K
        refine normA (N := some 28) ?_
        refine pureA (N := some 29) 8 HT_ ?_
        refine lastA (N := none) 9 HT_ (fun K hK => ?_)
        have hs17 : w15.cell? ⟨gb310, 2, none⟩ = some (u311002) := bc_ BK310 2
        have hfs17 := blk_frozen BK310.out 2
        have hns17_0 := NB308_310.out
        have hns17_1 := NB309_310.out
        have hms17_0 := NB310_308.out
        have hms17_1 := NB310_309.out
        refine skip_ (w1 := ?_) (by rfl) rfl ?_ ?_
        rotate_left
        ·go_simp
         rfl
        refine hK.out _ _ ?_
        clear hK K
        refine done_ (done_of HT_.out (by kernel_rfl)) ?_
        try go_wp2
        go_roundg k2
        case measure => have := HK1.out; have := HK2.out; omega
        case rel => exact ⟨(wrap64 (x18_2 + 1)), (y312), (.slice Ao16 y312.length co16), (by first | rfl | (simp; done) | (simp [*]; done)), H', ⟨by have := HK1.out; have := HK2.out; omega⟩, ⟨by exact rf_ (Kd.R_types HO314.out BK310.out (by decide)) (fun _ hk => trivial)⟩, ⟨bk_ BK308⟩, ⟨bk_ BK309⟩, ⟨bq_ BK310⟩, ⟨(bw_ w)⟩⟩
       ·rw [if_neg c12] at H
        exact absurd H (by simp)
      ·rw [if_neg c10] at H
       have c10b0 : decide (x18_2 < a0) = false := decide_eq_false c10
       clear c10
       have H' := Aside0.mk H
       clear H
       go_wp2
       go_roundg k2
       case measure => have := HK1.out; have := HK2.out; omega
       case rel => exact ⟨(wrap64 (x14_1 + 1)), (x311002_2), (u311002), (by first | rfl | (simp; done) | (simp [*]; done)), H', ⟨by have := HK1.out; have := HK2.out; omega⟩, ⟨ra_ HO_311002⟩, ⟨bk_ BK308⟩, ⟨bk_ BK309⟩, ⟨bk_ BK310⟩, ⟨(bw_ w)⟩⟩
   ·rw [if_neg c9] at H
    have c9b0 : decide (x14_1 < a1) = false := decide_eq_false c9
    clear c9
    simp only [Option.some.injEq, Prod.mk.injEq] at H
    obtain ⟨rfl, rfl, rfl⟩ := H
    have hnb18 := NB310_308.out
    have hnc18 := NB308_310.out
    have hnb19 := NB310_309.out
    have hnc19 := NB309_310.out
    obtain ⟨hcz20_0, hcz20_1, hcz20_2, hfz20_0, hfz20_1, hfz20_2⟩ := bc3_ (w := wr) BK310
    have hnb21 := NB309_308.out
    have hnc21 := NB308_309.out
    obtain ⟨hcz22_0, hcz22_1, hcz22_2, hfz22_0, hfz22_1, hfz22_2⟩ := bc3_ (w := wr) BK309
    obtain ⟨Ao23, co23, eo23⟩ := Kd.R_slice HO_311002.out
    subst eo23
    go_wp2
    refine bodyPost_ret (results_cell_row rfl _ _ gb309 26 #[.int .i64 a0, .int .i64 a1, .slice Ao23 x311002_1.length co23] (0, 0) _ rfl (bq_ BK309) Try.underlying26 rfl (by kernel_rfl)) rfl ?_
    exact ⟨_, by first | rfl | (simp [errW_none, errW_some] <;> rfl) | (simp [*, errW_none, errW_some] <;> rfl), by exact rf_ (Kd.R_types HO_311002.out BK309.out (by decide)) (fun _ hk => trivial), (bw_ w)⟩

/-! ### impl_Chart_mirrored: function 205 -/
def impl_Chart_mirrored.f (k : Nat) (a0_0 : Int) (a0_1 : Int) (l0_2 : List Int) : Option (Int × Int × List Int) := (impl_makeChart__Chart_mirrored_1.f k a0_0 a0_1 a0_0 a0_1 l0_2).bind fun bt317 => (some (bt317.1, bt317.2.1, bt317.2.2))
theorem impl_Chart_mirrored.mono : ∀ a0 a1 a2 k, LeO (impl_Chart_mirrored.f k a0 a1 a2) (impl_Chart_mirrored.f (k + 1) a0 a1 a2) := by
  intro a0 a1 a2 k
  unfold impl_Chart_mirrored.f
  repeat' first
      | (with_reducible exact impl_makeChart__Chart_mirrored_1.mono _ _ _ _ _ _)
      | (with_reducible exact LeO.refl _)
      | (with_reducible exact LeO.none _)
      | (with_reducible refine LeO.ite ?_ ?_)
      | (with_reducible refine LeO.bind ?_ (fun _ => ?_))
      | exact impl_makeChart__Chart_mirrored_1.mono _ _ _ _ _ _
      | exact LeO.none _
      | refine LeO.ite ?_ ?_
      | refine LeO.bind ?_ (fun _ => ?_)
set_option maxHeartbeats 8000000 in
set_option maxRecDepth 100000 in
theorem impl_Chart_mirrored.calls (k : Nat) (a0_0 : Int) (a0_1 : Int) (A0_2 : Option Addr) (c0_2 : Nat) (l0_2 : List Int) (r1 : Int) (r2 : Int) (r3 : List Int) (w : World) (hr0_2 : Kd.C (Kd.int .i64) w A0_2 l0_2.length l0_2) (hc0_2 : l0_2.length ≤ c0_2) (h : impl_Chart_mirrored.f k a0_0 a0_1 l0_2 = some (r1, r2, r3)) :
  Calls Try.prog 205 #[.agg #[.int .i64 a0_0, .int .i64 a0_1, .slice A0_2 l0_2.length c0_2]] w fun e w' => ∃ v2_ : Value, e = .returned (.agg #[.int .i64 r1, .int .i64 r2, v2_]) ∧ Kd.R (Kd.int .i64) 3 w' w.heap.size (fun _ => True) v2_ r3 ∧ Below w.heap.size w w' := by
 have hu26 := Try.underlying26
 have hmf_ : ∀ (f_ : Fn) (a_ b_ : Array Value) (W_ : World), (Instr.makeFunc f_ a_ b_).run Try.prog W_ = .ok (.func f_ a_ b_) W_ := fun _ _ _ _ => rfl
 have HR0_2 := Aside0.mk hr0_2
 have HC0_2 := Aside0.mk hc0_2
 clear hr0_2 hc0_2
 have HB := Aside0.mk (Below.refl w.heap.size w)
 have H : ((impl_makeChart__Chart_mirrored_1.f k a0_0 a0_1 a0_0 a0_1 l0_2).bind fun bt317 => (some (bt317.1, bt317.2.1, bt317.2.2))) = some (r1, r2, r3) := h
 clear h
 replace H := Option.bind_eq_some_iff.mp H
 obtain ⟨⟨t317, t318, t319⟩, A20, H⟩ := H
 replace H : (some (t317, t318, t319)) = some (r1, r2, r3) := H
 have A2 := Aside0.mk A20
 clear A20
 simp only [Option.some.injEq, Prod.mk.injEq] at H
 obtain ⟨rfl, rfl, rfl⟩ := H
 go_enter Try.func205, Try.ntmps205
 go_wp2_with (first | ((with_reducible refine gate_dst (N := 1) rfl ?_); refine box_ (N := 1) (cs := #[.int .i64 a0_0, .int .i64 a0_1, .slice A0_2 l0_2.length c0_2]) (t := 26) ?_; intro gb315 hg w3 hbox hb; have BK315 := Aside0.mk (hbox); have GW315 := gz_ w hg; have GE315 := gz_ w hg; replace HB := Aside0.mk (below_step (bw_ w) hb); clear hb hbox hg) | ((with_reducible refine gate_dst (N := 2) rfl ?_); refine box_ (N := 2) (cs := #[.int .i64 0, .int .i64 0, .slice none 0 0]) (t := 26) ?_; intro gb316 hg w4 hbox hb; have n0_ := bb_ BK315 hb; have n1_ := Aside0.mk (below_step (bw_ w) hb); have n2_ := Aside0.mk (hbox); have n3_ := gz_ w hg; have n4_ := gz_ w hg; have n5_ := ne_ hg BK315; have n6_ := en_ hg BK315; clear BK315; clear HB; have BK315 := n0_; have HB := n1_; have BK316 := n2_; have GW316 := n3_; have GE316 := n4_; have NB315_316 := n5_; have NB316_315 := n6_; clear n0_ n1_ n2_ n3_ n4_ n5_ n6_; clear hb hbox hg; have hnb5 := NB315_316.out; have hnc5 := NB316_315.out; obtain ⟨hcz6_0, hcz6_1, hcz6_2, hfz6_0, hfz6_1, hfz6_2⟩ := bc3_ (w := w4) BK315) | ((with_reducible refine gate_callee (f := 178) rfl ?_); refine goesB (some 8) Try.func178 #[.int .i64 a0_0, .int .i64 a0_1, (.func (.func 248) #[] #[.pointer (some ⟨gb315, 0, none⟩)])] ?_; (with_reducible refine (impl_makeChart__Chart_mirrored_1.calls k a0_0 a0_1 gb315 a0_0 a0_1 A0_2 c0_2 l0_2 t317 t318 t319 _ ?side1 ?side2 ?side3 A2.out).mono ?_); (case side1 => (with_reducible repeat (first | refine blk_drewN ?_ _ | refine blk_drew ?_ | refine blk_alloc ?_ _)); exact BK315.out); (case side2 => exact cb_ HR0_2 HB); (case side3 => exact HC0_2.out); rintro e w7 ⟨v320, rfl, ho0, hb⟩; refine ⟨_, rfl, ?_⟩; have HO321 := Aside0.mk (Kd.R_lower ho0 (below_size (bw_ w))); replace BK315 := bb_ BK315 hb; replace BK316 := bb_ BK316 hb; replace HB := Aside0.mk (below_step (bw_ w) hb); (try clear hb); (try clear hb2); (try clear hk); (try clear hi); (try clear ho0); obtain ⟨hcz8_0, hcz8_1, hcz8_2, hfz8_0, hfz8_1, hfz8_2⟩ := bc3_ (w := w7) BK316; obtain ⟨Ao9, co9, eo9⟩ := Kd.R_slice HO321.out; subst eo9))
 refine bodyPost_ret (results_cell_row rfl _ _ gb316 26 #[.int .i64 t317, .int .i64 t318, .slice Ao9 t319.length co9] (0, 0) _ rfl (bq_ BK316) Try.underlying26 rfl (by kernel_rfl)) rfl ?_
 exact ⟨_, by first | rfl | (simp [errW_none, errW_some] <;> rfl) | (simp [*, errW_none, errW_some] <;> rfl), by exact rf_ (Kd.R_types HO321.out BK316.out (by decide)) (fun _ hk => trivial), (bw_ w)⟩

/-! ### impl_Chart_moved: function 150 -/
mutual
def impl_Chart_moved.j0 : Nat → Int → Int → Int → List Int → Option (Int × Int × List Int)
  | 0, _, _, _, _ => none
  | k + 1, x1, x330000, x330001, x330002 => impl_Chart_moved.l0 k (Int.tmod x1 4) 0 x330000 x330001 x330002
def impl_Chart_moved.l0 : Nat → Int → Int → Int → Int → List Int → Option (Int × Int × List Int)
  | 0, _, _, _, _, _ => none
  | k + 1, x13, x14, x330000, x330001, x330002 => if x14 < x13 then ((impl_Chart_turned.f k x330000 x330001 x330002).bind fun bt335 => (impl_Chart_moved.l0 k x13 (wrap64 (x14 + 1)) bt335.1 bt335.2.1 bt335.2.2)) else (some (x330000, x330001, x330002))
end
def impl_Chart_moved.f (k : Nat) (a0_0 : Int) (a0_1 : Int) (l0_2 : List Int) (a1 : Int) : Option (Int × Int × List Int) := (impl_Chart_copied.f a0_0 a0_1 l0_2).bind fun bt324 => (if a1 ≥ 4 then ((impl_Chart_mirrored.f k bt324.1 bt324.2.1 bt324.2.2).bind fun bt330 => (impl_Chart_moved.j0 k a1 bt330.1 bt330.2.1 bt330.2.2)) else (impl_Chart_moved.j0 k a1 bt324.1 bt324.2.1 bt324.2.2))
theorem impl_Chart_moved.mono_l : ∀ k, (∀ y0 y1 y2 y3, LeO (impl_Chart_moved.j0 k y0 y1 y2 y3) (impl_Chart_moved.j0 (k + 1) y0 y1 y2 y3)) ∧ (∀ y0 y1 y2 y3 y4, LeO (impl_Chart_moved.l0 k y0 y1 y2 y3 y4) (impl_Chart_moved.l0 (k + 1) y0 y1 y2 y3 y4))
  | 0 => ⟨fun _ _ _ _ r h => by simp [impl_Chart_moved.j0] at h, fun _ _ _ _ _ r h => by simp [impl_Chart_moved.l0] at h⟩
  | k + 1 => by
    obtain ⟨ih0, ih1⟩ := impl_Chart_moved.mono_l k
    refine ⟨?_, ?_⟩
    · intro y0 y1 y2 y3
      unfold impl_Chart_moved.j0
      repeat' first
      | (with_reducible exact ih0 _ _ _ _)
      | (with_reducible exact ih1 _ _ _ _ _)
      | (with_reducible exact impl_Chart_mirrored.mono _ _ _ _)
      | (with_reducible exact impl_Chart_turned.mono _ _ _ _)
      | (with_reducible exact LeO.refl _)
      | (with_reducible exact LeO.none _)
      | (with_reducible refine LeO.ite ?_ ?_)
      | (with_reducible refine LeO.bind ?_ (fun _ => ?_))
      | exact ih0 _ _ _ _
      | exact ih1 _ _ _ _ _
      | exact impl_Chart_mirrored.mono _ _ _ _
      | exact impl_Chart_turned.mono _ _ _ _
      | exact LeO.none _
      | refine LeO.ite ?_ ?_
      | refine LeO.bind ?_ (fun _ => ?_)
    · intro y0 y1 y2 y3 y4
      unfold impl_Chart_moved.l0
      repeat' first
      | (with_reducible exact ih0 _ _ _ _)
      | (with_reducible exact ih1 _ _ _ _ _)
      | (with_reducible exact impl_Chart_mirrored.mono _ _ _ _)
      | (with_reducible exact impl_Chart_turned.mono _ _ _ _)
      | (with_reducible exact LeO.refl _)
      | (with_reducible exact LeO.none _)
      | (with_reducible refine LeO.ite ?_ ?_)
      | (with_reducible refine LeO.bind ?_ (fun _ => ?_))
      | exact ih0 _ _ _ _
      | exact ih1 _ _ _ _ _
      | exact impl_Chart_mirrored.mono _ _ _ _
      | exact impl_Chart_turned.mono _ _ _ _
      | exact LeO.none _
      | refine LeO.ite ?_ ?_
      | refine LeO.bind ?_ (fun _ => ?_)
theorem impl_Chart_moved.mono : ∀ a0 a1 a2 a3 k, LeO (impl_Chart_moved.f k a0 a1 a2 a3) (impl_Chart_moved.f (k + 1) a0 a1 a2 a3) := by
  intro a0 a1 a2 a3 k
  obtain ⟨ih0, ih1⟩ := impl_Chart_moved.mono_l k
  unfold impl_Chart_moved.f
  repeat' first
      | (with_reducible exact ih0 _ _ _ _)
      | (with_reducible exact ih1 _ _ _ _ _)
      | (with_reducible exact impl_Chart_mirrored.mono _ _ _ _)
      | (with_reducible exact impl_Chart_turned.mono _ _ _ _)
      | (with_reducible exact LeO.refl _)
      | (with_reducible exact LeO.none _)
      | (with_reducible refine LeO.ite ?_ ?_)
      | (with_reducible refine LeO.bind ?_ (fun _ => ?_))
      | exact ih0 _ _ _ _
      | exact ih1 _ _ _ _ _
      | exact impl_Chart_mirrored.mono _ _ _ _
      | exact impl_Chart_turned.mono _ _ _ _
      | exact LeO.none _
      | refine LeO.ite ?_ ?_
      | refine LeO.bind ?_ (fun _ => ?_)
set_option maxHeartbeats 8000000 in
set_option maxRecDepth 100000 in
theorem impl_Chart_moved.calls (k : Nat) (a0_0 : Int) (a0_1 : Int) (A0_2 : Option Addr) (c0_2 : Nat) (l0_2 : List Int) (a1 : Int) (r1 : Int) (r2 : Int) (r3 : List Int) (w : World) (hr0_2 : Kd.C (Kd.int .i64) w A0_2 l0_2.length l0_2) (hc0_2 : l0_2.length ≤ c0_2) (h : impl_Chart_moved.f k a0_0 a0_1 l0_2 a1 = some (r1, r2, r3)) :
  Calls Try.prog 150 #[.agg #[.int .i64 a0_0, .int .i64 a0_1, .slice A0_2 l0_2.length c0_2], .int .i64 a1] w fun e w' => ∃ v2_ : Value, e = .returned (.agg #[.int .i64 r1, .int .i64 r2, v2_]) ∧ Kd.R (Kd.int .i64) 3 w' w.heap.size (fun _ => True) v2_ r3 ∧ Below w.heap.size w w' := by
 have hu26 := Try.underlying26
 have HR0_2 := Aside0.mk hr0_2
 have HC0_2 := Aside0.mk hc0_2
 clear hr0_2 hc0_2
 have HB := Aside0.mk (Below.refl w.heap.size w)
 have H : ((impl_Chart_copied.f a0_0 a0_1 l0_2).bind fun bt324 => (if a1 ≥ 4 then ((impl_Chart_mirrored.f k bt324.1 bt324.2.1 bt324.2.2).bind fun bt330 => (impl_Chart_moved.j0 k a1 bt330.1 bt330.2.1 bt330.2.2)) else (impl_Chart_moved.j0 k a1 bt324.1 bt324.2.1 bt324.2.2))) = some (r1, r2, r3) := h
 clear h
 replace H := Option.bind_eq_some_iff.mp H
 obtain ⟨⟨t324, t325, t326⟩, A30, H⟩ := H
 replace H : (if a1 ≥ 4 then ((impl_Chart_mirrored.f k t324 t325 t326).bind fun bt330 => (impl_Chart_moved.j0 k a1 bt330.1 bt330.2.1 bt330.2.2)) else (impl_Chart_moved.j0 k a1 t324 t325 t326)) = some (r1, r2, r3) := H
 have A3 := Aside0.mk A30
 clear A30
 have HC4 := Aside0.mk H
 clear H
 go_enter Try.func150, Try.ntmps150
 go_upto_if 9 with (first | ((with_reducible refine gate_dst (N := 2) rfl ?_); refine box_ (N := 2) (cs := #[.int .i64 a0_0, .int .i64 a0_1, .slice A0_2 l0_2.length c0_2]) (t := 26) ?_; intro gb322 hg w5 hbox hb; have BK322 := Aside0.mk (hbox); have GW322 := gz_ w hg; have GE322 := gz_ w hg; replace HB := Aside0.mk (below_step (bw_ w) hb); clear hb hbox hg) | ((with_reducible refine gate_dst (N := 4) rfl ?_); refine box_ (N := 4) (cs := #[.int .i64 0, .int .i64 0, .slice none 0 0]) (t := 26) ?_; intro gb323 hg w6 hbox hb; have n0_ := bb_ BK322 hb; have n1_ := Aside0.mk (below_step (bw_ w) hb); have n2_ := Aside0.mk (hbox); have n3_ := gz_ w hg; have n4_ := gz_ w hg; have n5_ := ne_ hg BK322; have n6_ := en_ hg BK322; clear BK322; clear HB; have BK322 := n0_; have HB := n1_; have BK323 := n2_; have GW323 := n3_; have GE323 := n4_; have NB322_323 := n5_; have NB323_322 := n6_; clear n0_ n1_ n2_ n3_ n4_ n5_ n6_; clear hb hbox hg; have hnb7 := NB322_323.out; have hnc7 := NB323_322.out; obtain ⟨hcz8_0, hcz8_1, hcz8_2, hfz8_0, hfz8_1, hfz8_2⟩ := bc3_ (w := w6) BK322) | ((with_reducible refine gate_callee (f := 140) rfl ?_); refine goesB (some 7) Try.func140 #[.agg #[.int .i64 a0_0, .int .i64 a0_1, .slice A0_2 l0_2.length c0_2]] ?_; (with_reducible refine (impl_Chart_copied.calls a0_0 a0_1 _ _ l0_2 t324 t325 t326 _ ?side1 ?side2 A3.out).mono ?_); (case side1 => exact cb_ HR0_2 HB); (case side2 => exact HC0_2.out); rintro e w9 ⟨v327, rfl, ho0, hb⟩; refine ⟨_, rfl, ?_⟩; have HO328 := Aside0.mk (Kd.R_lower ho0 (below_size (bw_ w))); replace BK322 := bb_ BK322 hb; replace BK323 := bb_ BK323 hb; replace HB := Aside0.mk (below_step (bw_ w) hb); (try clear hb); (try clear hb2); (try clear hk); (try clear hi); (try clear ho0)) | ((with_reducible refine gate_dst (N := 5) rfl ?_); refine box_ (N := 5) (cs := #[.int .i64 0, .int .i64 0, .slice none 0 0]) (t := 26) ?_; intro gb329 hg w10 hbox hb; have n0_ := Aside0.mk (Kd.R_below (ra_ HO328) hb); have n1_ := bb_ BK322 hb; have n2_ := bb_ BK323 hb; have n3_ := Aside0.mk (below_step (bw_ w) hb); have n4_ := Aside0.mk (hbox); have n5_ := gz_ w hg; have n6_ := gz_ w hg; have n7_ := ne_ hg BK322; have n8_ := en_ hg BK322; have n9_ := ne_ hg BK323; have n10_ := en_ hg BK323; clear HO328; clear BK322; clear BK323; clear HB; have HO328 := n0_; have BK322 := n1_; have BK323 := n2_; have HB := n3_; have BK329 := n4_; have GW329 := n5_; have GE329 := n6_; have NB322_329 := n7_; have NB329_322 := n8_; have NB323_329 := n9_; have NB329_323 := n10_; clear n0_ n1_ n2_ n3_ n4_ n5_ n6_ n7_ n8_ n9_ n10_; clear hb hbox hg; have hnb11 := NB329_322.out; have hnc11 := NB322_329.out; have hnb12 := NB329_323.out; have hnc12 := NB323_329.out; obtain ⟨hcz13_0, hcz13_1, hcz13_2, hfz13_0, hfz13_1, hfz13_2⟩ := bc3_ (w := w10) BK329; obtain ⟨Ao14, co14, eo14⟩ := Kd.R_slice HO328.out; subst eo14))
 (try simp only [Act.put, List.setIfInBounds_toArray, List.set_cons_zero, List.set_cons_succ])
 go_cut [] (fun wc => ∃ (kq : Nat) (x330000_3 : Int) (x330001_3 : Int) (x330002_3 : List Int) (u330002 : Value), Aside0 (impl_Chart_moved.j0 kq a1 x330000_3 x330001_3 x330002_3 = some (r1, r2, r3)) ∧ Aside0 (kq ≤ k) ∧ Aside0 (Kd.R (Kd.int .i64) 3 wc w.heap.size (fun _ => True) u330002 x330002_3) ∧ Aside0 (wc.heap[gb322]? = some (.cells #[.int .i64 a0_0, .int .i64 a0_1, (.slice A0_2 l0_2.length c0_2)] 26 (0, 0))) ∧ Aside0 (wc.heap[gb323]? = some (.cells #[.int .i64 0, .int .i64 0, (.slice none 0 0)] 26 (0, 0))) ∧ Aside0 (wc.heap[gb329]? = some (.cells #[.int .i64 x330000_3, .int .i64 x330001_3, u330002] 26 (0, 0))) ∧ Aside0 (Below w.heap.size w wc))
 case first =>
  have H := HC4.out
  clear HC4
  by_cases c15 : a1 ≥ 4
  ·rw [if_pos c15] at H
   have c15b0 : decide (4 ≤ a1) = true := decide_eq_true c15
   clear c15
   (first | rw [c15b0] | (simp only [i64_w, i32_w]; rw [c15b0]) | skip)
   replace H := Option.bind_eq_some_iff.mp H
   obtain ⟨⟨t330, t331, t332⟩, A160, H⟩ := H
   replace H : (impl_Chart_moved.j0 k a1 t330 t331 t332) = some (r1, r2, r3) := H
   have A16 := Aside0.mk A160
   clear A160
   have H' := Aside0.mk H
   clear H
   have hnb17 := NB329_322.out
   have hnc17 := NB322_329.out
   have hnb18 := NB329_323.out
   have hnc18 := NB323_329.out
   obtain ⟨hcz19_0, hcz19_1, hcz19_2, hfz19_0, hfz19_1, hfz19_2⟩ := bc3_ (w := w10) BK329
   go_wp2_with (first | ((with_reducible refine gate_callee (f := 205) rfl ?_); refine goesB (some 11) Try.func205 #[.agg #[.int .i64 t324, .int .i64 t325, .slice Ao14 t326.length co14]] ?_; (with_reducible refine (impl_Chart_mirrored.calls k t324 t325 _ _ t326 t330 t331 t332 _ ?side1 ?side2 A16.out).mono ?_); (case side1 => refine (Kd.R_reads' (e := 3) (base := w.heap.size) (ok := fun k_ => True) (n := t326.length) (c := co14) ?_).2.2; exact (by exact rf_ (Kd.R_types HO328.out BK329.out (by decide)) (fun _ h_ => h_.1))); (case side2 => exact (Kd.R_reads' HO328.out).2.1); rintro e w20 ⟨v333, rfl, ho0, hb⟩; refine ⟨_, rfl, ?_⟩; have n0_ := Aside0.mk (Kd.R_elder' (by exact rf_ (Kd.R_types HO328.out BK329.out (by decide)) (fun _ h_ => h_.1)) (Kd.R_base ho0) hb); have n1_ := Aside0.mk (Kd.R_lower (Kd.R_new' ho0 (Kd.R_lt (by exact rf_ (Kd.R_types HO328.out BK329.out (by decide)) (fun _ h_ => h_.1)))) (below_size (bw_ w))); have n2_ := bb_ BK322 hb; have n3_ := bb_ BK323 hb; have n4_ := Aside0.mk (blk_below (g := gb329) (o := .cells #[.int .i64 t324, .int .i64 t325, .slice Ao14 t326.length co14] 26 (0, 0)) (bq_ BK329) hb); have n5_ := Aside0.mk (below_step (bw_ w) hb); clear HO328; clear BK322; clear BK323; clear BK329; clear HB; have HO328 := n0_; have HO334 := n1_; have BK322 := n2_; have BK323 := n3_; have BK329 := n4_; have HB := n5_; clear n0_ n1_ n2_ n3_ n4_ n5_; (try clear hb); (try clear hb2); (try clear hk); (try clear hi); (try clear ho0); obtain ⟨hcz21_0, hcz21_1, hcz21_2, hfz21_0, hfz21_1, hfz21_2⟩ := bc3_ (w := w20) BK329; obtain ⟨Ao22, co22, eo22⟩ := Kd.R_slice HO334.out; subst eo22))
   go_meet
   case rel => exact ⟨_, (t330), (t331), (t332), (.slice Ao22 t332.length co22), H', ⟨by first | omega | exact Nat.le_refl _⟩, ⟨by exact rf_ (Kd.R_types HO334.out BK329.out (by decide)) (fun _ hk => trivial)⟩, ⟨bk_ BK322⟩, ⟨bk_ BK323⟩, ⟨bq_ BK329⟩, ⟨(bw_ w)⟩⟩
  ·rw [if_neg c15] at H
   have c15b0 : decide (4 ≤ a1) = false := decide_eq_false c15
   clear c15
   (first | rw [c15b0] | (simp only [i64_w, i32_w]; rw [c15b0]) | skip)
   have H' := Aside0.mk H
   clear H
   go_wp2
   go_meet
   case rel => exact ⟨_, (t324), (t325), (t326), (.slice Ao14 t326.length co14), H', ⟨by first | omega | exact Nat.le_refl _⟩, ⟨by exact rf_ (Kd.R_types HO328.out BK329.out (by decide)) (fun _ hk => trivial)⟩, ⟨bk_ BK322⟩, ⟨bk_ BK323⟩, ⟨bq_ BK329⟩, ⟨(bw_ w)⟩⟩
 case rest =>
  clear HC4
  try clear c1
  try clear c2
  try clear p2
  try clear c7
  try clear c11
  try clear c12
  try clear c14
  try clear c15
  try clear c15b0
  try clear c17
  try clear c18
  try clear c20
  try clear hcz13_0
  try clear hcz13_1
  try clear hcz13_2
  try clear hcz19_0
  try clear hcz19_1
  try clear hcz19_2
  try clear hcz21_0
  try clear hcz21_1
  try clear hcz21_2
  try clear hcz8_0
  try clear hcz8_1
  try clear hcz8_2
  try clear hfz13_0
  try clear hfz13_1
  try clear hfz13_2
  try clear hfz19_0
  try clear hfz19_1
  try clear hfz19_2
  try clear hfz21_0
  try clear hfz21_1
  try clear hfz21_2
  try clear hfz8_0
  try clear hfz8_1
  try clear hfz8_2
  obtain ⟨kq, x330000_3, x330001_3, x330002_3, u330002, HA, HJ3, HO_330002, BK322, BK323, BK329, HB⟩ := hcut
  cases kq with
  | zero => exact absurd HA.out (by simp [impl_Chart_moved.j0])
  | succ kj3 =>
   have H := HA.out
   clear HA
   simp only [impl_Chart_moved.j0] at H
   have H' := Aside0.mk H
   clear H
   go_wp2
   go_loopg [14] kj3 (fun kq v14 w' => ∃ (x14_2 : Int) (x330000_2 : Int) (x330001_2 : Int) (x330002_2 : List Int) (u330002 : Value), v14 = .int .i64 x14_2 ∧ Aside0 (impl_Chart_moved.l0 kq (Int.tmod a1 4) x14_2 x330000_2 x330001_2 x330002_2 = some (r1, r2, r3)) ∧ Aside0 (kq ≤ kj3) ∧ Aside0 (Kd.R (Kd.int .i64) 3 w' w.heap.size (fun _ => True) u330002 x330002_2) ∧ Aside0 (w'.heap[gb322]? = some (.cells #[.int .i64 a0_0, .int .i64 a0_1, (.slice A0_2 l0_2.length c0_2)] 26 (0, 0))) ∧ Aside0 (w'.heap[gb323]? = some (.cells #[.int .i64 0, .int .i64 0, (.slice none 0 0)] 26 (0, 0))) ∧ Aside0 (w'.heap[gb329]? = some (.cells #[.int .i64 x330000_2, .int .i64 x330001_2, u330002] 26 (0, 0))) ∧ Aside0 (Below w.heap.size w w'))
   case atStart => exact ⟨(0), (x330000_3), (x330001_3), (x330002_3), (u330002), (by first | rfl | (simp; done) | (simp [*]; done)), H', ⟨Nat.le_refl _⟩, ⟨ra_ HO_330002⟩, ⟨bk_ BK322⟩, ⟨bk_ BK323⟩, ⟨bk_ BK329⟩, ⟨(bw_ w)⟩⟩
   case round =>
    clear H'
    try clear c1
    try clear c2
    try clear p2
    try clear c7
    try clear c11
    try clear c12
    try clear c14
    try clear c15
    try clear c15b0
    try clear c17
    try clear c18
    try clear c20
    try clear hcz13_0
    try clear hcz13_1
    try clear hcz13_2
    try clear hcz19_0
    try clear hcz19_1
    try clear hcz19_2
    try clear hcz21_0
    try clear hcz21_1
    try clear hcz21_2
    try clear hcz8_0
    try clear hcz8_1
    try clear hcz8_2
    try clear hfz13_0
    try clear hfz13_1
    try clear hfz13_2
    try clear hfz19_0
    try clear hfz19_1
    try clear hfz19_2
    try clear hfz21_0
    try clear hfz21_1
    try clear hfz21_2
    try clear hfz8_0
    try clear hfz8_1
    try clear hfz8_2
    try clear p2
    obtain ⟨x14_2, x330000_2, x330001_2, x330002_2, u330002, rfl, HA, HK2, HO_330002, BK322, BK323, BK329, HB⟩ := hrel
    cases gk with
    | zero => exact absurd HA.out (by simp [impl_Chart_moved.l0])
    | succ k2 =>
     have H := HA.out
     clear HA
     simp only [impl_Chart_moved.l0] at H
     by_cases c23 : x14_2 < (Int.tmod a1 4)
     ·rw [if_pos c23] at H
      have c23b0 : decide (x14_2 < (Int.tmod a1 4)) = true := decide_eq_true c23
      clear c23
      replace H := Option.bind_eq_some_iff.mp H
      obtain ⟨⟨t335, t336, t337⟩, A240, H⟩ := H
      replace H : (impl_Chart_moved.l0 k2 (Int.tmod a1 4) (wrap64 (x14_2 + 1)) t335 t336 t337) = some (r1, r2, r3) := H
      have A24 := Aside0.mk A240
      clear A240
      have H' := Aside0.mk H
      clear H
      have hnb25 := NB329_322.out
      have hnc25 := NB322_329.out
      have hnb26 := NB329_323.out
      have hnc26 := NB323_329.out
      obtain ⟨hcz27_0, hcz27_1, hcz27_2, hfz27_0, hfz27_1, hfz27_2⟩ := bc3_ (w := wr) BK329
      obtain ⟨Ao28, co28, eo28⟩ := Kd.R_slice HO_330002.out
      subst eo28
      go_wp2_with (first | ((with_reducible refine gate_callee (f := 200) rfl ?_); refine goesB (some 17) Try.func200 #[.agg #[.int .i64 x330000_2, .int .i64 x330001_2, .slice Ao28 x330002_2.length co28]] ?_; (with_reducible refine (impl_Chart_turned.calls k2 x330000_2 x330001_2 _ _ x330002_2 t335 t336 t337 _ ?side1 ?side2 A24.out).mono ?_); (case side1 => exact co_ (Kd.R_reads' HO_330002.out).2.2); (case side2 => exact (Kd.R_reads' HO_330002.out).2.1); rintro e w29 ⟨v338, rfl, ho0, hb⟩; refine ⟨_, rfl, ?_⟩; have n0_ := Aside0.mk (Kd.R_elder' (ra_ HO_330002) (Kd.R_base ho0) hb); have n1_ := Aside0.mk (Kd.R_lower (Kd.R_new' ho0 (Kd.R_lt (ra_ HO_330002))) (below_size (bw_ w))); have n2_ := bb_ BK322 hb; have n3_ := bb_ BK323 hb; have n4_ := bb_ BK329 hb; have n5_ := Aside0.mk (below_step (bw_ w) hb); clear HO_330002; clear BK322; clear BK323; clear BK329; clear HB; have HO_330002 := n0_; have HO339 := n1_; have BK322 := n2_; have BK323 := n3_; have BK329 := n4_; have HB := n5_; clear n0_ n1_ n2_ n3_ n4_ n5_; (try clear hb); (try clear hb2); (try clear hk); (try clear hi); (try clear ho0); obtain ⟨hcz30_0, hcz30_1, hcz30_2, hfz30_0, hfz30_1, hfz30_2⟩ := bc3_ (w := w29) BK329; obtain ⟨Ao31, co31, eo31⟩ := Kd.R_slice HO339.out; subst eo31))
      go_roundg k2
      case measure => have := HJ3.out; have := HK2.out; omega
      case rel => exact ⟨(wrap64 (x14_2 + 1)), (t335), (t336), (t337), (.slice Ao31 t337.length co31), (by first | rfl | (simp; done) | (simp [*]; done)), H', ⟨by have := HJ3.out; have := HK2.out; omega⟩, ⟨by exact rf_ (Kd.R_types HO339.out BK329.out (by decide)) (fun _ hk => trivial)⟩, ⟨bk_ BK322⟩, ⟨bk_ BK323⟩, ⟨bq_ BK329⟩, ⟨(bw_ w)⟩⟩
     ·rw [if_neg c23] at H
      have c23b0 : decide (x14_2 < (Int.tmod a1 4)) = false := decide_eq_false c23
      clear c23
      simp only [Option.some.injEq, Prod.mk.injEq] at H
      obtain ⟨rfl, rfl, rfl⟩ := H
      have hnb32 := NB329_322.out
      have hnc32 := NB322_329.out
      have hnb33 := NB329_323.out
      have hnc33 := NB323_329.out
      obtain ⟨hcz34_0, hcz34_1, hcz34_2, hfz34_0, hfz34_1, hfz34_2⟩ := bc3_ (w := wr) BK329
      have hnb35 := NB323_322.out
      have hnc35 := NB322_323.out
      obtain ⟨hcz36_0, hcz36_1, hcz36_2, hfz36_0, hfz36_1, hfz36_2⟩ := bc3_ (w := wr) BK323
      obtain ⟨Ao37, co37, eo37⟩ := Kd.R_slice HO_330002.out
      subst eo37
      go_wp2
      refine bodyPost_ret (results_cell_row rfl _ _ gb323 26 #[.int .i64 x330000_2, .int .i64 x330001_2, .slice Ao37 x330002_2.length co37] (0, 0) _ rfl (bq_ BK323) Try.underlying26 rfl (by kernel_rfl)) rfl ?_
      exact ⟨_, by first | rfl | (simp [errW_none, errW_some] <;> rfl) | (simp [*, errW_none, errW_some] <;> rfl), by exact rf_ (Kd.R_types HO_330002.out BK323.out (by decide)) (fun _ hk => trivial), (bw_ w)⟩

end Go.Proofs.Ytijmljaemalgmaa.PFnExactCompleteChart
