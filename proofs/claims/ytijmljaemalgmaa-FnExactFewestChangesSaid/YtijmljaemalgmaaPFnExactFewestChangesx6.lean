-- Printed by this session's own program (wip/tool/myprint.py, over the kit's print); Lean checks it.
import Derived.Test.YtijmljaemalgmaaPFnExactFewestChangesx0
import Derived.Test.YtijmljaemalgmaaPFnExactFewestChangesx5
namespace Go.Proofs.Ytijmljaemalgmaa.PFnExactFewestChanges
open Go.RowKit Go.Proofs.YtijmljaemalgmaaW.PrintWords Go.Proofs.YtijmljaemalgmaaW.PrintLast Go.Proofs.YtijmljaemalgmaaW.PrintMore
attribute [local go_sem] max2_int min2_int max_two min_two max_three min_three max_four min_four   -- for this text's walks alone
set_option linter.unusedVariables false
set_option linter.unusedSimpArgs false

/-! ### impl_makeChart__Chart_turned_1: function 178 -/
mutual
def impl_makeChart__Chart_turned_1.l0 : Nat → Int → Int → Int → Int → Int → List Int → Int → Int → List Int → Option (Int × Int × List Int)
  | 0, _, _, _, _, _, _, _, _, _ => none
  | k + 1, x0, x13, x14, x280000, x280001, x280002, x282000, x282001, x282002 => if x14 < x13 then (impl_makeChart__Chart_turned_1.l1 k x0 x14 x13 x14 x0 0 x280000 x280001 x280002 x282000 x282001 x282002) else (some (x282000, x282001, x282002))
def impl_makeChart__Chart_turned_1.l1 : Nat → Int → Int → Int → Int → Int → Int → Int → Int → List Int → Int → Int → List Int → Option (Int × Int × List Int)
  | 0, _, _, _, _, _, _, _, _, _, _, _, _ => none
  | k + 1, x0, x8, x13, x14, x17, x18, x280000, x280001, x280002, x282000, x282001, x282002 => if x18 < x17 then ((impl_Chart_turned_1.f x8 x18 x280000 x280001 x280002).bind fun t282 => (if x282002.length < 17592186044416 then (impl_makeChart__Chart_turned_1.l1 k x0 x8 x13 x14 x17 (wrap64 (x18 + 1)) x280000 x280001 x280002 x282000 x282001 (x282002 ++ [t282])) else (none))) else (impl_makeChart__Chart_turned_1.l0 k x0 x13 (wrap64 (x14 + 1)) x280000 x280001 x280002 x282000 x282001 x282002)
end
def impl_makeChart__Chart_turned_1.f (k : Nat) (a0 : Int) (a1 : Int) (a2_0 : Int) (a2_1 : Int) (l2_2 : List Int) : Option (Int × Int × List Int) := impl_makeChart__Chart_turned_1.l0 k a0 a1 0 a2_0 a2_1 l2_2 a0 a1 ([] : List Int)
theorem impl_makeChart__Chart_turned_1.mono_l : ∀ k, (∀ y0 y1 y2 y3 y4 y5 y6 y7 y8, LeO (impl_makeChart__Chart_turned_1.l0 k y0 y1 y2 y3 y4 y5 y6 y7 y8) (impl_makeChart__Chart_turned_1.l0 (k + 1) y0 y1 y2 y3 y4 y5 y6 y7 y8)) ∧ (∀ y0 y1 y2 y3 y4 y5 y6 y7 y8 y9 y10 y11, LeO (impl_makeChart__Chart_turned_1.l1 k y0 y1 y2 y3 y4 y5 y6 y7 y8 y9 y10 y11) (impl_makeChart__Chart_turned_1.l1 (k + 1) y0 y1 y2 y3 y4 y5 y6 y7 y8 y9 y10 y11))
  | 0 => ⟨fun _ _ _ _ _ _ _ _ _ r h => by simp [impl_makeChart__Chart_turned_1.l0] at h, fun _ _ _ _ _ _ _ _ _ _ _ _ r h => by simp [impl_makeChart__Chart_turned_1.l1] at h⟩
  | k + 1 => by
    obtain ⟨ih0, ih1⟩ := impl_makeChart__Chart_turned_1.mono_l k
    refine ⟨?_, ?_⟩
    · intro y0 y1 y2 y3 y4 y5 y6 y7 y8
      unfold impl_makeChart__Chart_turned_1.l0
      repeat' first
      | (with_reducible exact ih0 _ _ _ _ _ _ _ _ _)
      | (with_reducible exact ih1 _ _ _ _ _ _ _ _ _ _ _ _)
      | (with_reducible exact LeO.refl _)
      | (with_reducible exact LeO.none _)
      | (with_reducible refine LeO.ite ?_ ?_)
      | (with_reducible refine LeO.bind ?_ (fun _ => ?_))
      | exact ih0 _ _ _ _ _ _ _ _ _
      | exact ih1 _ _ _ _ _ _ _ _ _ _ _ _
      | exact LeO.none _
      | refine LeO.ite ?_ ?_
      | refine LeO.bind ?_ (fun _ => ?_)
    · intro y0 y1 y2 y3 y4 y5 y6 y7 y8 y9 y10 y11
      unfold impl_makeChart__Chart_turned_1.l1
      repeat' first
      | (with_reducible exact ih0 _ _ _ _ _ _ _ _ _)
      | (with_reducible exact ih1 _ _ _ _ _ _ _ _ _ _ _ _)
      | (with_reducible exact LeO.refl _)
      | (with_reducible exact LeO.none _)
      | (with_reducible refine LeO.ite ?_ ?_)
      | (with_reducible refine LeO.bind ?_ (fun _ => ?_))
      | exact ih0 _ _ _ _ _ _ _ _ _
      | exact ih1 _ _ _ _ _ _ _ _ _ _ _ _
      | exact LeO.none _
      | refine LeO.ite ?_ ?_
      | refine LeO.bind ?_ (fun _ => ?_)
theorem impl_makeChart__Chart_turned_1.mono : ∀ a0 a1 a2 a3 a4 k, LeO (impl_makeChart__Chart_turned_1.f k a0 a1 a2 a3 a4) (impl_makeChart__Chart_turned_1.f (k + 1) a0 a1 a2 a3 a4) := by
  intro a0 a1 a2 a3 a4 k
  obtain ⟨ih0, ih1⟩ := impl_makeChart__Chart_turned_1.mono_l k
  unfold impl_makeChart__Chart_turned_1.f
  repeat' first
      | (with_reducible exact ih0 _ _ _ _ _ _ _ _ _)
      | (with_reducible exact ih1 _ _ _ _ _ _ _ _ _ _ _ _)
      | (with_reducible exact LeO.refl _)
      | (with_reducible exact LeO.none _)
      | (with_reducible refine LeO.ite ?_ ?_)
      | (with_reducible refine LeO.bind ?_ (fun _ => ?_))
      | exact ih0 _ _ _ _ _ _ _ _ _
      | exact ih1 _ _ _ _ _ _ _ _ _ _ _ _
      | exact LeO.none _
      | refine LeO.ite ?_ ?_
      | refine LeO.bind ?_ (fun _ => ?_)
def impl_makeChart__Chart_turned_1.T8 : Bool × List (List Nat × List Nat) := (true, [([], []), ([0], [0]), ([], []), ([], []), ([], []), ([2, 3, 4], [2, 3, 4]), ([5], [5]), ([1, 6, 5], [1, 6]), ([0, 1, 2, 3, 4, 5, 6, 7], []), ([8, 7, 7, 0, 1, 2, 3, 4, 5, 6, 7], [7, 8])])
def impl_makeChart__Chart_turned_1.B8 : List Nat := [0, 1, 0, 0, 0, 28, 60, 127, 255, 511]
theorem impl_makeChart__Chart_turned_1.tab8 : rtab .any (opsOf Try.f178 8) = impl_makeChart__Chart_turned_1.T8 := by kernel_rfl
theorem impl_makeChart__Chart_turned_1.bits8 : waitsOk impl_makeChart__Chart_turned_1.T8.2 impl_makeChart__Chart_turned_1.B8 = true := by kernel_rfl
set_option maxHeartbeats 8000000 in
set_option maxRecDepth 100000 in
theorem impl_makeChart__Chart_turned_1.calls (k : Nat) (a0 : Int) (a1 : Int) (gb279 : Nat) (a2_0 : Int) (a2_1 : Int) (A2_2 : Option Addr) (c2_2 : Nat) (l2_2 : List Int) (r1 : Int) (r2 : Int) (r3 : List Int) (w : World) (hb279 : w.heap[gb279]? = some (.cells #[.int .i64 a2_0, .int .i64 a2_1, .slice A2_2 l2_2.length c2_2] 26 (0, 0))) (hr2_2 : Kd.C (Kd.int .i64) w A2_2 l2_2.length l2_2) (hc2_2 : l2_2.length ≤ c2_2) (h : impl_makeChart__Chart_turned_1.f k a0 a1 a2_0 a2_1 l2_2 = some (r1, r2, r3)) :
  Calls Try.prog 178 #[.int .i64 a0, .int .i64 a1, (.func (.func 244) #[] #[.pointer (some ⟨gb279, 0, none⟩)])] w fun e w' => ∃ v2_ : Value, e = .returned (.agg #[.int .i64 r1, .int .i64 r2, v2_]) ∧ Kd.R (Kd.int .i64) 3 w' w.heap.size (fun _ => True) v2_ r3 ∧ Below w.heap.size w w' := by
 have hu26 := Try.underlying26
 have HR2_2 := Aside0.mk hr2_2
 have HC2_2 := Aside0.mk hc2_2
 clear hr2_2 hc2_2
 have BK279 := Aside0.mk hb279
 clear hb279
 have HB := Aside0.mk (Below.refl w.heap.size w)
 have H : (impl_makeChart__Chart_turned_1.l0 k a0 a1 0 a2_0 a2_1 l2_2 a0 a1 ([] : List Int)) = some (r1, r2, r3) := h
 clear h
 have H' := Aside0.mk H
 clear H
 go_enter Try.func178, Try.ntmps178
 go_wp2_with (first | ((with_reducible refine gate_dst (N := 6) rfl ?_); refine box_ (N := 6) (cs := #[.int .i64 0, .int .i64 0, .slice none 0 0]) (t := 26) ?_; intro gb280 hg w4 hbox hb; have n0_ := bb_ BK279 hb; have n1_ := Aside0.mk (below_step (bw_ w) hb); have n2_ := Aside0.mk (hbox); have n3_ := gz_ w hg; have n4_ := gz_ w hg; have n5_ := ne_ hg BK279; have n6_ := en_ hg BK279; clear BK279; clear HB; have BK279 := n0_; have HB := n1_; have BK280 := n2_; have GW280 := n3_; have GE280 := n4_; have NB279_280 := n5_; have NB280_279 := n6_; clear n0_ n1_ n2_ n3_ n4_ n5_ n6_; clear hb hbox hg) | ((with_reducible refine gate_dst (N := 7) rfl ?_); refine box_ (N := 7) (cs := #[.int .i64 0, .int .i64 0, .slice none 0 0]) (t := 26) ?_; intro gb281 hg w5 hbox hb; have n0_ := bb_ BK279 hb; have n1_ := bb_ BK280 hb; have n2_ := Aside0.mk (below_step (bw_ w) hb); have n3_ := Aside0.mk (hbox); have n4_ := gz_ w hg; have n5_ := gz_ w hg; have n6_ := ne_ hg BK279; have n7_ := en_ hg BK279; have n8_ := ne_ hg BK280; have n9_ := en_ hg BK280; clear BK279; clear BK280; clear HB; have BK279 := n0_; have BK280 := n1_; have HB := n2_; have BK281 := n3_; have GW281 := n4_; have GE281 := n5_; have NB279_281 := n6_; have NB281_279 := n7_; have NB280_281 := n8_; have NB281_280 := n9_; clear n0_ n1_ n2_ n3_ n4_ n5_ n6_ n7_ n8_ n9_; clear hb hbox hg; have hnb6 := NB281_279.out; have hnc6 := NB279_281.out; have hnb7 := NB281_280.out; have hnc7 := NB280_281.out; obtain ⟨hcz8_0, hcz8_1, hcz8_2, hfz8_0, hfz8_1, hfz8_2⟩ := bc3_ (w := w5) BK281))
 go_loopg [14] k (fun kq v14 w' => ∃ (x14_1 : Int) (x282002_1 : List Int) (u282002 : Value), v14 = .int .i64 x14_1 ∧ Aside0 (impl_makeChart__Chart_turned_1.l0 kq a0 a1 x14_1 a2_0 a2_1 l2_2 a0 a1 x282002_1 = some (r1, r2, r3)) ∧ Aside0 (kq ≤ k) ∧ Aside0 (Kd.R (Kd.int .i64) 3 w' w.heap.size (fun _ => True) u282002 x282002_1) ∧ Aside0 (w'.heap[gb279]? = some (.cells #[.int .i64 a2_0, .int .i64 a2_1, (.slice A2_2 l2_2.length c2_2)] 26 (0, 0))) ∧ Aside0 (w'.heap[gb280]? = some (.cells #[.int .i64 0, .int .i64 0, (.slice none 0 0)] 26 (0, 0))) ∧ Aside0 (w'.heap[gb281]? = some (.cells #[.int .i64 a0, .int .i64 a1, u282002] 26 (0, 0))) ∧ Aside0 (Below w.heap.size w w'))
 case atStart => exact ⟨(0), (([] : List Int)), (.slice none 0 0), (by first | rfl | (simp; done) | (simp [*]; done)), H', ⟨Nat.le_refl _⟩, ⟨by first | exact Kd.R_nil _ _ _ _ _ | exact Kd.N_nil _ _ _ _ _ | exact Kd.V_nil _ _ _ _ _ | exact Kd.Q_nil _ _ _ _ _ | exact Kd.S_nil _ _ _ _ _⟩, ⟨bk_ BK279⟩, ⟨bk_ BK280⟩, ⟨bq_ BK281⟩, ⟨(bw_ w)⟩⟩
 case round =>
  clear H'
  try clear c1
  try clear c2
  try clear p2
  try clear c6
  try clear c7
  try clear hcz8_0
  try clear hcz8_1
  try clear hcz8_2
  try clear hfz8_0
  try clear hfz8_1
  try clear hfz8_2
  obtain ⟨x14_1, x282002_1, u282002, rfl, HA, HK1, HO_282002, BK279, BK280, BK281, HB⟩ := hrel
  cases gk with
  | zero => exact absurd HA.out (by simp [impl_makeChart__Chart_turned_1.l0])
  | succ k1 =>
   have H := HA.out
   clear HA
   simp only [impl_makeChart__Chart_turned_1.l0] at H
   by_cases c9 : x14_1 < a1
   ·rw [if_pos c9] at H
    have c9b0 : decide (x14_1 < a1) = true := decide_eq_true c9
    clear c9
    have H' := Aside0.mk H
    clear H
    go_wp2
    go_loopg [18] k1 (fun kq v18 w' => ∃ (x18_2 : Int) (x282002_2 : List Int) (u282002 : Value), v18 = .int .i64 x18_2 ∧ Aside0 (impl_makeChart__Chart_turned_1.l1 kq a0 x14_1 a1 x14_1 a0 x18_2 a2_0 a2_1 l2_2 a0 a1 x282002_2 = some (r1, r2, r3)) ∧ Aside0 (kq ≤ k1) ∧ Aside0 (Kd.R (Kd.int .i64) 3 w' w.heap.size (fun _ => True) u282002 x282002_2) ∧ Aside0 (w'.heap[gb279]? = some (.cells #[.int .i64 a2_0, .int .i64 a2_1, (.slice A2_2 l2_2.length c2_2)] 26 (0, 0))) ∧ Aside0 (w'.heap[gb280]? = some (.cells #[.int .i64 0, .int .i64 0, (.slice none 0 0)] 26 (0, 0))) ∧ Aside0 (w'.heap[gb281]? = some (.cells #[.int .i64 a0, .int .i64 a1, u282002] 26 (0, 0))) ∧ Aside0 (Below w.heap.size w w'))
    case atStart => exact ⟨(0), (x282002_1), (u282002), (by first | rfl | (simp; done) | (simp [*]; done)), H', ⟨Nat.le_refl _⟩, ⟨ra_ HO_282002⟩, ⟨bk_ BK279⟩, ⟨bk_ BK280⟩, ⟨bk_ BK281⟩, ⟨(bw_ w)⟩⟩
    case round =>
     clear H'
     try clear c1
     try clear c2
     try clear p2
     try clear c6
     try clear c7
     try clear c9
     try clear c9b0
     try clear hcz8_0
     try clear hcz8_1
     try clear hcz8_2
     try clear hfz8_0
     try clear hfz8_1
     try clear hfz8_2
     try clear p2
     obtain ⟨x18_2, x282002_2, u282002, rfl, HA, HK2, HO_282002, BK279, BK280, BK281, HB⟩ := hrel
     cases gk with
     | zero => exact absurd HA.out (by simp [impl_makeChart__Chart_turned_1.l1])
     | succ k2 =>
      have H := HA.out
      clear HA
      simp only [impl_makeChart__Chart_turned_1.l1] at H
      by_cases c10 : x18_2 < a0
      ·rw [if_pos c10] at H
       have c10b0 : decide (x18_2 < a0) = true := decide_eq_true c10
       clear c10
       replace H := Option.bind_eq_some_iff.mp H
       obtain ⟨t282, A110, H⟩ := H
       replace H : (if x282002_2.length < 17592186044416 then (impl_makeChart__Chart_turned_1.l1 k2 a0 x14_1 a1 x14_1 a0 (wrap64 (x18_2 + 1)) a2_0 a2_1 l2_2 a0 a1 (x282002_2 ++ [t282])) else (none)) = some (r1, r2, r3) := H
       have A11 := Aside0.mk A110
       clear A110
       by_cases c12 : x282002_2.length < 17592186044416
       ·rw [if_pos c12] at H
        have LMc12 := Aside0.mk c12
        clear c12
        obtain ⟨y283, hy283⟩ : ∃ y_ : List Int, y_ = (x282002_2 ++ [t282]) := ⟨_, rfl⟩
        replace H : (impl_makeChart__Chart_turned_1.l1 k2 a0 x14_1 a1 x14_1 a0 (wrap64 (x18_2 + 1)) a2_0 a2_1 l2_2 a0 a1 y283) = some (r1, r2, r3) := by first | (rw [hy283]; with_reducible exact H) | (have H2_ := (Option.bind_some _ _).symm.trans H; rw [hy283]; with_reducible exact H2_) | (have H2_ := (Option.bind_some _ _).symm.trans H; with_reducible exact H2_) | with_reducible exact H | (rw [hy283]; exact H) | exact H
        have Ny283 := Aside0.mk hy283
        clear hy283
        have H' := Aside0.mk H
        clear H
        try go_wp2
        replace HO_282002 := Aside0.mk (Kd.R_drew HO_282002.out)
        replace BK279 := Aside0.mk (blk_drew BK279.out)
        replace BK280 := Aside0.mk (blk_drew BK280.out)
        replace BK281 := Aside0.mk (blk_drew BK281.out)
        replace HB := Aside0.mk (below_drew1 HB.out)
        refine start_ (n := 10) (S := fun w' => w'.cell? ⟨gb281, 0, none⟩ = some (.int .i64 a0) ∧ w'.cell? ⟨gb281, 1, none⟩ = some (.int .i64 a1) ∧ w'.cell? ⟨gb281, 2, none⟩ = some (u282002)) (ds := [9]) #[false, false, false, false, false, false, false, false, false, false] (by kernel_rfl) rfl rfl ⟨bc_ BK281 0, bc_ BK281 1, bc_ BK281 2⟩ (fun hHeld => ?_); refine with_tabW impl_makeChart__Chart_turned_1.tab8 impl_makeChart__Chart_turned_1.bits8 (fun HT_ HW_ => ?_)
        generalize wr.drew = w13 at HO_282002 BK279 BK280 BK281 HB hHeld ⊢
        refine pureA (N := some 21) 0 HT_ ?_
        refine pureA (N := some 23) 2 HT_ ?_
        refine pureA (N := some 24) 3 HT_ ?_
        refine pureA (N := some 25) 4 HT_ ?_
        refine takeA (N := some 22) 1 HT_ HW_ hHeld ?_
        refine oneA (N := some 26) 5 HT_ (fun K hK => ?_)
        refine goesVr_ Try.func244 (by kernel_rfl) rfl #[.int .i64 x14_1, .int .i64 x18_2, .pointer (some ⟨gb279, 0, none⟩)] (by rfl) rfl rfl (by first | rfl | (simp [Act.eval]; done)) (by first | rfl | (simp [Act.eval]; done)) ?_
        with_reducible refine (impl_Chart_turned_1.calls x14_1 x18_2 gb279 a2_0 a2_1 A2_2 c2_2 l2_2 t282 _ ?side1 ?side2 ?side3 A11.out).mono ?_
        (case side1 => (with_reducible repeat (first | refine blk_drewN ?_ _ | refine blk_drew ?_ | refine blk_alloc ?_ _)); exact BK279.out)
        (case side2 => exact cb_ HR2_2 HB)
        (case side3 => exact HC2_2.out)
        rintro e w14 ⟨rfl, hb⟩
        refine ⟨_, rfl, ?_⟩
        replace HO_282002 := Aside0.mk (Kd.R_below (ra_ HO_282002) hb)
        replace BK279 := bb_ BK279 hb
        replace BK280 := bb_ BK280 hb
        replace BK281 := bb_ BK281 hb
        replace HB := Aside0.mk (below_step (bw_ w) hb)
        (try clear hb)
        (try clear hb2)
        (try clear hk)
        (try clear hi)
        refine hK.out _ _ ⟨bc_ BK281 0, bc_ BK281 1, bc_ BK281 2⟩ (fun hHeld => ?_)
        clear hK K
        refine normA (N := some 26) ?_
        refine oneA (N := some 27) 6 HT_ (fun K hK => ?_)
        refine value_ (w1 := ?_) (v := ?_) (by rfl) rfl ?_ ?_
        rotate_left 2
        ·go_simp
         constructor
         ·rfl
         ·rfl
        refine hK.out _ _ ⟨(blk_cell (blk_alloc BK281.out _) 0).trans rfl, (blk_cell (blk_alloc BK281.out _) 1).trans rfl, (blk_cell (blk_alloc BK281.out _) 2).trans rfl⟩ (fun hHeld => ?_)
        clear hK K
        refine normA (N := some 27) ?_
        refine oneA (N := some 28) 7 HT_ (fun K hK => ?_)
        refine Kd.R_append_step (Kd.int .i64) (w0 := w) w.heap.size (by rfl) (.tmp 22) (.tmp 27) 22 3 (.int .i64 0) 8 rfl Try.underlying22 info3 rfl (by decide) (by omega) u282002 x282002_2 t282 [.int .i64 t282] (fun _ => True) (fun _ => False) rfl rfl ?aP (fun _ hk => hk.elim) ?aF ?aO ?aB ?aS ?aL ?_
        (case aP => exact rfl)
        (case aB => exact (bw_ w))
        (case aF => exact (fun _ _ => trivial))
        (case aO => exact (ra_ HO_282002))
        (case aS => exact (below_size (bw_ w)))
        (case aL => have := LMc12.out; omega)
        intro v284 w15 ho hb hg hat
        rw [← Ny283.out] at ho
        replace BK279 := Aside0.mk (blk_grown (g := gb279) (o := .cells #[.int .i64 a2_0, .int .i64 a2_1, .slice A2_2 l2_2.length c2_2] 26 (0, 0)) (bk_ BK279) hg (Kd.R_ne HO_282002.out BK279.out (by decide)))
        replace BK280 := Aside0.mk (blk_grown (g := gb280) (o := .cells #[.int .i64 0, .int .i64 0, .slice none 0 0] 26 (0, 0)) (bk_ BK280) hg (Kd.R_ne HO_282002.out BK280.out (by decide)))
        replace BK281 := Aside0.mk (blk_grown (g := gb281) (o := .cells #[.int .i64 a0, .int .i64 a1, u282002] 26 (0, 0)) (bk_ BK281) hg (Kd.R_ne HO_282002.out BK281.out (by decide)))
        have HO285 := Aside0.mk (ho)
        replace HB := Aside0.mk (hb)
        clear HO_282002
        clear ho hb hg hat
        obtain ⟨Ao16, co16, eo16⟩ := Kd.R_slice HO285.out
        (first | subst eo16 | (injection eo16 with f1_ f2_ f3_; have f4_ := f1_.symm; have f5_ := f3_.symm; clear f1_ f2_ f3_; subst f4_; subst f5_))
        refine hK.out _ _ ⟨bc_ BK281 0, bc_ BK281 1, bc_ BK281 2⟩ (fun hHeld => ?_)
        clear hK K
        refine normA (N := some 28) ?_
        refine pureA (N := some 29) 8 HT_ ?_
        refine lastA (N := none) 9 HT_ (fun K hK => ?_)
        have hs17 : w15.cell? ⟨gb281, 2, none⟩ = some (u282002) := bc_ BK281 2
        have hfs17 := blk_frozen BK281.out 2
        have hns17_0 := NB279_281.out
        have hns17_1 := NB280_281.out
        have hms17_0 := NB281_279.out
        have hms17_1 := NB281_280.out
        refine skip_ (w1 := ?_) (by rfl) rfl ?_ ?_
        rotate_left
        ·go_simp
         rfl
        refine hK.out _ _ ?_
        clear hK K
        refine done_ (done_of HT_.out (by kernel_rfl)) ?_
        try go_wp2
        go_roundg k2
        case measure => have := HK1.out; have := HK2.out; omega
        case rel => exact ⟨(wrap64 (x18_2 + 1)), (y283), (.slice Ao16 y283.length co16), (by first | rfl | (simp; done) | (simp [*]; done)), H', ⟨by have := HK1.out; have := HK2.out; omega⟩, ⟨by exact rf_ (Kd.R_types HO285.out BK281.out (by decide)) (fun _ hk => trivial)⟩, ⟨bk_ BK279⟩, ⟨bk_ BK280⟩, ⟨bq_ BK281⟩, ⟨(bw_ w)⟩⟩
       ·rw [if_neg c12] at H
        exact absurd H (by simp)
      ·rw [if_neg c10] at H
       have c10b0 : decide (x18_2 < a0) = false := decide_eq_false c10
       clear c10
       have H' := Aside0.mk H
       clear H
       go_wp2
       go_roundg k2
       case measure => have := HK1.out; have := HK2.out; omega
       case rel => exact ⟨(wrap64 (x14_1 + 1)), (x282002_2), (u282002), (by first | rfl | (simp; done) | (simp [*]; done)), H', ⟨by have := HK1.out; have := HK2.out; omega⟩, ⟨ra_ HO_282002⟩, ⟨bk_ BK279⟩, ⟨bk_ BK280⟩, ⟨bk_ BK281⟩, ⟨(bw_ w)⟩⟩
   ·rw [if_neg c9] at H
    have c9b0 : decide (x14_1 < a1) = false := decide_eq_false c9
    clear c9
    simp only [Option.some.injEq, Prod.mk.injEq] at H
    obtain ⟨rfl, rfl, rfl⟩ := H
    have hnb18 := NB281_279.out
    have hnc18 := NB279_281.out
    have hnb19 := NB281_280.out
    have hnc19 := NB280_281.out
    obtain ⟨hcz20_0, hcz20_1, hcz20_2, hfz20_0, hfz20_1, hfz20_2⟩ := bc3_ (w := wr) BK281
    have hnb21 := NB280_279.out
    have hnc21 := NB279_280.out
    obtain ⟨hcz22_0, hcz22_1, hcz22_2, hfz22_0, hfz22_1, hfz22_2⟩ := bc3_ (w := wr) BK280
    obtain ⟨Ao23, co23, eo23⟩ := Kd.R_slice HO_282002.out
    subst eo23
    go_wp2
    refine bodyPost_ret (results_cell_row rfl _ _ gb280 26 #[.int .i64 a0, .int .i64 a1, .slice Ao23 x282002_1.length co23] (0, 0) _ rfl (bq_ BK280) Try.underlying26 rfl (by kernel_rfl)) rfl ?_
    exact ⟨_, by first | rfl | (simp [errW_none, errW_some] <;> rfl) | (simp [*, errW_none, errW_some] <;> rfl), by exact rf_ (Kd.R_types HO_282002.out BK280.out (by decide)) (fun _ hk => trivial), (bw_ w)⟩

/-! ### impl_Chart_turned: function 200 -/
def impl_Chart_turned.f (k : Nat) (a0_0 : Int) (a0_1 : Int) (l0_2 : List Int) : Option (Int × Int × List Int) := (impl_makeChart__Chart_turned_1.f k a0_1 a0_0 a0_0 a0_1 l0_2).bind fun bt288 => (some (bt288.1, bt288.2.1, bt288.2.2))
theorem impl_Chart_turned.mono : ∀ a0 a1 a2 k, LeO (impl_Chart_turned.f k a0 a1 a2) (impl_Chart_turned.f (k + 1) a0 a1 a2) := by
  intro a0 a1 a2 k
  unfold impl_Chart_turned.f
  repeat' first
      | (with_reducible exact impl_makeChart__Chart_turned_1.mono _ _ _ _ _ _)
      | (with_reducible exact LeO.refl _)
      | (with_reducible exact LeO.none _)
      | (with_reducible refine LeO.ite ?_ ?_)
      | (with_reducible refine LeO.bind ?_ (fun _ => ?_))
      | exact impl_makeChart__Chart_turned_1.mono _ _ _ _ _ _
      | exact LeO.none _
      | refine LeO.ite ?_ ?_
      | refine LeO.bind ?_ (fun _ => ?_)
set_option maxHeartbeats 8000000 in
set_option maxRecDepth 100000 in
theorem impl_Chart_turned.calls (k : Nat) (a0_0 : Int) (a0_1 : Int) (A0_2 : Option Addr) (c0_2 : Nat) (l0_2 : List Int) (r1 : Int) (r2 : Int) (r3 : List Int) (w : World) (hr0_2 : Kd.C (Kd.int .i64) w A0_2 l0_2.length l0_2) (hc0_2 : l0_2.length ≤ c0_2) (h : impl_Chart_turned.f k a0_0 a0_1 l0_2 = some (r1, r2, r3)) :
  Calls Try.prog 200 #[.agg #[.int .i64 a0_0, .int .i64 a0_1, .slice A0_2 l0_2.length c0_2]] w fun e w' => ∃ v2_ : Value, e = .returned (.agg #[.int .i64 r1, .int .i64 r2, v2_]) ∧ Kd.R (Kd.int .i64) 3 w' w.heap.size (fun _ => True) v2_ r3 ∧ Below w.heap.size w w' := by
 have hu26 := Try.underlying26
 have hmf_ : ∀ (f_ : Fn) (a_ b_ : Array Value) (W_ : World), (Instr.makeFunc f_ a_ b_).run Try.prog W_ = .ok (.func f_ a_ b_) W_ := fun _ _ _ _ => rfl
 have HR0_2 := Aside0.mk hr0_2
 have HC0_2 := Aside0.mk hc0_2
 clear hr0_2 hc0_2
 have HB := Aside0.mk (Below.refl w.heap.size w)
 have H : ((impl_makeChart__Chart_turned_1.f k a0_1 a0_0 a0_0 a0_1 l0_2).bind fun bt288 => (some (bt288.1, bt288.2.1, bt288.2.2))) = some (r1, r2, r3) := h
 clear h
 replace H := Option.bind_eq_some_iff.mp H
 obtain ⟨⟨t288, t289, t290⟩, A20, H⟩ := H
 replace H : (some (t288, t289, t290)) = some (r1, r2, r3) := H
 have A2 := Aside0.mk A20
 clear A20
 simp only [Option.some.injEq, Prod.mk.injEq] at H
 obtain ⟨rfl, rfl, rfl⟩ := H
 go_enter Try.func200, Try.ntmps200
 go_wp2_with (first | ((with_reducible refine gate_dst (N := 1) rfl ?_); refine box_ (N := 1) (cs := #[.int .i64 a0_0, .int .i64 a0_1, .slice A0_2 l0_2.length c0_2]) (t := 26) ?_; intro gb286 hg w3 hbox hb; have BK286 := Aside0.mk (hbox); have GW286 := gz_ w hg; have GE286 := gz_ w hg; replace HB := Aside0.mk (below_step (bw_ w) hb); clear hb hbox hg) | ((with_reducible refine gate_dst (N := 2) rfl ?_); refine box_ (N := 2) (cs := #[.int .i64 0, .int .i64 0, .slice none 0 0]) (t := 26) ?_; intro gb287 hg w4 hbox hb; have n0_ := bb_ BK286 hb; have n1_ := Aside0.mk (below_step (bw_ w) hb); have n2_ := Aside0.mk (hbox); have n3_ := gz_ w hg; have n4_ := gz_ w hg; have n5_ := ne_ hg BK286; have n6_ := en_ hg BK286; clear BK286; clear HB; have BK286 := n0_; have HB := n1_; have BK287 := n2_; have GW287 := n3_; have GE287 := n4_; have NB286_287 := n5_; have NB287_286 := n6_; clear n0_ n1_ n2_ n3_ n4_ n5_ n6_; clear hb hbox hg; have hnb5 := NB286_287.out; have hnc5 := NB287_286.out; obtain ⟨hcz6_0, hcz6_1, hcz6_2, hfz6_0, hfz6_1, hfz6_2⟩ := bc3_ (w := w4) BK286) | ((with_reducible refine gate_callee (f := 178) rfl ?_); refine goesB (some 8) Try.func178 #[.int .i64 a0_1, .int .i64 a0_0, (.func (.func 244) #[] #[.pointer (some ⟨gb286, 0, none⟩)])] ?_; (with_reducible refine (impl_makeChart__Chart_turned_1.calls k a0_1 a0_0 gb286 a0_0 a0_1 A0_2 c0_2 l0_2 t288 t289 t290 _ ?side1 ?side2 ?side3 A2.out).mono ?_); (case side1 => (with_reducible repeat (first | refine blk_drewN ?_ _ | refine blk_drew ?_ | refine blk_alloc ?_ _)); exact BK286.out); (case side2 => exact cb_ HR0_2 HB); (case side3 => exact HC0_2.out); rintro e w7 ⟨v291, rfl, ho0, hb⟩; refine ⟨_, rfl, ?_⟩; have HO292 := Aside0.mk (Kd.R_lower ho0 (below_size (bw_ w))); replace BK286 := bb_ BK286 hb; replace BK287 := bb_ BK287 hb; replace HB := Aside0.mk (below_step (bw_ w) hb); (try clear hb); (try clear hb2); (try clear hk); (try clear hi); (try clear ho0); obtain ⟨hcz8_0, hcz8_1, hcz8_2, hfz8_0, hfz8_1, hfz8_2⟩ := bc3_ (w := w7) BK287; obtain ⟨Ao9, co9, eo9⟩ := Kd.R_slice HO292.out; subst eo9))
 refine bodyPost_ret (results_cell_row rfl _ _ gb287 26 #[.int .i64 t288, .int .i64 t289, .slice Ao9 t290.length co9] (0, 0) _ rfl (bq_ BK287) Try.underlying26 rfl (by kernel_rfl)) rfl ?_
 exact ⟨_, by first | rfl | (simp [errW_none, errW_some] <;> rfl) | (simp [*, errW_none, errW_some] <;> rfl), by exact rf_ (Kd.R_types HO292.out BK287.out (by decide)) (fun _ hk => trivial), (bw_ w)⟩

/-! ### impl_Chart_mirrored_1: function 248 -/
def impl_Chart_mirrored_1.f (a0 : Int) (a1 : Int) (a2_0 : Int) (a2_1 : Int) (l2_2 : List Int) : Option (Int) := (impl_Chart_at.f a2_0 a2_1 l2_2 a0 (wrap64 ((wrap64 (a2_0 - 1)) - a1))).bind fun t299 => (some t299)
set_option maxHeartbeats 8000000 in
set_option maxRecDepth 100000 in
theorem impl_Chart_mirrored_1.calls (a0 : Int) (a1 : Int) (gb298 : Nat) (a2_0 : Int) (a2_1 : Int) (A2_2 : Option Addr) (c2_2 : Nat) (l2_2 : List Int) (r : Int) (w : World) (hb298 : w.heap[gb298]? = some (.cells #[.int .i64 a2_0, .int .i64 a2_1, .slice A2_2 l2_2.length c2_2] 26 (0, 0))) (hr2_2 : Kd.C (Kd.int .i64) w A2_2 l2_2.length l2_2) (hc2_2 : l2_2.length ≤ c2_2) (h : impl_Chart_mirrored_1.f a0 a1 a2_0 a2_1 l2_2 = some r) :
  Calls Try.prog 248 #[.int .i64 a0, .int .i64 a1, .pointer (some ⟨gb298, 0, none⟩)] w fun e w' => e = .returned (.int .i64 r) ∧ Below w.heap.size w w' := by
 have hu26 := Try.underlying26
 have HR2_2 := Aside0.mk hr2_2
 have HC2_2 := Aside0.mk hc2_2
 clear hr2_2 hc2_2
 have BK298 := Aside0.mk hb298
 clear hb298
 have HB := Aside0.mk (Below.refl w.heap.size w)
 have H : ((impl_Chart_at.f a2_0 a2_1 l2_2 a0 (wrap64 ((wrap64 (a2_0 - 1)) - a1))).bind fun t299 => (some t299)) = some r := h
 clear h
 replace H := Option.bind_eq_some_iff.mp H
 obtain ⟨t299, A40, H⟩ := H
 replace H : (some t299) = some r := H
 have A4 := Aside0.mk A40
 clear A40
 obtain rfl := Option.some.inj H
 obtain ⟨hcz5_0, hcz5_1, hcz5_2, hfz5_0, hfz5_1, hfz5_2⟩ := bc3_ (w := w) BK298
 go_enter Try.func248, Try.ntmps248
 go_wp2_with (first | ((with_reducible refine gate_callee (f := 171) rfl ?_); refine goesB (some 13) Try.func171 #[.agg #[.int .i64 a2_0, .int .i64 a2_1, .slice A2_2 l2_2.length c2_2], .int .i64 a0, .int .i64 (wrap64 ((wrap64 (a2_0 - 1)) - a1))] ?_; (with_reducible refine (impl_Chart_at.calls a2_0 a2_1 _ _ l2_2 a0 (wrap64 ((wrap64 (a2_0 - 1)) - a1)) t299 _ ?side1 ?side2 A4.out).mono ?_); (case side1 => repeat (first | exact HR2_2.out | (with_reducible refine Kd.C_alloc ?_ _) | (with_reducible refine Kd.C_drewN ?_ _) | (with_reducible refine Kd.C_drew ?_))); (case side2 => exact HC2_2.out); rintro e w6 ⟨rfl, hb⟩; refine ⟨_, rfl, ?_⟩; replace BK298 := bb_ BK298 hb; replace HB := Aside0.mk (below_step (bw_ w) hb); (try clear hb); (try clear hb2); (try clear hk); (try clear hi)))
 go_ret
 exact ⟨by first | rfl | (simp [errW_none, errW_some] <;> rfl) | (simp [*, errW_none, errW_some] <;> rfl), (bw_ w)⟩

/-! ### impl_makeChart__Chart_mirrored_1: function 178 -/
mutual
def impl_makeChart__Chart_mirrored_1.l0 : Nat → Int → Int → Int → Int → Int → List Int → Int → Int → List Int → Option (Int × Int × List Int)
  | 0, _, _, _, _, _, _, _, _, _ => none
  | k + 1, x0, x13, x14, x301000, x301001, x301002, x303000, x303001, x303002 => if x14 < x13 then (impl_makeChart__Chart_mirrored_1.l1 k x0 x14 x13 x14 x0 0 x301000 x301001 x301002 x303000 x303001 x303002) else (some (x303000, x303001, x303002))
def impl_makeChart__Chart_mirrored_1.l1 : Nat → Int → Int → Int → Int → Int → Int → Int → Int → List Int → Int → Int → List Int → Option (Int × Int × List Int)
  | 0, _, _, _, _, _, _, _, _, _, _, _, _ => none
  | k + 1, x0, x8, x13, x14, x17, x18, x301000, x301001, x301002, x303000, x303001, x303002 => if x18 < x17 then ((impl_Chart_mirrored_1.f x8 x18 x301000 x301001 x301002).bind fun t303 => (if x303002.length < 17592186044416 then (impl_makeChart__Chart_mirrored_1.l1 k x0 x8 x13 x14 x17 (wrap64 (x18 + 1)) x301000 x301001 x301002 x303000 x303001 (x303002 ++ [t303])) else (none))) else (impl_makeChart__Chart_mirrored_1.l0 k x0 x13 (wrap64 (x14 + 1)) x301000 x301001 x301002 x303000 x303001 x303002)
end
def impl_makeChart__Chart_mirrored_1.f (k : Nat) (a0 : Int) (a1 : Int) (a2_0 : Int) (a2_1 : Int) (l2_2 : List Int) : Option (Int × Int × List Int) := impl_makeChart__Chart_mirrored_1.l0 k a0 a1 0 a2_0 a2_1 l2_2 a0 a1 ([] : List Int)
theorem impl_makeChart__Chart_mirrored_1.mono_l : ∀ k, (∀ y0 y1 y2 y3 y4 y5 y6 y7 y8, LeO (impl_makeChart__Chart_mirrored_1.l0 k y0 y1 y2 y3 y4 y5 y6 y7 y8) (impl_makeChart__Chart_mirrored_1.l0 (k + 1) y0 y1 y2 y3 y4 y5 y6 y7 y8)) ∧ (∀ y0 y1 y2 y3 y4 y5 y6 y7 y8 y9 y10 y11, LeO (impl_makeChart__Chart_mirrored_1.l1 k y0 y1 y2 y3 y4 y5 y6 y7 y8 y9 y10 y11) (impl_makeChart__Chart_mirrored_1.l1 (k + 1) y0 y1 y2 y3 y4 y5 y6 y7 y8 y9 y10 y11))
  | 0 => ⟨fun _ _ _ _ _ _ _ _ _ r h => by simp [impl_makeChart__Chart_mirrored_1.l0] at h, fun _ _ _ _ _ _ _ _ _ _ _ _ r h => by simp [impl_makeChart__Chart_mirrored_1.l1] at h⟩
  | k + 1 => by
    obtain ⟨ih0, ih1⟩ := impl_makeChart__Chart_mirrored_1.mono_l k
    refine ⟨?_, ?_⟩
    · intro y0 y1 y2 y3 y4 y5 y6 y7 y8
      unfold impl_makeChart__Chart_mirrored_1.l0
      repeat' first
      | (with_reducible exact ih0 _ _ _ _ _ _ _ _ _)
      | (with_reducible exact ih1 _ _ _ _ _ _ _ _ _ _ _ _)
      | (with_reducible exact LeO.refl _)
      | (with_reducible exact LeO.none _)
      | (with_reducible refine LeO.ite ?_ ?_)
      | (with_reducible refine LeO.bind ?_ (fun _ => ?_))
      | exact ih0 _ _ _ _ _ _ _ _ _
      | exact ih1 _ _ _ _ _ _ _ _ _ _ _ _
      | exact LeO.none _
      | refine LeO.ite ?_ ?_
      | refine LeO.bind ?_ (fun _ => ?_)
    · intro y0 y1 y2 y3 y4 y5 y6 y7 y8 y9 y10 y11
      unfold impl_makeChart__Chart_mirrored_1.l1
      repeat' first
      | (with_reducible exact ih0 _ _ _ _ _ _ _ _ _)
      | (with_reducible exact ih1 _ _ _ _ _ _ _ _ _ _ _ _)
      | (with_reducible exact LeO.refl _)
      | (with_reducible exact LeO.none _)
      | (with_reducible refine LeO.ite ?_ ?_)
      | (with_reducible refine LeO.bind ?_ (fun _ => ?_))
      | exact ih0 _ _ _ _ _ _ _ _ _
      | exact ih1 _ _ _ _ _ _ _ _ _ _ _ _
      | exact LeO.none _
      | refine LeO.ite ?_ ?_
      | refine LeO.bind ?_ (fun _ => ?_)
theorem impl_makeChart__Chart_mirrored_1.mono : ∀ a0 a1 a2 a3 a4 k, LeO (impl_makeChart__Chart_mirrored_1.f k a0 a1 a2 a3 a4) (impl_makeChart__Chart_mirrored_1.f (k + 1) a0 a1 a2 a3 a4) := by
  intro a0 a1 a2 a3 a4 k
  obtain ⟨ih0, ih1⟩ := impl_makeChart__Chart_mirrored_1.mono_l k
  unfold impl_makeChart__Chart_mirrored_1.f
  repeat' first
      | (with_reducible exact ih0 _ _ _ _ _ _ _ _ _)
      | (with_reducible exact ih1 _ _ _ _ _ _ _ _ _ _ _ _)
      | (with_reducible exact LeO.refl _)
      | (with_reducible exact LeO.none _)
      | (with_reducible refine LeO.ite ?_ ?_)
      | (with_reducible refine LeO.bind ?_ (fun _ => ?_))
      | exact ih0 _ _ _ _ _ _ _ _ _
      | exact ih1 _ _ _ _ _ _ _ _ _ _ _ _
      | exact LeO.none _
      | refine LeO.ite ?_ ?_
      | refine LeO.bind ?_ (fun _ => ?_)
def impl_makeChart__Chart_mirrored_1.T8 : Bool × List (List Nat × List Nat) := (true, [([], []), ([0], [0]), ([], []), ([], []), ([], []), ([2, 3, 4], [2, 3, 4]), ([5], [5]), ([1, 6, 5], [1, 6]), ([0, 1, 2, 3, 4, 5, 6, 7], []), ([8, 7, 7, 0, 1, 2, 3, 4, 5, 6, 7], [7, 8])])
def impl_makeChart__Chart_mirrored_1.B8 : List Nat := [0, 1, 0, 0, 0, 28, 60, 127, 255, 511]
theorem impl_makeChart__Chart_mirrored_1.tab8 : rtab .any (opsOf Try.f178 8) = impl_makeChart__Chart_mirrored_1.T8 := by kernel_rfl
theorem impl_makeChart__Chart_mirrored_1.bits8 : waitsOk impl_makeChart__Chart_mirrored_1.T8.2 impl_makeChart__Chart_mirrored_1.B8 = true := by kernel_rfl
set_option maxHeartbeats 8000000 in
set_option maxRecDepth 100000 in
theorem impl_makeChart__Chart_mirrored_1.calls (k : Nat) (a0 : Int) (a1 : Int) (gb300 : Nat) (a2_0 : Int) (a2_1 : Int) (A2_2 : Option Addr) (c2_2 : Nat) (l2_2 : List Int) (r1 : Int) (r2 : Int) (r3 : List Int) (w : World) (hb300 : w.heap[gb300]? = some (.cells #[.int .i64 a2_0, .int .i64 a2_1, .slice A2_2 l2_2.length c2_2] 26 (0, 0))) (hr2_2 : Kd.C (Kd.int .i64) w A2_2 l2_2.length l2_2) (hc2_2 : l2_2.length ≤ c2_2) (h : impl_makeChart__Chart_mirrored_1.f k a0 a1 a2_0 a2_1 l2_2 = some (r1, r2, r3)) :
  Calls Try.prog 178 #[.int .i64 a0, .int .i64 a1, (.func (.func 248) #[] #[.pointer (some ⟨gb300, 0, none⟩)])] w fun e w' => ∃ v2_ : Value, e = .returned (.agg #[.int .i64 r1, .int .i64 r2, v2_]) ∧ Kd.R (Kd.int .i64) 3 w' w.heap.size (fun _ => True) v2_ r3 ∧ Below w.heap.size w w' := by
 have hu26 := Try.underlying26
 have HR2_2 := Aside0.mk hr2_2
 have HC2_2 := Aside0.mk hc2_2
 clear hr2_2 hc2_2
 have BK300 := Aside0.mk hb300
 clear hb300
 have HB := Aside0.mk (Below.refl w.heap.size w)
 have H : (impl_makeChart__Chart_mirrored_1.l0 k a0 a1 0 a2_0 a2_1 l2_2 a0 a1 ([] : List Int)) = some (r1, r2, r3) := h
 clear h
 have H' := Aside0.mk H
 clear H
 go_enter Try.func178, Try.ntmps178
 go_wp2_with (first | ((with_reducible refine gate_dst (N := 6) rfl ?_); refine box_ (N := 6) (cs := #[.int .i64 0, .int .i64 0, .slice none 0 0]) (t := 26) ?_; intro gb301 hg w4 hbox hb; have n0_ := bb_ BK300 hb; have n1_ := Aside0.mk (below_step (bw_ w) hb); have n2_ := Aside0.mk (hbox); have n3_ := gz_ w hg; have n4_ := gz_ w hg; have n5_ := ne_ hg BK300; have n6_ := en_ hg BK300; clear BK300; clear HB; have BK300 := n0_; have HB := n1_; have BK301 := n2_; have GW301 := n3_; have GE301 := n4_; have NB300_301 := n5_; have NB301_300 := n6_; clear n0_ n1_ n2_ n3_ n4_ n5_ n6_; clear hb hbox hg) | ((with_reducible refine gate_dst (N := 7) rfl ?_); refine box_ (N := 7) (cs := #[.int .i64 0, .int .i64 0, .slice none 0 0]) (t := 26) ?_; intro gb302 hg w5 hbox hb; have n0_ := bb_ BK300 hb; have n1_ := bb_ BK301 hb; have n2_ := Aside0.mk (below_step (bw_ w) hb); have n3_ := Aside0.mk (hbox); have n4_ := gz_ w hg; have n5_ := gz_ w hg; have n6_ := ne_ hg BK300; have n7_ := en_ hg BK300; have n8_ := ne_ hg BK301; have n9_ := en_ hg BK301; clear BK300; clear BK301; clear HB; have BK300 := n0_; have BK301 := n1_; have HB := n2_; have BK302 := n3_; have GW302 := n4_; have GE302 := n5_; have NB300_302 := n6_; have NB302_300 := n7_; have NB301_302 := n8_; have NB302_301 := n9_; clear n0_ n1_ n2_ n3_ n4_ n5_ n6_ n7_ n8_ n9_; clear hb hbox hg; have hnb6 := NB302_300.out; have hnc6 := NB300_302.out; have hnb7 := NB302_301.out; have hnc7 := NB301_302.out; obtain ⟨hcz8_0, hcz8_1, hcz8_2, hfz8_0, hfz8_1, hfz8_2⟩ := bc3_ (w := w5) BK302))
 go_loopg [14] k (fun kq v14 w' => ∃ (x14_1 : Int) (x303002_1 : List Int) (u303002 : Value), v14 = .int .i64 x14_1 ∧ Aside0 (impl_makeChart__Chart_mirrored_1.l0 kq a0 a1 x14_1 a2_0 a2_1 l2_2 a0 a1 x303002_1 = some (r1, r2, r3)) ∧ Aside0 (kq ≤ k) ∧ Aside0 (Kd.R (Kd.int .i64) 3 w' w.heap.size (fun _ => True) u303002 x303002_1) ∧ Aside0 (w'.heap[gb300]? = some (.cells #[.int .i64 a2_0, .int .i64 a2_1, (.slice A2_2 l2_2.length c2_2)] 26 (0, 0))) ∧ Aside0 (w'.heap[gb301]? = some (.cells #[.int .i64 0, .int .i64 0, (.slice none 0 0)] 26 (0, 0))) ∧ Aside0 (w'.heap[gb302]? = some (.cells #[.int .i64 a0, .int .i64 a1, u303002] 26 (0, 0))) ∧ Aside0 (Below w.heap.size w w'))
 case atStart => exact ⟨(0), (([] : List Int)), (.slice none 0 0), (by first | rfl | (simp; done) | (simp [*]; done)), H', ⟨Nat.le_refl _⟩, ⟨by first | exact Kd.R_nil _ _ _ _ _ | exact Kd.N_nil _ _ _ _ _ | exact Kd.V_nil _ _ _ _ _ | exact Kd.Q_nil _ _ _ _ _ | exact Kd.S_nil _ _ _ _ _⟩, ⟨bk_ BK300⟩, ⟨bk_ BK301⟩, ⟨bq_ BK302⟩, ⟨(bw_ w)⟩⟩
 case round =>
  clear H'
  try clear c1
  try clear c2
  try clear p2
  try clear c6
  try clear c7
  try clear hcz8_0
  try clear hcz8_1
  try clear hcz8_2
  try clear hfz8_0
  try clear hfz8_1
  try clear hfz8_2
  obtain ⟨x14_1, x303002_1, u303002, rfl, HA, HK1, HO_303002, BK300, BK301, BK302, HB⟩ := hrel
  cases gk with
  | zero => exact absurd HA.out (by simp [impl_makeChart__Chart_mirrored_1.l0])
  | succ k1 =>
   have H := HA.out
   clear HA
   simp only [impl_makeChart__Chart_mirrored_1.l0] at H
   by_cases c9 : x14_1 < a1
   ·rw [if_pos c9] at H
    have c9b0 : decide (x14_1 < a1) = true := decide_eq_true c9
    clear c9
    have H' := Aside0.mk H
    clear H
    go_wp2
    go_loopg [18] k1 (fun kq v18 w' => ∃ (x18_2 : Int) (x303002_2 : List Int) (u303002 : Value), v18 = .int .i64 x18_2 ∧ Aside0 (impl_makeChart__Chart_mirrored_1.l1 kq a0 x14_1 a1 x14_1 a0 x18_2 a2_0 a2_1 l2_2 a0 a1 x303002_2 = some (r1, r2, r3)) ∧ Aside0 (kq ≤ k1) ∧ Aside0 (Kd.R (Kd.int .i64) 3 w' w.heap.size (fun _ => True) u303002 x303002_2) ∧ Aside0 (w'.heap[gb300]? = some (.cells #[.int .i64 a2_0, .int .i64 a2_1, (.slice A2_2 l2_2.length c2_2)] 26 (0, 0))) ∧ Aside0 (w'.heap[gb301]? = some (.cells #[.int .i64 0, .int .i64 0, (.slice none 0 0)] 26 (0, 0))) ∧ Aside0 (w'.heap[gb302]? = some (.cells #[.int .i64 a0, .int .i64 a1, u303002] 26 (0, 0))) ∧ Aside0 (Below w.heap.size w w'))
    case atStart => exact ⟨(0), (x303002_1), (u303002), (by first | rfl | (simp; done) | (simp [*]; done)), H', ⟨Nat.le_refl _⟩, ⟨ra_ HO_303002⟩, ⟨bk_ BK300⟩, ⟨bk_ BK301⟩, ⟨bk_ BK302⟩, ⟨(bw_ w)⟩⟩
    case round =>
     clear H'
     try clear c1
     try clear c2
     try clear p2
     try clear c6
     try clear c7
     try clear c9
     try clear c9b0
     try clear hcz8_0
     try clear hcz8_1
     try clear hcz8_2
     try clear hfz8_0
     try clear hfz8_1
     try clear hfz8_2
     try clear p2
     obtain ⟨x18_2, x303002_2, u303002, rfl, HA, HK2, HO_303002, BK300, BK301, BK302, HB⟩ := hrel
     cases gk with
     | zero => exact absurd HA.out (by simp [impl_makeChart__Chart_mirrored_1.l1])
     | succ k2 =>
      have H := HA.out
      clear HA
      simp only [impl_makeChart__Chart_mirrored_1.l1] at H
      by_cases c10 : x18_2 < a0
      ·rw [if_pos c10] at H
       have c10b0 : decide (x18_2 < a0) = true := decide_eq_true c10
       clear c10
       replace H := Option.bind_eq_some_iff.mp H
       obtain ⟨t303, A110, H⟩ := H
       replace H : (if x303002_2.length < 17592186044416 then (impl_makeChart__Chart_mirrored_1.l1 k2 a0 x14_1 a1 x14_1 a0 (wrap64 (x18_2 + 1)) a2_0 a2_1 l2_2 a0 a1 (x303002_2 ++ [t303])) else (none)) = some (r1, r2, r3) := H
       have A11 := Aside0.mk A110
       clear A110
       by_cases c12 : x303002_2.length < 17592186044416
       ·rw [if_pos c12] at H
        have LMc12 := Aside0.mk c12
        clear c12
        obtain ⟨y304, hy304⟩ : ∃ y_ : List Int, y_ = (x303002_2 ++ [t303]) := ⟨_, rfl⟩
        replace H : (impl_makeChart__Chart_mirrored_1.l1 k2 a0 x14_1 a1 x14_1 a0 (wrap64 (x18_2 + 1)) a2_0 a2_1 l2_2 a0 a1 y304) = some (r1, r2, r3) := by first | (rw [hy304]; with_reducible exact H) | (have H2_ := (Option.bind_some _ _).symm.trans H; rw [hy304]; with_reducible exact H2_) | (have H2_ := (Option.bind_some _ _).symm.trans H; with_reducible exact H2_) | with_reducible exact H | (rw [hy304]; exact H) | exact H
        have Ny304 := Aside0.mk hy304
        clear hy304
        have H' := Aside0.mk H
        clear H
        try go_wp2
        replace HO_303002 := Aside0.mk (Kd.R_drew HO_303002.out)
        replace BK300 := Aside0.mk (blk_drew BK300.out)
        replace BK301 := Aside0.mk (blk_drew BK301.out)
        replace BK302 := Aside0.mk (blk_drew BK302.out)
        replace HB := Aside0.mk (below_drew1 HB.out)
        refine start_ (n := 10) (S := fun w' => w'.cell? ⟨gb302, 0, none⟩ = some (.int .i64 a0) ∧ w'.cell? ⟨gb302, 1, none⟩ = some (.int .i64 a1) ∧ w'.cell? ⟨gb302, 2, none⟩ = some (u303002)) (ds := [9]) #[false, false, false, false, false, false, false, false, false, false] (by kernel_rfl) rfl rfl ⟨bc_ BK302 0, bc_ BK302 1, bc_ BK302 2⟩ (fun hHeld => ?_); refine with_tabW impl_makeChart__Chart_mirrored_1.tab8 impl_makeChart__Chart_mirrored_1.bits8 (fun HT_ HW_ => ?_)
        generalize wr.drew = w13 at HO_303002 BK300 BK301 BK302 HB hHeld ⊢
        refine pureA (N := some 21) 0 HT_ ?_
        refine pureA (N := some 23) 2 HT_ ?_
        refine pureA (N := some 24) 3 HT_ ?_
        refine pureA (N := some 25) 4 HT_ ?_
        refine takeA (N := some 22) 1 HT_ HW_ hHeld ?_
        refine oneA (N := some 26) 5 HT_ (fun K hK => ?_)
        refine goesVr_ Try.func248 (by kernel_rfl) rfl #[.int .i64 x14_1, .int .i64 x18_2, .pointer (some ⟨gb300, 0, none⟩)] (by rfl) rfl rfl (by first | rfl | (simp [Act.eval]; done)) (by first | rfl | (simp [Act.eval]; done)) ?_
        with_reducible refine (impl_Chart_mirrored_1.calls x14_1 x18_2 gb300 a2_0 a2_1 A2_2 c2_2 l2_2 t303 _ ?side1 ?side2 ?side3 A11.out).mono ?_
        (case side1 => (with_reducible repeat (first | refine blk_drewN ?_ _ | refine blk_drew ?_ | refine blk_alloc ?_ _)); exact BK300.out)
        (case side2 => exact cb_ HR2_2 HB)
        (case side3 => exact HC2_2.out)
        rintro e w14 ⟨rfl, hb⟩
        refine ⟨_, rfl, ?_⟩
        replace HO_303002 := Aside0.mk (Kd.R_below (ra_ HO_303002) hb)
        replace BK300 := bb_ BK300 hb
        replace BK301 := bb_ BK301 hb
        replace BK302 := bb_ BK302 hb
        replace HB := Aside0.mk (below_step (bw_ w) hb)
        (try clear hb)
        (try clear hb2)
        (try clear hk)
        (try clear hi)
        refine hK.out _ _ ⟨bc_ BK302 0, bc_ BK302 1, bc_ BK302 2⟩ (fun hHeld => ?_)
        clear hK K
        refine normA (N := some 26) ?_
        refine oneA (N := some 27) 6 HT_ (fun K hK => ?_)
        refine value_ (w1 := ?_) (v := ?_) (by rfl) rfl ?_ ?_
        rotate_left 2
        ·go_simp
         constructor
         ·rfl
         ·rfl
        refine hK.out _ _ ⟨(blk_cell (blk_alloc BK302.out _) 0).trans rfl, (blk_cell (blk_alloc BK302.out _) 1).trans rfl, (blk_cell (blk_alloc BK302.out _) 2).trans rfl⟩ (fun hHeld => ?_)
        clear hK K
        refine normA (N := some 27) ?_
        refine oneA (N := some 28) 7 HT_ (fun K hK => ?_)
        refine Kd.R_append_step (Kd.int .i64) (w0 := w) w.heap.size (by rfl) (.tmp 22) (.tmp 27) 22 3 (.int .i64 0) 8 rfl Try.underlying22 info3 rfl (by decide) (by omega) u303002 x303002_2 t303 [.int .i64 t303] (fun _ => True) (fun _ => False) rfl rfl ?aP (fun _ hk => hk.elim) ?aF ?aO ?aB ?aS ?aL ?_
        (case aP => exact rfl)
        (case aB => exact (bw_ w))
        (case aF => exact (fun _ _ => trivial))
        (case aO => exact (ra_ HO_303002))
        (case aS => exact (below_size (bw_ w)))
        (case aL => have := LMc12.out; omega)
        intro v305 w15 ho hb hg hat
        rw [← Ny304.out] at ho
        replace BK300 := Aside0.mk (blk_grown (g := gb300) (o := .cells #[.int .i64 a2_0, .int .i64 a2_1, .slice A2_2 l2_2.length c2_2] 26 (0, 0)) (bk_ BK300) hg (Kd.R_ne HO_303002.out BK300.out (by decide)))
        replace BK301 := Aside0.mk (blk_grown (g := gb301) (o := .cells #[.int .i64 0, .int .i64 0, .slice none 0 0] 26 (0, 0)) (bk_ BK301) hg (Kd.R_ne HO_303002.out BK301.out (by decide)))
        replace BK302 := Aside0.mk (blk_grown (g := gb302) (o := .cells #[.int .i64 a0, .int .i64 a1, u303002] 26 (0, 0)) (bk_ BK302) hg (Kd.R_ne HO_303002.out BK302.out (by decide)))
        have HO306 := Aside0.mk (ho)
        replace HB := Aside0.mk (hb)
        clear HO_303002
        clear ho hb hg hat
        obtain ⟨Ao16, co16, eo16⟩ := Kd.R_slice HO306.out
        (first | subst eo16 | (injection eo16 with f1_ f2_ f3_; have f4_ := f1_.symm; have f5_ := f3_.symm; clear f1_ f2_ f3_; subst f4_; subst f5_))
        refine hK.out _ _ ⟨bc_ BK302 0, bc_ BK302 1, bc_ BK302 2⟩ (fun hHeld => ?_)
        clear hK K
        refine normA (N := some 28) ?_
        refine pureA (N := some 29) 8 HT_ ?_
        refine lastA (N := none) 9 HT_ (fun K hK => ?_)
        have hs17 : w15.cell? ⟨gb302, 2, none⟩ = some (u303002) := bc_ BK302 2
        have hfs17 := blk_frozen BK302.out 2
        have hns17_0 := NB300_302.out
        have hns17_1 := NB301_302.out
        have hms17_0 := NB302_300.out
        have hms17_1 := NB302_301.out
        refine skip_ (w1 := ?_) (by rfl) rfl ?_ ?_
        rotate_left
        ·go_simp
         rfl
        refine hK.out _ _ ?_
        clear hK K
        refine done_ (done_of HT_.out (by kernel_rfl)) ?_
        try go_wp2
        go_roundg k2
        case measure => have := HK1.out; have := HK2.out; omega
        case rel => exact ⟨(wrap64 (x18_2 + 1)), (y304), (.slice Ao16 y304.length co16), (by first | rfl | (simp; done) | (simp [*]; done)), H', ⟨by have := HK1.out; have := HK2.out; omega⟩, ⟨by exact rf_ (Kd.R_types HO306.out BK302.out (by decide)) (fun _ hk => trivial)⟩, ⟨bk_ BK300⟩, ⟨bk_ BK301⟩, ⟨bq_ BK302⟩, ⟨(bw_ w)⟩⟩
       ·rw [if_neg c12] at H
        exact absurd H (by simp)
      ·rw [if_neg c10] at H
       have c10b0 : decide (x18_2 < a0) = false := decide_eq_false c10
       clear c10
       have H' := Aside0.mk H
       clear H
       go_wp2
       go_roundg k2
       case measure => have := HK1.out; have := HK2.out; omega
       case rel => exact ⟨(wrap64 (x14_1 + 1)), (x303002_2), (u303002), (by first | rfl | (simp; done) | (simp [*]; done)), H', ⟨by have := HK1.out; have := HK2.out; omega⟩, ⟨ra_ HO_303002⟩, ⟨bk_ BK300⟩, ⟨bk_ BK301⟩, ⟨bk_ BK302⟩, ⟨(bw_ w)⟩⟩
   ·rw [if_neg c9] at H
    have c9b0 : decide (x14_1 < a1) = false := decide_eq_false c9
    clear c9
    simp only [Option.some.injEq, Prod.mk.injEq] at H
    obtain ⟨rfl, rfl, rfl⟩ := H
    have hnb18 := NB302_300.out
    have hnc18 := NB300_302.out
    have hnb19 := NB302_301.out
    have hnc19 := NB301_302.out
    obtain ⟨hcz20_0, hcz20_1, hcz20_2, hfz20_0, hfz20_1, hfz20_2⟩ := bc3_ (w := wr) BK302
    have hnb21 := NB301_300.out
    have hnc21 := NB300_301.out
    obtain ⟨hcz22_0, hcz22_1, hcz22_2, hfz22_0, hfz22_1, hfz22_2⟩ := bc3_ (w := wr) BK301
    obtain ⟨Ao23, co23, eo23⟩ := Kd.R_slice HO_303002.out
    subst eo23
    go_wp2
    refine bodyPost_ret (results_cell_row rfl _ _ gb301 26 #[.int .i64 a0, .int .i64 a1, .slice Ao23 x303002_1.length co23] (0, 0) _ rfl (bq_ BK301) Try.underlying26 rfl (by kernel_rfl)) rfl ?_
    exact ⟨_, by first | rfl | (simp [errW_none, errW_some] <;> rfl) | (simp [*, errW_none, errW_some] <;> rfl), by exact rf_ (Kd.R_types HO_303002.out BK301.out (by decide)) (fun _ hk => trivial), (bw_ w)⟩

/-! ### impl_Chart_mirrored: function 205 -/
def impl_Chart_mirrored.f (k : Nat) (a0_0 : Int) (a0_1 : Int) (l0_2 : List Int) : Option (Int × Int × List Int) := (impl_makeChart__Chart_mirrored_1.f k a0_0 a0_1 a0_0 a0_1 l0_2).bind fun bt309 => (some (bt309.1, bt309.2.1, bt309.2.2))
theorem impl_Chart_mirrored.mono : ∀ a0 a1 a2 k, LeO (impl_Chart_mirrored.f k a0 a1 a2) (impl_Chart_mirrored.f (k + 1) a0 a1 a2) := by
  intro a0 a1 a2 k
  unfold impl_Chart_mirrored.f
  repeat' first
      | (with_reducible exact impl_makeChart__Chart_mirrored_1.mono _ _ _ _ _ _)
      | (with_reducible exact LeO.refl _)
      | (with_reducible exact LeO.none _)
      | (with_reducible refine LeO.ite ?_ ?_)
      | (with_reducible refine LeO.bind ?_ (fun _ => ?_))
      | exact impl_makeChart__Chart_mirrored_1.mono _ _ _ _ _ _
      | exact LeO.none _
      | refine LeO.ite ?_ ?_
      | refine LeO.bind ?_ (fun _ => ?_)
set_option maxHeartbeats 8000000 in
set_option maxRecDepth 100000 in
theorem impl_Chart_mirrored.calls (k : Nat) (a0_0 : Int) (a0_1 : Int) (A0_2 : Option Addr) (c0_2 : Nat) (l0_2 : List Int) (r1 : Int) (r2 : Int) (r3 : List Int) (w : World) (hr0_2 : Kd.C (Kd.int .i64) w A0_2 l0_2.length l0_2) (hc0_2 : l0_2.length ≤ c0_2) (h : impl_Chart_mirrored.f k a0_0 a0_1 l0_2 = some (r1, r2, r3)) :
  Calls Try.prog 205 #[.agg #[.int .i64 a0_0, .int .i64 a0_1, .slice A0_2 l0_2.length c0_2]] w fun e w' => ∃ v2_ : Value, e = .returned (.agg #[.int .i64 r1, .int .i64 r2, v2_]) ∧ Kd.R (Kd.int .i64) 3 w' w.heap.size (fun _ => True) v2_ r3 ∧ Below w.heap.size w w' := by
 have hu26 := Try.underlying26
 have hmf_ : ∀ (f_ : Fn) (a_ b_ : Array Value) (W_ : World), (Instr.makeFunc f_ a_ b_).run Try.prog W_ = .ok (.func f_ a_ b_) W_ := fun _ _ _ _ => rfl
 have HR0_2 := Aside0.mk hr0_2
 have HC0_2 := Aside0.mk hc0_2
 clear hr0_2 hc0_2
 have HB := Aside0.mk (Below.refl w.heap.size w)
 have H : ((impl_makeChart__Chart_mirrored_1.f k a0_0 a0_1 a0_0 a0_1 l0_2).bind fun bt309 => (some (bt309.1, bt309.2.1, bt309.2.2))) = some (r1, r2, r3) := h
 clear h
 replace H := Option.bind_eq_some_iff.mp H
 obtain ⟨⟨t309, t310, t311⟩, A20, H⟩ := H
 replace H : (some (t309, t310, t311)) = some (r1, r2, r3) := H
 have A2 := Aside0.mk A20
 clear A20
 simp only [Option.some.injEq, Prod.mk.injEq] at H
 obtain ⟨rfl, rfl, rfl⟩ := H
 go_enter Try.func205, Try.ntmps205
 go_wp2_with (first | ((with_reducible refine gate_dst (N := 1) rfl ?_); refine box_ (N := 1) (cs := #[.int .i64 a0_0, .int .i64 a0_1, .slice A0_2 l0_2.length c0_2]) (t := 26) ?_; intro gb307 hg w3 hbox hb; have BK307 := Aside0.mk (hbox); have GW307 := gz_ w hg; have GE307 := gz_ w hg; replace HB := Aside0.mk (below_step (bw_ w) hb); clear hb hbox hg) | ((with_reducible refine gate_dst (N := 2) rfl ?_); refine box_ (N := 2) (cs := #[.int .i64 0, .int .i64 0, .slice none 0 0]) (t := 26) ?_; intro gb308 hg w4 hbox hb; have n0_ := bb_ BK307 hb; have n1_ := Aside0.mk (below_step (bw_ w) hb); have n2_ := Aside0.mk (hbox); have n3_ := gz_ w hg; have n4_ := gz_ w hg; have n5_ := ne_ hg BK307; have n6_ := en_ hg BK307; clear BK307; clear HB; have BK307 := n0_; have HB := n1_; have BK308 := n2_; have GW308 := n3_; have GE308 := n4_; have NB307_308 := n5_; have NB308_307 := n6_; clear n0_ n1_ n2_ n3_ n4_ n5_ n6_; clear hb hbox hg; have hnb5 := NB307_308.out; have hnc5 := NB308_307.out; obtain ⟨hcz6_0, hcz6_1, hcz6_2, hfz6_0, hfz6_1, hfz6_2⟩ := bc3_ (w := w4) BK307) | ((with_reducible refine gate_callee (f := 178) rfl ?_); refine goesB (some 8) Try.func178 #[.int .i64 a0_0, .int .i64 a0_1, (.func (.func 248) #[] #[.pointer (some ⟨gb307, 0, none⟩)])] ?_; (with_reducible refine (impl_makeChart__Chart_mirrored_1.calls k a0_0 a0_1 gb307 a0_0 a0_1 A0_2 c0_2 l0_2 t309 t310 t311 _ ?side1 ?side2 ?side3 A2.out).mono ?_); (case side1 => (with_reducible repeat (first | refine blk_drewN ?_ _ | refine blk_drew ?_ | refine blk_alloc ?_ _)); exact BK307.out); (case side2 => exact cb_ HR0_2 HB); (case side3 => exact HC0_2.out); rintro e w7 ⟨v312, rfl, ho0, hb⟩; refine ⟨_, rfl, ?_⟩; have HO313 := Aside0.mk (Kd.R_lower ho0 (below_size (bw_ w))); replace BK307 := bb_ BK307 hb; replace BK308 := bb_ BK308 hb; replace HB := Aside0.mk (below_step (bw_ w) hb); (try clear hb); (try clear hb2); (try clear hk); (try clear hi); (try clear ho0); obtain ⟨hcz8_0, hcz8_1, hcz8_2, hfz8_0, hfz8_1, hfz8_2⟩ := bc3_ (w := w7) BK308; obtain ⟨Ao9, co9, eo9⟩ := Kd.R_slice HO313.out; subst eo9))
 refine bodyPost_ret (results_cell_row rfl _ _ gb308 26 #[.int .i64 t309, .int .i64 t310, .slice Ao9 t311.length co9] (0, 0) _ rfl (bq_ BK308) Try.underlying26 rfl (by kernel_rfl)) rfl ?_
 exact ⟨_, by first | rfl | (simp [errW_none, errW_some] <;> rfl) | (simp [*, errW_none, errW_some] <;> rfl), by exact rf_ (Kd.R_types HO313.out BK308.out (by decide)) (fun _ hk => trivial), (bw_ w)⟩

/-! ### impl_Chart_moved: function 150 -/
mutual
def impl_Chart_moved.j0 : Nat → Int → Int → Int → List Int → Option (Int × Int × List Int)
  | 0, _, _, _, _ => none
  | k + 1, x1, x322000, x322001, x322002 => impl_Chart_moved.l0 k (Int.tmod x1 4) 0 x322000 x322001 x322002
def impl_Chart_moved.l0 : Nat → Int → Int → Int → Int → List Int → Option (Int × Int × List Int)
  | 0, _, _, _, _, _ => none
  | k + 1, x13, x14, x322000, x322001, x322002 => if x14 < x13 then ((impl_Chart_turned.f k x322000 x322001 x322002).bind fun bt327 => (impl_Chart_moved.l0 k x13 (wrap64 (x14 + 1)) bt327.1 bt327.2.1 bt327.2.2)) else (some (x322000, x322001, x322002))
end
def impl_Chart_moved.f (k : Nat) (a0_0 : Int) (a0_1 : Int) (l0_2 : List Int) (a1 : Int) : Option (Int × Int × List Int) := (impl_Chart_copied.f a0_0 a0_1 l0_2).bind fun bt316 => (if a1 ≥ 4 then ((impl_Chart_mirrored.f k bt316.1 bt316.2.1 bt316.2.2).bind fun bt322 => (impl_Chart_moved.j0 k a1 bt322.1 bt322.2.1 bt322.2.2)) else (impl_Chart_moved.j0 k a1 bt316.1 bt316.2.1 bt316.2.2))
theorem impl_Chart_moved.mono_l : ∀ k, (∀ y0 y1 y2 y3, LeO (impl_Chart_moved.j0 k y0 y1 y2 y3) (impl_Chart_moved.j0 (k + 1) y0 y1 y2 y3)) ∧ (∀ y0 y1 y2 y3 y4, LeO (impl_Chart_moved.l0 k y0 y1 y2 y3 y4) (impl_Chart_moved.l0 (k + 1) y0 y1 y2 y3 y4))
  | 0 => ⟨fun _ _ _ _ r h => by simp [impl_Chart_moved.j0] at h, fun _ _ _ _ _ r h => by simp [impl_Chart_moved.l0] at h⟩
  | k + 1 => by
    obtain ⟨ih0, ih1⟩ := impl_Chart_moved.mono_l k
    refine ⟨?_, ?_⟩
    · intro y0 y1 y2 y3
      unfold impl_Chart_moved.j0
      repeat' first
      | (with_reducible exact ih0 _ _ _ _)
      | (with_reducible exact ih1 _ _ _ _ _)
      | (with_reducible exact impl_Chart_mirrored.mono _ _ _ _)
      | (with_reducible exact impl_Chart_turned.mono _ _ _ _)
      | (with_reducible exact LeO.refl _)
      | (with_reducible exact LeO.none _)
      | (with_reducible refine LeO.ite ?_ ?_)
      | (with_reducible refine LeO.bind ?_ (fun _ => ?_))
      | exact ih0 _ _ _ _
      | exact ih1 _ _ _ _ _
      | exact impl_Chart_mirrored.mono _ _ _ _
      | exact impl_Chart_turned.mono _ _ _ _
      | exact LeO.none _
      | refine LeO.ite ?_ ?_
      | refine LeO.bind ?_ (fun _ => ?_)
    · intro y0 y1 y2 y3 y4
      unfold impl_Chart_moved.l0
      repeat' first
      | (with_reducible exact ih0 _ _ _ _)
      | (with_reducible exact ih1 _ _ _ _ _)
      | (with_reducible exact impl_Chart_mirrored.mono _ _ _ _)
      | (with_reducible exact impl_Chart_turned.mono _ _ _ _)
      | (with_reducible exact LeO.refl _)
      | (with_reducible exact LeO.none _)
      | (with_reducible refine LeO.ite ?_ ?_)
      | (with_reducible refine LeO.bind ?_ (fun _ => ?_))
      | exact ih0 _ _ _ _
      | exact ih1 _ _ _ _ _
      | exact impl_Chart_mirrored.mono _ _ _ _
      | exact impl_Chart_turned.mono _ _ _ _
      | exact LeO.none _
      | refine LeO.ite ?_ ?_
      | refine LeO.bind ?_ (fun _ => ?_)
theorem impl_Chart_moved.mono : ∀ a0 a1 a2 a3 k, LeO (impl_Chart_moved.f k a0 a1 a2 a3) (impl_Chart_moved.f (k + 1) a0 a1 a2 a3) := by
  intro a0 a1 a2 a3 k
  obtain ⟨ih0, ih1⟩ := impl_Chart_moved.mono_l k
  unfold impl_Chart_moved.f
  repeat' first
      | (with_reducible exact ih0 _ _ _ _)
      | (with_reducible exact ih1 _ _ _ _ _)
      | (with_reducible exact impl_Chart_mirrored.mono _ _ _ _)
      | (with_reducible exact impl_Chart_turned.mono _ _ _ _)
      | (with_reducible exact LeO.refl _)
      | (with_reducible exact LeO.none _)
      | (with_reducible refine LeO.ite ?_ ?_)
      | (with_reducible refine LeO.bind ?_ (fun _ => ?_))
      | exact ih0 _ _ _ _
      | exact ih1 _ _ _ _ _
      | exact impl_Chart_mirrored.mono _ _ _ _
      | exact impl_Chart_turned.mono _ _ _ _
      | exact LeO.none _
      | refine LeO.ite ?_ ?_
      | refine LeO.bind ?_ (fun _ => ?_)
set_option maxHeartbeats 8000000 in
set_option maxRecDepth 100000 in
theorem impl_Chart_moved.calls (k : Nat) (a0_0 : Int) (a0_1 : Int) (A0_2 : Option Addr) (c0_2 : Nat) (l0_2 : List Int) (a1 : Int) (r1 : Int) (r2 : Int) (r3 : List Int) (w : World) (hr0_2 : Kd.C (Kd.int .i64) w A0_2 l0_2.length l0_2) (hc0_2 : l0_2.length ≤ c0_2) (h : impl_Chart_moved.f k a0_0 a0_1 l0_2 a1 = some (r1, r2, r3)) :
  Calls Try.prog 150 #[.agg #[.int .i64 a0_0, .int .i64 a0_1, .slice A0_2 l0_2.length c0_2], .int .i64 a1] w fun e w' => ∃ v2_ : Value, e = .returned (.agg #[.int .i64 r1, .int .i64 r2, v2_]) ∧ Kd.R (Kd.int .i64) 3 w' w.heap.size (fun _ => True) v2_ r3 ∧ Below w.heap.size w w' := by
 have hu26 := Try.underlying26
 have HR0_2 := Aside0.mk hr0_2
 have HC0_2 := Aside0.mk hc0_2
 clear hr0_2 hc0_2
 have HB := Aside0.mk (Below.refl w.heap.size w)
 have H : ((impl_Chart_copied.f a0_0 a0_1 l0_2).bind fun bt316 => (if a1 ≥ 4 then ((impl_Chart_mirrored.f k bt316.1 bt316.2.1 bt316.2.2).bind fun bt322 => (impl_Chart_moved.j0 k a1 bt322.1 bt322.2.1 bt322.2.2)) else (impl_Chart_moved.j0 k a1 bt316.1 bt316.2.1 bt316.2.2))) = some (r1, r2, r3) := h
 clear h
 replace H := Option.bind_eq_some_iff.mp H
 obtain ⟨⟨t316, t317, t318⟩, A30, H⟩ := H
 replace H : (if a1 ≥ 4 then ((impl_Chart_mirrored.f k t316 t317 t318).bind fun bt322 => (impl_Chart_moved.j0 k a1 bt322.1 bt322.2.1 bt322.2.2)) else (impl_Chart_moved.j0 k a1 t316 t317 t318)) = some (r1, r2, r3) := H
 have A3 := Aside0.mk A30
 clear A30
 have HC4 := Aside0.mk H
 clear H
 go_enter Try.func150, Try.ntmps150
 go_upto_if 9 with (first | ((with_reducible refine gate_dst (N := 2) rfl ?_); refine box_ (N := 2) (cs := #[.int .i64 a0_0, .int .i64 a0_1, .slice A0_2 l0_2.length c0_2]) (t := 26) ?_; intro gb314 hg w5 hbox hb; have BK314 := Aside0.mk (hbox); have GW314 := gz_ w hg; have GE314 := gz_ w hg; replace HB := Aside0.mk (below_step (bw_ w) hb); clear hb hbox hg) | ((with_reducible refine gate_dst (N := 4) rfl ?_); refine box_ (N := 4) (cs := #[.int .i64 0, .int .i64 0, .slice none 0 0]) (t := 26) ?_; intro gb315 hg w6 hbox hb; have n0_ := bb_ BK314 hb; have n1_ := Aside0.mk (below_step (bw_ w) hb); have n2_ := Aside0.mk (hbox); have n3_ := gz_ w hg; have n4_ := gz_ w hg; have n5_ := ne_ hg BK314; have n6_ := en_ hg BK314; clear BK314; clear HB; have BK314 := n0_; have HB := n1_; have BK315 := n2_; have GW315 := n3_; have GE315 := n4_; have NB314_315 := n5_; have NB315_314 := n6_; clear n0_ n1_ n2_ n3_ n4_ n5_ n6_; clear hb hbox hg; have hnb7 := NB314_315.out; have hnc7 := NB315_314.out; obtain ⟨hcz8_0, hcz8_1, hcz8_2, hfz8_0, hfz8_1, hfz8_2⟩ := bc3_ (w := w6) BK314) | ((with_reducible refine gate_callee (f := 140) rfl ?_); refine goesB (some 7) Try.func140 #[.agg #[.int .i64 a0_0, .int .i64 a0_1, .slice A0_2 l0_2.length c0_2]] ?_; (with_reducible refine (impl_Chart_copied.calls a0_0 a0_1 _ _ l0_2 t316 t317 t318 _ ?side1 ?side2 A3.out).mono ?_); (case side1 => exact cb_ HR0_2 HB); (case side2 => exact HC0_2.out); rintro e w9 ⟨v319, rfl, ho0, hb⟩; refine ⟨_, rfl, ?_⟩; have HO320 := Aside0.mk (Kd.R_lower ho0 (below_size (bw_ w))); replace BK314 := bb_ BK314 hb; replace BK315 := bb_ BK315 hb; replace HB := Aside0.mk (below_step (bw_ w) hb); (try clear hb); (try clear hb2); (try clear hk); (try clear hi); (try clear ho0)) | ((with_reducible refine gate_dst (N := 5) rfl ?_); refine box_ (N := 5) (cs := #[.int .i64 0, .int .i64 0, .slice none 0 0]) (t := 26) ?_; intro gb321 hg w10 hbox hb; have n0_ := Aside0.mk (Kd.R_below (ra_ HO320) hb); have n1_ := bb_ BK314 hb; have n2_ := bb_ BK315 hb; have n3_ := Aside0.mk (below_step (bw_ w) hb); have n4_ := Aside0.mk (hbox); have n5_ := gz_ w hg; have n6_ := gz_ w hg; have n7_ := ne_ hg BK314; have n8_ := en_ hg BK314; have n9_ := ne_ hg BK315; have n10_ := en_ hg BK315; clear HO320; clear BK314; clear BK315; clear HB; have HO320 := n0_; have BK314 := n1_; have BK315 := n2_; have HB := n3_; have BK321 := n4_; have GW321 := n5_; have GE321 := n6_; have NB314_321 := n7_; have NB321_314 := n8_; have NB315_321 := n9_; have NB321_315 := n10_; clear n0_ n1_ n2_ n3_ n4_ n5_ n6_ n7_ n8_ n9_ n10_; clear hb hbox hg; have hnb11 := NB321_314.out; have hnc11 := NB314_321.out; have hnb12 := NB321_315.out; have hnc12 := NB315_321.out; obtain ⟨hcz13_0, hcz13_1, hcz13_2, hfz13_0, hfz13_1, hfz13_2⟩ := bc3_ (w := w10) BK321; obtain ⟨Ao14, co14, eo14⟩ := Kd.R_slice HO320.out; subst eo14))
 (try simp only [Act.put, List.setIfInBounds_toArray, List.set_cons_zero, List.set_cons_succ])
 go_cut [] (fun wc => ∃ (kq : Nat) (x322000_3 : Int) (x322001_3 : Int) (x322002_3 : List Int) (u322002 : Value), Aside0 (impl_Chart_moved.j0 kq a1 x322000_3 x322001_3 x322002_3 = some (r1, r2, r3)) ∧ Aside0 (kq ≤ k) ∧ Aside0 (Kd.R (Kd.int .i64) 3 wc w.heap.size (fun _ => True) u322002 x322002_3) ∧ Aside0 (wc.heap[gb314]? = some (.cells #[.int .i64 a0_0, .int .i64 a0_1, (.slice A0_2 l0_2.length c0_2)] 26 (0, 0))) ∧ Aside0 (wc.heap[gb315]? = some (.cells #[.int .i64 0, .int .i64 0, (.slice none 0 0)] 26 (0, 0))) ∧ Aside0 (wc.heap[gb321]? = some (.cells #[.int .i64 x322000_3, .int .i64 x322001_3, u322002] 26 (0, 0))) ∧ Aside0 (Below w.heap.size w wc))
 case first =>
  have H := HC4.out
  clear HC4
  by_cases c15 : a1 ≥ 4
  ·rw [if_pos c15] at H
   have c15b0 : decide (4 ≤ a1) = true := decide_eq_true c15
   clear c15
   (first | rw [c15b0] | (simp only [i64_w, i32_w]; rw [c15b0]) | skip)
   replace H := Option.bind_eq_some_iff.mp H
   obtain ⟨⟨t322, t323, t324⟩, A160, H⟩ := H
   replace H : (impl_Chart_moved.j0 k a1 t322 t323 t324) = some (r1, r2, r3) := H
   have A16 := Aside0.mk A160
   clear A160
   have H' := Aside0.mk H
   clear H
   have hnb17 := NB321_314.out
   have hnc17 := NB314_321.out
   have hnb18 := NB321_315.out
   have hnc18 := NB315_321.out
   obtain ⟨hcz19_0, hcz19_1, hcz19_2, hfz19_0, hfz19_1, hfz19_2⟩ := bc3_ (w := w10) BK321
   go_wp2_with (first | ((with_reducible refine gate_callee (f := 205) rfl ?_); refine goesB (some 11) Try.func205 #[.agg #[.int .i64 t316, .int .i64 t317, .slice Ao14 t318.length co14]] ?_; (with_reducible refine (impl_Chart_mirrored.calls k t316 t317 _ _ t318 t322 t323 t324 _ ?side1 ?side2 A16.out).mono ?_); (case side1 => refine (Kd.R_reads' (e := 3) (base := w.heap.size) (ok := fun k_ => True) (n := t318.length) (c := co14) ?_).2.2; exact (by exact rf_ (Kd.R_types HO320.out BK321.out (by decide)) (fun _ h_ => h_.1))); (case side2 => exact (Kd.R_reads' HO320.out).2.1); rintro e w20 ⟨v325, rfl, ho0, hb⟩; refine ⟨_, rfl, ?_⟩; have n0_ := Aside0.mk (Kd.R_elder' (by exact rf_ (Kd.R_types HO320.out BK321.out (by decide)) (fun _ h_ => h_.1)) (Kd.R_base ho0) hb); have n1_ := Aside0.mk (Kd.R_lower (Kd.R_new' ho0 (Kd.R_lt (by exact rf_ (Kd.R_types HO320.out BK321.out (by decide)) (fun _ h_ => h_.1)))) (below_size (bw_ w))); have n2_ := bb_ BK314 hb; have n3_ := bb_ BK315 hb; have n4_ := Aside0.mk (blk_below (g := gb321) (o := .cells #[.int .i64 t316, .int .i64 t317, .slice Ao14 t318.length co14] 26 (0, 0)) (bq_ BK321) hb); have n5_ := Aside0.mk (below_step (bw_ w) hb); clear HO320; clear BK314; clear BK315; clear BK321; clear HB; have HO320 := n0_; have HO326 := n1_; have BK314 := n2_; have BK315 := n3_; have BK321 := n4_; have HB := n5_; clear n0_ n1_ n2_ n3_ n4_ n5_; (try clear hb); (try clear hb2); (try clear hk); (try clear hi); (try clear ho0); obtain ⟨hcz21_0, hcz21_1, hcz21_2, hfz21_0, hfz21_1, hfz21_2⟩ := bc3_ (w := w20) BK321; obtain ⟨Ao22, co22, eo22⟩ := Kd.R_slice HO326.out; subst eo22))
   go_meet
   case rel => exact ⟨_, (t322), (t323), (t324), (.slice Ao22 t324.length co22), H', ⟨by first | omega | exact Nat.le_refl _⟩, ⟨by exact rf_ (Kd.R_types HO326.out BK321.out (by decide)) (fun _ hk => trivial)⟩, ⟨bk_ BK314⟩, ⟨bk_ BK315⟩, ⟨bq_ BK321⟩, ⟨(bw_ w)⟩⟩
  ·rw [if_neg c15] at H
   have c15b0 : decide (4 ≤ a1) = false := decide_eq_false c15
   clear c15
   (first | rw [c15b0] | (simp only [i64_w, i32_w]; rw [c15b0]) | skip)
   have H' := Aside0.mk H
   clear H
   go_wp2
   go_meet
   case rel => exact ⟨_, (t316), (t317), (t318), (.slice Ao14 t318.length co14), H', ⟨by first | omega | exact Nat.le_refl _⟩, ⟨by exact rf_ (Kd.R_types HO320.out BK321.out (by decide)) (fun _ hk => trivial)⟩, ⟨bk_ BK314⟩, ⟨bk_ BK315⟩, ⟨bq_ BK321⟩, ⟨(bw_ w)⟩⟩
 case rest =>
  clear HC4
  try clear c1
  try clear c2
  try clear p2
  try clear c7
  try clear c11
  try clear c12
  try clear c14
  try clear c15
  try clear c15b0
  try clear c17
  try clear c18
  try clear c20
  try clear hcz13_0
  try clear hcz13_1
  try clear hcz13_2
  try clear hcz19_0
  try clear hcz19_1
  try clear hcz19_2
  try clear hcz21_0
  try clear hcz21_1
  try clear hcz21_2
  try clear hcz8_0
  try clear hcz8_1
  try clear hcz8_2
  try clear hfz13_0
  try clear hfz13_1
  try clear hfz13_2
  try clear hfz19_0
  try clear hfz19_1
  try clear hfz19_2
  try clear hfz21_0
  try clear hfz21_1
  try clear hfz21_2
  try clear hfz8_0
  try clear hfz8_1
  try clear hfz8_2
  obtain ⟨kq, x322000_3, x322001_3, x322002_3, u322002, HA, HJ3, HO_322002, BK314, BK315, BK321, HB⟩ := hcut
  cases kq with
  | zero => exact absurd HA.out (by simp [impl_Chart_moved.j0])
  | succ kj3 =>
   have H := HA.out
   clear HA
   simp only [impl_Chart_moved.j0] at H
   have H' := Aside0.mk H
   clear H
   go_wp2
   go_loopg [14] kj3 (fun kq v14 w' => ∃ (x14_2 : Int) (x322000_2 : Int) (x322001_2 : Int) (x322002_2 : List Int) (u322002 : Value), v14 = .int .i64 x14_2 ∧ Aside0 (impl_Chart_moved.l0 kq (Int.tmod a1 4) x14_2 x322000_2 x322001_2 x322002_2 = some (r1, r2, r3)) ∧ Aside0 (kq ≤ kj3) ∧ Aside0 (Kd.R (Kd.int .i64) 3 w' w.heap.size (fun _ => True) u322002 x322002_2) ∧ Aside0 (w'.heap[gb314]? = some (.cells #[.int .i64 a0_0, .int .i64 a0_1, (.slice A0_2 l0_2.length c0_2)] 26 (0, 0))) ∧ Aside0 (w'.heap[gb315]? = some (.cells #[.int .i64 0, .int .i64 0, (.slice none 0 0)] 26 (0, 0))) ∧ Aside0 (w'.heap[gb321]? = some (.cells #[.int .i64 x322000_2, .int .i64 x322001_2, u322002] 26 (0, 0))) ∧ Aside0 (Below w.heap.size w w'))
   case atStart => exact ⟨(0), (x322000_3), (x322001_3), (x322002_3), (u322002), (by first | rfl | (simp; done) | (simp [*]; done)), H', ⟨Nat.le_refl _⟩, ⟨ra_ HO_322002⟩, ⟨bk_ BK314⟩, ⟨bk_ BK315⟩, ⟨bk_ BK321⟩, ⟨(bw_ w)⟩⟩
   case round =>
    clear H'
    try clear c1
    try clear c2
    try clear p2
    try clear c7
    try clear c11
    try clear c12
    try clear c14
    try clear c15
    try clear c15b0
    try clear c17
    try clear c18
    try clear c20
    try clear hcz13_0
    try clear hcz13_1
    try clear hcz13_2
    try clear hcz19_0
    try clear hcz19_1
    try clear hcz19_2
    try clear hcz21_0
    try clear hcz21_1
    try clear hcz21_2
    try clear hcz8_0
    try clear hcz8_1
    try clear hcz8_2
    try clear hfz13_0
    try clear hfz13_1
    try clear hfz13_2
    try clear hfz19_0
    try clear hfz19_1
    try clear hfz19_2
    try clear hfz21_0
    try clear hfz21_1
    try clear hfz21_2
    try clear hfz8_0
    try clear hfz8_1
    try clear hfz8_2
    try clear p2
    obtain ⟨x14_2, x322000_2, x322001_2, x322002_2, u322002, rfl, HA, HK2, HO_322002, BK314, BK315, BK321, HB⟩ := hrel
    cases gk with
    | zero => exact absurd HA.out (by simp [impl_Chart_moved.l0])
    | succ k2 =>
     have H := HA.out
     clear HA
     simp only [impl_Chart_moved.l0] at H
     by_cases c23 : x14_2 < (Int.tmod a1 4)
     ·rw [if_pos c23] at H
      have c23b0 : decide (x14_2 < (Int.tmod a1 4)) = true := decide_eq_true c23
      clear c23
      replace H := Option.bind_eq_some_iff.mp H
      obtain ⟨⟨t327, t328, t329⟩, A240, H⟩ := H
      replace H : (impl_Chart_moved.l0 k2 (Int.tmod a1 4) (wrap64 (x14_2 + 1)) t327 t328 t329) = some (r1, r2, r3) := H
      have A24 := Aside0.mk A240
      clear A240
      have H' := Aside0.mk H
      clear H
      have hnb25 := NB321_314.out
      have hnc25 := NB314_321.out
      have hnb26 := NB321_315.out
      have hnc26 := NB315_321.out
      obtain ⟨hcz27_0, hcz27_1, hcz27_2, hfz27_0, hfz27_1, hfz27_2⟩ := bc3_ (w := wr) BK321
      obtain ⟨Ao28, co28, eo28⟩ := Kd.R_slice HO_322002.out
      subst eo28
      go_wp2_with (first | ((with_reducible refine gate_callee (f := 200) rfl ?_); refine goesB (some 17) Try.func200 #[.agg #[.int .i64 x322000_2, .int .i64 x322001_2, .slice Ao28 x322002_2.length co28]] ?_; (with_reducible refine (impl_Chart_turned.calls k2 x322000_2 x322001_2 _ _ x322002_2 t327 t328 t329 _ ?side1 ?side2 A24.out).mono ?_); (case side1 => exact co_ (Kd.R_reads' HO_322002.out).2.2); (case side2 => exact (Kd.R_reads' HO_322002.out).2.1); rintro e w29 ⟨v330, rfl, ho0, hb⟩; refine ⟨_, rfl, ?_⟩; have n0_ := Aside0.mk (Kd.R_elder' (ra_ HO_322002) (Kd.R_base ho0) hb); have n1_ := Aside0.mk (Kd.R_lower (Kd.R_new' ho0 (Kd.R_lt (ra_ HO_322002))) (below_size (bw_ w))); have n2_ := bb_ BK314 hb; have n3_ := bb_ BK315 hb; have n4_ := bb_ BK321 hb; have n5_ := Aside0.mk (below_step (bw_ w) hb); clear HO_322002; clear BK314; clear BK315; clear BK321; clear HB; have HO_322002 := n0_; have HO331 := n1_; have BK314 := n2_; have BK315 := n3_; have BK321 := n4_; have HB := n5_; clear n0_ n1_ n2_ n3_ n4_ n5_; (try clear hb); (try clear hb2); (try clear hk); (try clear hi); (try clear ho0); obtain ⟨hcz30_0, hcz30_1, hcz30_2, hfz30_0, hfz30_1, hfz30_2⟩ := bc3_ (w := w29) BK321; obtain ⟨Ao31, co31, eo31⟩ := Kd.R_slice HO331.out; subst eo31))
      go_roundg k2
      case measure => have := HJ3.out; have := HK2.out; omega
      case rel => exact ⟨(wrap64 (x14_2 + 1)), (t327), (t328), (t329), (.slice Ao31 t329.length co31), (by first | rfl | (simp; done) | (simp [*]; done)), H', ⟨by have := HJ3.out; have := HK2.out; omega⟩, ⟨by exact rf_ (Kd.R_types HO331.out BK321.out (by decide)) (fun _ hk => trivial)⟩, ⟨bk_ BK314⟩, ⟨bk_ BK315⟩, ⟨bq_ BK321⟩, ⟨(bw_ w)⟩⟩
     ·rw [if_neg c23] at H
      have c23b0 : decide (x14_2 < (Int.tmod a1 4)) = false := decide_eq_false c23
      clear c23
      simp only [Option.some.injEq, Prod.mk.injEq] at H
      obtain ⟨rfl, rfl, rfl⟩ := H
      have hnb32 := NB321_314.out
      have hnc32 := NB314_321.out
      have hnb33 := NB321_315.out
      have hnc33 := NB315_321.out
      obtain ⟨hcz34_0, hcz34_1, hcz34_2, hfz34_0, hfz34_1, hfz34_2⟩ := bc3_ (w := wr) BK321
      have hnb35 := NB315_314.out
      have hnc35 := NB314_315.out
      obtain ⟨hcz36_0, hcz36_1, hcz36_2, hfz36_0, hfz36_1, hfz36_2⟩ := bc3_ (w := wr) BK315
      obtain ⟨Ao37, co37, eo37⟩ := Kd.R_slice HO_322002.out
      subst eo37
      go_wp2
      refine bodyPost_ret (results_cell_row rfl _ _ gb315 26 #[.int .i64 x322000_2, .int .i64 x322001_2, .slice Ao37 x322002_2.length co37] (0, 0) _ rfl (bq_ BK315) Try.underlying26 rfl (by kernel_rfl)) rfl ?_
      exact ⟨_, by first | rfl | (simp [errW_none, errW_some] <;> rfl) | (simp [*, errW_none, errW_some] <;> rfl), by exact rf_ (Kd.R_types HO_322002.out BK315.out (by decide)) (fun _ hk => trivial), (bw_ w)⟩

end Go.Proofs.Ytijmljaemalgmaa.PFnExactFewestChanges
