-- Printed by this session's own program (wip/tool/myprint.py, over the kit's print); Lean checks it.
import Derived.Test.YtijmljaemalgmaaPFnExactFewestChangesx0
import Derived.Test.YtijmljaemalgmaaPFnExactFewestChangesx6
namespace Go.Proofs.Ytijmljaemalgmaa.PFnExactFewestChanges
open Go.RowKit Go.Proofs.YtijmljaemalgmaaW.PrintWords Go.Proofs.YtijmljaemalgmaaW.PrintLast Go.Proofs.YtijmljaemalgmaaW.PrintMore
attribute [local go_sem] max2_int min2_int max_two min_two max_three min_three max_four min_four   -- for this text's walks alone
set_option linter.unusedVariables false
set_option linter.unusedSimpArgs false

/-! ### impl_orbits_1: function 255 -/
def impl_orbits_1.f (a0 : Int) (a1 : Int) (a2_0 : Int) : Option (Int) := some (wrap64 ((wrap64 (a0 * a2_0)) + a1))
set_option maxHeartbeats 8000000 in
set_option maxRecDepth 100000 in
theorem impl_orbits_1.calls (a0 : Int) (a1 : Int) (gb336 : Nat) (a2_0 : Int) (r : Int) (w : World) (hb336 : w.heap[gb336]? = some (.cells #[.int .i64 a2_0] 3 (0, 0))) (h : impl_orbits_1.f a0 a1 a2_0 = some r) :
  Calls Try.prog 255 #[.int .i64 a0, .int .i64 a1, .pointer (some ⟨gb336, 0, none⟩)] w fun e w' => e = .returned (.int .i64 r) ∧ Below w.heap.size w w' := by
 have BK336 := Aside0.mk hb336
 clear hb336
 have HB := Aside0.mk (Below.refl w.heap.size w)
 have H : (some (wrap64 ((wrap64 (a0 * a2_0)) + a1))) = some r := h
 clear h
 obtain rfl := Option.some.inj H
 obtain ⟨hcz4_0, hfz4_0⟩ := bc1_ (w := w) BK336
 go_enter Try.func255, Try.ntmps255
 go_wp2
 go_ret
 exact ⟨by first | rfl | (simp [errW_none, errW_some] <;> rfl) | (simp [*, errW_none, errW_some] <;> rfl), (bw_ w)⟩

/-! ### impl_makeChart__orbits_1: function 178 -/
mutual
def impl_makeChart__orbits_1.l0 : Nat → Int → Int → Int → Int → Int → Int → List Int → Option (Int × Int × List Int)
  | 0, _, _, _, _, _, _, _ => none
  | k + 1, x0, x13, x14, x338000, x340000, x340001, x340002 => if x14 < x13 then (impl_makeChart__orbits_1.l1 k x0 x14 x13 x14 x0 0 x338000 x340000 x340001 x340002) else (some (x340000, x340001, x340002))
def impl_makeChart__orbits_1.l1 : Nat → Int → Int → Int → Int → Int → Int → Int → Int → Int → List Int → Option (Int × Int × List Int)
  | 0, _, _, _, _, _, _, _, _, _, _ => none
  | k + 1, x0, x8, x13, x14, x17, x18, x338000, x340000, x340001, x340002 => if x18 < x17 then ((impl_orbits_1.f x8 x18 x338000).bind fun t340 => (if x340002.length < 17592186044416 then (impl_makeChart__orbits_1.l1 k x0 x8 x13 x14 x17 (wrap64 (x18 + 1)) x338000 x340000 x340001 (x340002 ++ [t340])) else (none))) else (impl_makeChart__orbits_1.l0 k x0 x13 (wrap64 (x14 + 1)) x338000 x340000 x340001 x340002)
end
def impl_makeChart__orbits_1.f (k : Nat) (a0 : Int) (a1 : Int) (a2_0 : Int) : Option (Int × Int × List Int) := impl_makeChart__orbits_1.l0 k a0 a1 0 a2_0 a0 a1 ([] : List Int)
theorem impl_makeChart__orbits_1.mono_l : ∀ k, (∀ y0 y1 y2 y3 y4 y5 y6, LeO (impl_makeChart__orbits_1.l0 k y0 y1 y2 y3 y4 y5 y6) (impl_makeChart__orbits_1.l0 (k + 1) y0 y1 y2 y3 y4 y5 y6)) ∧ (∀ y0 y1 y2 y3 y4 y5 y6 y7 y8 y9, LeO (impl_makeChart__orbits_1.l1 k y0 y1 y2 y3 y4 y5 y6 y7 y8 y9) (impl_makeChart__orbits_1.l1 (k + 1) y0 y1 y2 y3 y4 y5 y6 y7 y8 y9))
  | 0 => ⟨fun _ _ _ _ _ _ _ r h => by simp [impl_makeChart__orbits_1.l0] at h, fun _ _ _ _ _ _ _ _ _ _ r h => by simp [impl_makeChart__orbits_1.l1] at h⟩
  | k + 1 => by
    obtain ⟨ih0, ih1⟩ := impl_makeChart__orbits_1.mono_l k
    refine ⟨?_, ?_⟩
    · intro y0 y1 y2 y3 y4 y5 y6
      unfold impl_makeChart__orbits_1.l0
      repeat' first
      | (with_reducible exact ih0 _ _ _ _ _ _ _)
      | (with_reducible exact ih1 _ _ _ _ _ _ _ _ _ _)
      | (with_reducible exact LeO.refl _)
      | (with_reducible exact LeO.none _)
      | (with_reducible refine LeO.ite ?_ ?_)
      | (with_reducible refine LeO.bind ?_ (fun _ => ?_))
      | exact ih0 _ _ _ _ _ _ _
      | exact ih1 _ _ _ _ _ _ _ _ _ _
      | exact LeO.none _
      | refine LeO.ite ?_ ?_
      | refine LeO.bind ?_ (fun _ => ?_)
    · intro y0 y1 y2 y3 y4 y5 y6 y7 y8 y9
      unfold impl_makeChart__orbits_1.l1
      repeat' first
      | (with_reducible exact ih0 _ _ _ _ _ _ _)
      | (with_reducible exact ih1 _ _ _ _ _ _ _ _ _ _)
      | (with_reducible exact LeO.refl _)
      | (with_reducible exact LeO.none _)
      | (with_reducible refine LeO.ite ?_ ?_)
      | (with_reducible refine LeO.bind ?_ (fun _ => ?_))
      | exact ih0 _ _ _ _ _ _ _
      | exact ih1 _ _ _ _ _ _ _ _ _ _
      | exact LeO.none _
      | refine LeO.ite ?_ ?_
      | refine LeO.bind ?_ (fun _ => ?_)
theorem impl_makeChart__orbits_1.mono : ∀ a0 a1 a2 k, LeO (impl_makeChart__orbits_1.f k a0 a1 a2) (impl_makeChart__orbits_1.f (k + 1) a0 a1 a2) := by
  intro a0 a1 a2 k
  obtain ⟨ih0, ih1⟩ := impl_makeChart__orbits_1.mono_l k
  unfold impl_makeChart__orbits_1.f
  repeat' first
      | (with_reducible exact ih0 _ _ _ _ _ _ _)
      | (with_reducible exact ih1 _ _ _ _ _ _ _ _ _ _)
      | (with_reducible exact LeO.refl _)
      | (with_reducible exact LeO.none _)
      | (with_reducible refine LeO.ite ?_ ?_)
      | (with_reducible refine LeO.bind ?_ (fun _ => ?_))
      | exact ih0 _ _ _ _ _ _ _
      | exact ih1 _ _ _ _ _ _ _ _ _ _
      | exact LeO.none _
      | refine LeO.ite ?_ ?_
      | refine LeO.bind ?_ (fun _ => ?_)
def impl_makeChart__orbits_1.T8 : Bool × List (List Nat × List Nat) := (true, [([], []), ([0], [0]), ([], []), ([], []), ([], []), ([2, 3, 4], [2, 3, 4]), ([5], [5]), ([1, 6, 5], [1, 6]), ([0, 1, 2, 3, 4, 5, 6, 7], []), ([8, 7, 7, 0, 1, 2, 3, 4, 5, 6, 7], [7, 8])])
def impl_makeChart__orbits_1.B8 : List Nat := [0, 1, 0, 0, 0, 28, 60, 127, 255, 511]
theorem impl_makeChart__orbits_1.tab8 : rtab .any (opsOf Try.f178 8) = impl_makeChart__orbits_1.T8 := by kernel_rfl
theorem impl_makeChart__orbits_1.bits8 : waitsOk impl_makeChart__orbits_1.T8.2 impl_makeChart__orbits_1.B8 = true := by kernel_rfl
set_option maxHeartbeats 8000000 in
set_option maxRecDepth 100000 in
theorem impl_makeChart__orbits_1.calls (k : Nat) (a0 : Int) (a1 : Int) (gb337 : Nat) (a2_0 : Int) (r1 : Int) (r2 : Int) (r3 : List Int) (w : World) (hb337 : w.heap[gb337]? = some (.cells #[.int .i64 a2_0] 3 (0, 0))) (h : impl_makeChart__orbits_1.f k a0 a1 a2_0 = some (r1, r2, r3)) :
  Calls Try.prog 178 #[.int .i64 a0, .int .i64 a1, (.func (.func 255) #[] #[.pointer (some ⟨gb337, 0, none⟩)])] w fun e w' => ∃ v2_ : Value, e = .returned (.agg #[.int .i64 r1, .int .i64 r2, v2_]) ∧ Kd.R (Kd.int .i64) 3 w' w.heap.size (fun _ => True) v2_ r3 ∧ Below w.heap.size w w' := by
 have hu26 := Try.underlying26
 have BK337 := Aside0.mk hb337
 clear hb337
 have HB := Aside0.mk (Below.refl w.heap.size w)
 have H : (impl_makeChart__orbits_1.l0 k a0 a1 0 a2_0 a0 a1 ([] : List Int)) = some (r1, r2, r3) := h
 clear h
 have H' := Aside0.mk H
 clear H
 go_enter Try.func178, Try.ntmps178
 go_wp2_with (first | ((with_reducible refine gate_dst (N := 6) rfl ?_); refine box_ (N := 6) (cs := #[.int .i64 0, .int .i64 0, .slice none 0 0]) (t := 26) ?_; intro gb338 hg w4 hbox hb; have n0_ := bb_ BK337 hb; have n1_ := Aside0.mk (below_step (bw_ w) hb); have n2_ := Aside0.mk (hbox); have n3_ := gz_ w hg; have n4_ := gz_ w hg; have n5_ := ne_ hg BK337; have n6_ := en_ hg BK337; clear BK337; clear HB; have BK337 := n0_; have HB := n1_; have BK338 := n2_; have GW338 := n3_; have GE338 := n4_; have NB337_338 := n5_; have NB338_337 := n6_; clear n0_ n1_ n2_ n3_ n4_ n5_ n6_; clear hb hbox hg) | ((with_reducible refine gate_dst (N := 7) rfl ?_); refine box_ (N := 7) (cs := #[.int .i64 0, .int .i64 0, .slice none 0 0]) (t := 26) ?_; intro gb339 hg w5 hbox hb; have n0_ := bb_ BK337 hb; have n1_ := bb_ BK338 hb; have n2_ := Aside0.mk (below_step (bw_ w) hb); have n3_ := Aside0.mk (hbox); have n4_ := gz_ w hg; have n5_ := gz_ w hg; have n6_ := ne_ hg BK337; have n7_ := en_ hg BK337; have n8_ := ne_ hg BK338; have n9_ := en_ hg BK338; clear BK337; clear BK338; clear HB; have BK337 := n0_; have BK338 := n1_; have HB := n2_; have BK339 := n3_; have GW339 := n4_; have GE339 := n5_; have NB337_339 := n6_; have NB339_337 := n7_; have NB338_339 := n8_; have NB339_338 := n9_; clear n0_ n1_ n2_ n3_ n4_ n5_ n6_ n7_ n8_ n9_; clear hb hbox hg; have hnb6 := NB339_337.out; have hnc6 := NB337_339.out; have hnb7 := NB339_338.out; have hnc7 := NB338_339.out; obtain ⟨hcz8_0, hcz8_1, hcz8_2, hfz8_0, hfz8_1, hfz8_2⟩ := bc3_ (w := w5) BK339))
 go_loopg [14] k (fun kq v14 w' => ∃ (x14_1 : Int) (x340002_1 : List Int) (u340002 : Value), v14 = .int .i64 x14_1 ∧ Aside0 (impl_makeChart__orbits_1.l0 kq a0 a1 x14_1 a2_0 a0 a1 x340002_1 = some (r1, r2, r3)) ∧ Aside0 (kq ≤ k) ∧ Aside0 (Kd.R (Kd.int .i64) 3 w' w.heap.size (fun k_ => k_ ≠ gb337) u340002 x340002_1) ∧ Aside0 (w'.heap[gb337]? = some (.cells #[.int .i64 a2_0] 3 (0, 0))) ∧ Aside0 (w'.heap[gb338]? = some (.cells #[.int .i64 0, .int .i64 0, (.slice none 0 0)] 26 (0, 0))) ∧ Aside0 (w'.heap[gb339]? = some (.cells #[.int .i64 a0, .int .i64 a1, u340002] 26 (0, 0))) ∧ Aside0 (Below w.heap.size w w'))
 case atStart => exact ⟨(0), (([] : List Int)), (.slice none 0 0), (by first | rfl | (simp; done) | (simp [*]; done)), H', ⟨Nat.le_refl _⟩, ⟨by first | exact Kd.R_nil _ _ _ _ _ | exact Kd.N_nil _ _ _ _ _ | exact Kd.V_nil _ _ _ _ _ | exact Kd.Q_nil _ _ _ _ _ | exact Kd.S_nil _ _ _ _ _⟩, ⟨bk_ BK337⟩, ⟨bk_ BK338⟩, ⟨bq_ BK339⟩, ⟨(bw_ w)⟩⟩
 case round =>
  clear H'
  try clear c1
  try clear p2
  try clear c6
  try clear c7
  try clear hcz8_0
  try clear hcz8_1
  try clear hcz8_2
  try clear hfz8_0
  try clear hfz8_1
  try clear hfz8_2
  obtain ⟨x14_1, x340002_1, u340002, rfl, HA, HK1, HO_340002, BK337, BK338, BK339, HB⟩ := hrel
  cases gk with
  | zero => exact absurd HA.out (by simp [impl_makeChart__orbits_1.l0])
  | succ k1 =>
   have H := HA.out
   clear HA
   simp only [impl_makeChart__orbits_1.l0] at H
   by_cases c9 : x14_1 < a1
   ·rw [if_pos c9] at H
    have c9b0 : decide (x14_1 < a1) = true := decide_eq_true c9
    clear c9
    have H' := Aside0.mk H
    clear H
    go_wp2
    go_loopg [18] k1 (fun kq v18 w' => ∃ (x18_2 : Int) (x340002_2 : List Int) (u340002 : Value), v18 = .int .i64 x18_2 ∧ Aside0 (impl_makeChart__orbits_1.l1 kq a0 x14_1 a1 x14_1 a0 x18_2 a2_0 a0 a1 x340002_2 = some (r1, r2, r3)) ∧ Aside0 (kq ≤ k1) ∧ Aside0 (Kd.R (Kd.int .i64) 3 w' w.heap.size (fun k_ => k_ ≠ gb337) u340002 x340002_2) ∧ Aside0 (w'.heap[gb337]? = some (.cells #[.int .i64 a2_0] 3 (0, 0))) ∧ Aside0 (w'.heap[gb338]? = some (.cells #[.int .i64 0, .int .i64 0, (.slice none 0 0)] 26 (0, 0))) ∧ Aside0 (w'.heap[gb339]? = some (.cells #[.int .i64 a0, .int .i64 a1, u340002] 26 (0, 0))) ∧ Aside0 (Below w.heap.size w w'))
    case atStart => exact ⟨(0), (x340002_1), (u340002), (by first | rfl | (simp; done) | (simp [*]; done)), H', ⟨Nat.le_refl _⟩, ⟨ra_ HO_340002⟩, ⟨bk_ BK337⟩, ⟨bk_ BK338⟩, ⟨bk_ BK339⟩, ⟨(bw_ w)⟩⟩
    case round =>
     clear H'
     try clear c1
     try clear p2
     try clear c6
     try clear c7
     try clear c9
     try clear c9b0
     try clear hcz8_0
     try clear hcz8_1
     try clear hcz8_2
     try clear hfz8_0
     try clear hfz8_1
     try clear hfz8_2
     try clear p2
     obtain ⟨x18_2, x340002_2, u340002, rfl, HA, HK2, HO_340002, BK337, BK338, BK339, HB⟩ := hrel
     cases gk with
     | zero => exact absurd HA.out (by simp [impl_makeChart__orbits_1.l1])
     | succ k2 =>
      have H := HA.out
      clear HA
      simp only [impl_makeChart__orbits_1.l1] at H
      by_cases c10 : x18_2 < a0
      ·rw [if_pos c10] at H
       have c10b0 : decide (x18_2 < a0) = true := decide_eq_true c10
       clear c10
       replace H := Option.bind_eq_some_iff.mp H
       obtain ⟨t340, A110, H⟩ := H
       replace H : (if x340002_2.length < 17592186044416 then (impl_makeChart__orbits_1.l1 k2 a0 x14_1 a1 x14_1 a0 (wrap64 (x18_2 + 1)) a2_0 a0 a1 (x340002_2 ++ [t340])) else (none)) = some (r1, r2, r3) := H
       have A11 := Aside0.mk A110
       clear A110
       by_cases c12 : x340002_2.length < 17592186044416
       ·rw [if_pos c12] at H
        have LMc12 := Aside0.mk c12
        clear c12
        obtain ⟨y341, hy341⟩ : ∃ y_ : List Int, y_ = (x340002_2 ++ [t340]) := ⟨_, rfl⟩
        replace H : (impl_makeChart__orbits_1.l1 k2 a0 x14_1 a1 x14_1 a0 (wrap64 (x18_2 + 1)) a2_0 a0 a1 y341) = some (r1, r2, r3) := by first | (rw [hy341]; with_reducible exact H) | (have H2_ := (Option.bind_some _ _).symm.trans H; rw [hy341]; with_reducible exact H2_) | (have H2_ := (Option.bind_some _ _).symm.trans H; with_reducible exact H2_) | with_reducible exact H | (rw [hy341]; exact H) | exact H
        have Ny341 := Aside0.mk hy341
        clear hy341
        have H' := Aside0.mk H
        clear H
        try go_wp2
        replace HO_340002 := Aside0.mk (Kd.R_drew HO_340002.out)
        replace BK337 := Aside0.mk (blk_drew BK337.out)
        replace BK338 := Aside0.mk (blk_drew BK338.out)
        replace BK339 := Aside0.mk (blk_drew BK339.out)
        replace HB := Aside0.mk (below_drew1 HB.out)
        refine start_ (n := 10) (S := fun w' => w'.cell? ⟨gb339, 0, none⟩ = some (.int .i64 a0) ∧ w'.cell? ⟨gb339, 1, none⟩ = some (.int .i64 a1) ∧ w'.cell? ⟨gb339, 2, none⟩ = some (u340002)) (ds := [9]) #[false, false, false, false, false, false, false, false, false, false] (by kernel_rfl) rfl rfl ⟨bc_ BK339 0, bc_ BK339 1, bc_ BK339 2⟩ (fun hHeld => ?_); refine with_tabW impl_makeChart__orbits_1.tab8 impl_makeChart__orbits_1.bits8 (fun HT_ HW_ => ?_)
        generalize wr.drew = w13 at HO_340002 BK337 BK338 BK339 HB hHeld ⊢
        refine pureA (N := some 21) 0 HT_ ?_
        refine pureA (N := some 23) 2 HT_ ?_
        refine pureA (N := some 24) 3 HT_ ?_
        refine pureA (N := some 25) 4 HT_ ?_
        refine takeA (N := some 22) 1 HT_ HW_ hHeld ?_
        refine oneA (N := some 26) 5 HT_ (fun K hK => ?_)
        refine goesVr_ Try.func255 (by kernel_rfl) rfl #[.int .i64 x14_1, .int .i64 x18_2, .pointer (some ⟨gb337, 0, none⟩)] (by rfl) rfl rfl (by first | rfl | (simp [Act.eval]; done)) (by first | rfl | (simp [Act.eval]; done)) ?_
        with_reducible refine (impl_orbits_1.calls x14_1 x18_2 gb337 a2_0 t340 _ ?side1 A11.out).mono ?_
        (case side1 => (with_reducible repeat (first | refine blk_drewN ?_ _ | refine blk_drew ?_ | refine blk_alloc ?_ _)); exact BK337.out)
        rintro e w14 ⟨rfl, hb⟩
        refine ⟨_, rfl, ?_⟩
        replace HO_340002 := Aside0.mk (Kd.R_below (ra_ HO_340002) hb)
        replace BK337 := bb_ BK337 hb
        replace BK338 := bb_ BK338 hb
        replace BK339 := bb_ BK339 hb
        replace HB := Aside0.mk (below_step (bw_ w) hb)
        (try clear hb)
        (try clear hb2)
        (try clear hk)
        (try clear hi)
        refine hK.out _ _ ⟨bc_ BK339 0, bc_ BK339 1, bc_ BK339 2⟩ (fun hHeld => ?_)
        clear hK K
        refine normA (N := some 26) ?_
        refine oneA (N := some 27) 6 HT_ (fun K hK => ?_)
        refine value_ (w1 := ?_) (v := ?_) (by rfl) rfl ?_ ?_
        rotate_left 2
        ·go_simp
         constructor
         ·rfl
         ·rfl
        refine hK.out _ _ ⟨(blk_cell (blk_alloc BK339.out _) 0).trans rfl, (blk_cell (blk_alloc BK339.out _) 1).trans rfl, (blk_cell (blk_alloc BK339.out _) 2).trans rfl⟩ (fun hHeld => ?_)
        clear hK K
        refine normA (N := some 27) ?_
        refine oneA (N := some 28) 7 HT_ (fun K hK => ?_)
        refine Kd.R_append_step (Kd.int .i64) (w0 := w) w.heap.size (by rfl) (.tmp 22) (.tmp 27) 22 3 (.int .i64 0) 8 rfl Try.underlying22 info3 rfl (by decide) (by omega) u340002 x340002_2 t340 [.int .i64 t340] (fun k_ => k_ ≠ gb337) (fun _ => False) rfl rfl ?aP (fun _ hk => hk.elim) ?aF ?aO ?aB ?aS ?aL ?_
        (case aP => exact rfl)
        (case aB => exact (bw_ w))
        (case aF => exact (fun k_ hk => Kd.freshB (g := gb337) (o := .cells #[.int .i64 a2_0] 3 (0, 0)) (bk_ BK337) k_ hk))
        (case aO => exact (ra_ HO_340002))
        (case aS => exact (below_size (bw_ w)))
        (case aL => have := LMc12.out; omega)
        intro v342 w15 ho hb hg hat
        rw [← Ny341.out] at ho
        replace BK337 := Aside0.mk (blk_grown (g := gb337) (o := .cells #[.int .i64 a2_0] 3 (0, 0)) (bk_ BK337) hg (Kd.R_away HO_340002.out (fun _ hk => hk)))
        replace BK338 := Aside0.mk (blk_grown (g := gb338) (o := .cells #[.int .i64 0, .int .i64 0, .slice none 0 0] 26 (0, 0)) (bk_ BK338) hg (Kd.R_ne HO_340002.out BK338.out (by decide)))
        replace BK339 := Aside0.mk (blk_grown (g := gb339) (o := .cells #[.int .i64 a0, .int .i64 a1, u340002] 26 (0, 0)) (bk_ BK339) hg (Kd.R_ne HO_340002.out BK339.out (by decide)))
        have HO343 := Aside0.mk (ho)
        replace HB := Aside0.mk (hb)
        clear HO_340002
        clear ho hb hg hat
        obtain ⟨Ao16, co16, eo16⟩ := Kd.R_slice HO343.out
        (first | subst eo16 | (injection eo16 with f1_ f2_ f3_; have f4_ := f1_.symm; have f5_ := f3_.symm; clear f1_ f2_ f3_; subst f4_; subst f5_))
        refine hK.out _ _ ⟨bc_ BK339 0, bc_ BK339 1, bc_ BK339 2⟩ (fun hHeld => ?_)
        clear hK K
        refine normA (N := some 28) ?_
        refine pureA (N := some 29) 8 HT_ ?_
        refine lastA (N := none) 9 HT_ (fun K hK => ?_)
        have hs17 : w15.cell? ⟨gb339, 2, none⟩ = some (u340002) := bc_ BK339 2
        have hfs17 := blk_frozen BK339.out 2
        have hns17_0 := NB337_339.out
        have hns17_1 := NB338_339.out
        have hms17_0 := NB339_337.out
        have hms17_1 := NB339_338.out
        refine skip_ (w1 := ?_) (by rfl) rfl ?_ ?_
        rotate_left
        ·go_simp
         rfl
        refine hK.out _ _ ?_
        clear hK K
        refine done_ (done_of HT_.out (by kernel_rfl)) ?_
        try go_wp2
        go_roundg k2
        case measure => have := HK1.out; have := HK2.out; omega
        case rel => exact ⟨(wrap64 (x18_2 + 1)), (y341), (.slice Ao16 y341.length co16), (by first | rfl | (simp; done) | (simp [*]; done)), H', ⟨by have := HK1.out; have := HK2.out; omega⟩, ⟨by exact rf_ (Kd.R_types HO343.out BK339.out (by decide)) (fun _ hk => hk.1)⟩, ⟨bk_ BK337⟩, ⟨bk_ BK338⟩, ⟨bq_ BK339⟩, ⟨(bw_ w)⟩⟩
       ·rw [if_neg c12] at H
        exact absurd H (by simp)
      ·rw [if_neg c10] at H
       have c10b0 : decide (x18_2 < a0) = false := decide_eq_false c10
       clear c10
       have H' := Aside0.mk H
       clear H
       go_wp2
       go_roundg k2
       case measure => have := HK1.out; have := HK2.out; omega
       case rel => exact ⟨(wrap64 (x14_1 + 1)), (x340002_2), (u340002), (by first | rfl | (simp; done) | (simp [*]; done)), H', ⟨by have := HK1.out; have := HK2.out; omega⟩, ⟨ra_ HO_340002⟩, ⟨bk_ BK337⟩, ⟨bk_ BK338⟩, ⟨bk_ BK339⟩, ⟨(bw_ w)⟩⟩
   ·rw [if_neg c9] at H
    have c9b0 : decide (x14_1 < a1) = false := decide_eq_false c9
    clear c9
    simp only [Option.some.injEq, Prod.mk.injEq] at H
    obtain ⟨rfl, rfl, rfl⟩ := H
    have hnb18 := NB339_337.out
    have hnc18 := NB337_339.out
    have hnb19 := NB339_338.out
    have hnc19 := NB338_339.out
    obtain ⟨hcz20_0, hcz20_1, hcz20_2, hfz20_0, hfz20_1, hfz20_2⟩ := bc3_ (w := wr) BK339
    have hnb21 := NB338_337.out
    have hnc21 := NB337_338.out
    obtain ⟨hcz22_0, hcz22_1, hcz22_2, hfz22_0, hfz22_1, hfz22_2⟩ := bc3_ (w := wr) BK338
    obtain ⟨Ao23, co23, eo23⟩ := Kd.R_slice HO_340002.out
    subst eo23
    go_wp2
    refine bodyPost_ret (results_cell_row rfl _ _ gb338 26 #[.int .i64 a0, .int .i64 a1, .slice Ao23 x340002_1.length co23] (0, 0) _ rfl (bq_ BK338) Try.underlying26 rfl (by kernel_rfl)) rfl ?_
    exact ⟨_, by first | rfl | (simp [errW_none, errW_some] <;> rfl) | (simp [*, errW_none, errW_some] <;> rfl), by exact rf_ (Kd.R_types HO_340002.out BK338.out (by decide)) (fun _ hk => trivial), (bw_ w)⟩

/-! ### impl_orbits: function 236 -/
mutual
def impl_orbits.l0 : Nat → List (List Int) → List Bool → Int → Int → Int → Int → List Int → Option ((List (List Int)) × Bool)
  | 0, _, _, _, _, _, _, _ => none
  | k + 1, x9, x29, x30, x31, x356000, x356001, x356002 => if x31 < x30 then (impl_orbits.l1 k x9 (([] : List Int)) x31 x29 x30 x31 x356000 x356001 x356002) else (some (x9, true))
def impl_orbits.l1 : Nat → List (List Int) → List Int → Int → List Bool → Int → Int → Int → Int → List Int → Option ((List (List Int)) × Bool)
  | 0, _, _, _, _, _, _, _, _, _ => none
  | k + 1, x9, x12, x13, x29, x30, x31, x356000, x356001, x356002 => if 0 ≤ x13 then (if x13 < (x29.length : Int) then (if rdOf false x29 x13 = true then (if (x12.length : Int) > 0 then (if x9.length < 5864062014805 then (impl_orbits.l0 k (x9 ++ [x12]) x29 x30 (wrap64 (x31 + 1)) x356000 x356001 x356002) else (none)) else (impl_orbits.l0 k x9 x29 x30 (wrap64 (x31 + 1)) x356000 x356001 x356002)) else (if x12.length < 17592186044416 then (if x13 < (x356002.length : Int) then (impl_orbits.l1 k x9 (x12 ++ [x13]) (rd x356002 x13) (x29.set (x13 : Int).toNat true) x30 x31 x356000 x356001 x356002) else (none)) else (none))) else (none)) else (none)
end
def impl_orbits.f (k : Nat) (a0 : Int) (a1 : Int) (a2 : Int) : Option ((List (List Int)) × Bool) := (impl_makeChart__orbits_1.f k a0 a1 a0).bind fun bt345 => ((impl_Chart_moved.f k bt345.1 bt345.2.1 bt345.2.2 a2).bind fun bt350 => (if bt350.1 = a0 then (if 0 ≤ (wrap64 (a0 * a1)) then (if (wrap64 (a0 * a1) : Int).toNat ≤ 281474976710656 then ((some (List.replicate (wrap64 (a0 * a1) : Int).toNat false : List Bool)).bind fun y359 => (impl_orbits.l0 k (([] : List (List Int))) y359 (y359.length : Int) 0 bt350.1 bt350.2.1 bt350.2.2)) else (none)) else (none)) else (some (([] : List (List Int)), false))))
theorem impl_orbits.mono_l : ∀ k, (∀ y0 y1 y2 y3 y4 y5 y6, LeO (impl_orbits.l0 k y0 y1 y2 y3 y4 y5 y6) (impl_orbits.l0 (k + 1) y0 y1 y2 y3 y4 y5 y6)) ∧ (∀ y0 y1 y2 y3 y4 y5 y6 y7 y8, LeO (impl_orbits.l1 k y0 y1 y2 y3 y4 y5 y6 y7 y8) (impl_orbits.l1 (k + 1) y0 y1 y2 y3 y4 y5 y6 y7 y8))
  | 0 => ⟨fun _ _ _ _ _ _ _ r h => by simp [impl_orbits.l0] at h, fun _ _ _ _ _ _ _ _ _ r h => by simp [impl_orbits.l1] at h⟩
  | k + 1 => by
    obtain ⟨ih0, ih1⟩ := impl_orbits.mono_l k
    refine ⟨?_, ?_⟩
    · intro y0 y1 y2 y3 y4 y5 y6
      unfold impl_orbits.l0
      repeat' first
      | (with_reducible exact ih0 _ _ _ _ _ _ _)
      | (with_reducible exact ih1 _ _ _ _ _ _ _ _ _)
      | (with_reducible exact impl_Chart_moved.mono _ _ _ _ _)
      | (with_reducible exact impl_makeChart__orbits_1.mono _ _ _ _)
      | (with_reducible exact LeO.refl _)
      | (with_reducible exact LeO.none _)
      | (with_reducible refine LeO.ite ?_ ?_)
      | (with_reducible refine LeO.bind ?_ (fun _ => ?_))
      | exact ih0 _ _ _ _ _ _ _
      | exact ih1 _ _ _ _ _ _ _ _ _
      | exact impl_Chart_moved.mono _ _ _ _ _
      | exact impl_makeChart__orbits_1.mono _ _ _ _
      | exact LeO.none _
      | refine LeO.ite ?_ ?_
      | refine LeO.bind ?_ (fun _ => ?_)
    · intro y0 y1 y2 y3 y4 y5 y6 y7 y8
      unfold impl_orbits.l1
      repeat' first
      | (with_reducible exact ih0 _ _ _ _ _ _ _)
      | (with_reducible exact ih1 _ _ _ _ _ _ _ _ _)
      | (with_reducible exact impl_Chart_moved.mono _ _ _ _ _)
      | (with_reducible exact impl_makeChart__orbits_1.mono _ _ _ _)
      | (with_reducible exact LeO.refl _)
      | (with_reducible exact LeO.none _)
      | (with_reducible refine LeO.ite ?_ ?_)
      | (with_reducible refine LeO.bind ?_ (fun _ => ?_))
      | exact ih0 _ _ _ _ _ _ _
      | exact ih1 _ _ _ _ _ _ _ _ _
      | exact impl_Chart_moved.mono _ _ _ _ _
      | exact impl_makeChart__orbits_1.mono _ _ _ _
      | exact LeO.none _
      | refine LeO.ite ?_ ?_
      | refine LeO.bind ?_ (fun _ => ?_)
theorem impl_orbits.mono : ∀ a0 a1 a2 k, LeO (impl_orbits.f k a0 a1 a2) (impl_orbits.f (k + 1) a0 a1 a2) := by
  intro a0 a1 a2 k
  obtain ⟨ih0, ih1⟩ := impl_orbits.mono_l k
  unfold impl_orbits.f
  repeat' first
      | (with_reducible exact ih0 _ _ _ _ _ _ _)
      | (with_reducible exact ih1 _ _ _ _ _ _ _ _ _)
      | (with_reducible exact impl_Chart_moved.mono _ _ _ _ _)
      | (with_reducible exact impl_makeChart__orbits_1.mono _ _ _ _)
      | (with_reducible exact LeO.refl _)
      | (with_reducible exact LeO.none _)
      | (with_reducible refine LeO.ite ?_ ?_)
      | (with_reducible refine LeO.bind ?_ (fun _ => ?_))
      | exact ih0 _ _ _ _ _ _ _
      | exact ih1 _ _ _ _ _ _ _ _ _
      | exact impl_Chart_moved.mono _ _ _ _ _
      | exact impl_makeChart__orbits_1.mono _ _ _ _
      | exact LeO.none _
      | refine LeO.ite ?_ ?_
      | refine LeO.bind ?_ (fun _ => ?_)
set_option maxHeartbeats 8000000 in
set_option maxRecDepth 100000 in
theorem impl_orbits.calls (k : Nat) (a0 : Int) (a1 : Int) (a2 : Int) (r1 : List (List Int)) (r2 : Bool) (w : World) (h : impl_orbits.f k a0 a1 a2 = some (r1, r2)) :
  Calls Try.prog 236 #[.int .i64 a0, .int .i64 a1, .int .i64 a2] w fun e w' => ∃ v0_ : Value, e = .returned (.tuple #[v0_, .bool r2]) ∧ Kd.S (Kd.slice 3 (Kd.int .i64)) 22 w' w.heap.size (fun _ => True) v0_ r1 ∧ Below w.heap.size w w' := by
 have hu26 := Try.underlying26
 have hmf_ : ∀ (f_ : Fn) (a_ b_ : Array Value) (W_ : World), (Instr.makeFunc f_ a_ b_).run Try.prog W_ = .ok (.func f_ a_ b_) W_ := fun _ _ _ _ => rfl
 have HB := Aside0.mk (Below.refl w.heap.size w)
 have H : ((impl_makeChart__orbits_1.f k a0 a1 a0).bind fun bt345 => ((impl_Chart_moved.f k bt345.1 bt345.2.1 bt345.2.2 a2).bind fun bt350 => (if bt350.1 = a0 then (if 0 ≤ (wrap64 (a0 * a1)) then (if (wrap64 (a0 * a1) : Int).toNat ≤ 281474976710656 then ((some (List.replicate (wrap64 (a0 * a1) : Int).toNat false : List Bool)).bind fun y359 => (impl_orbits.l0 k (([] : List (List Int))) y359 (y359.length : Int) 0 bt350.1 bt350.2.1 bt350.2.2)) else (none)) else (none)) else (some (([] : List (List Int)), false))))) = some (r1, r2) := h
 clear h
 replace H := Option.bind_eq_some_iff.mp H
 obtain ⟨⟨t345, t346, t347⟩, A40, H⟩ := H
 replace H : ((impl_Chart_moved.f k t345 t346 t347 a2).bind fun bt350 => (if bt350.1 = a0 then (if 0 ≤ (wrap64 (a0 * a1)) then (if (wrap64 (a0 * a1) : Int).toNat ≤ 281474976710656 then ((some (List.replicate (wrap64 (a0 * a1) : Int).toNat false : List Bool)).bind fun y359 => (impl_orbits.l0 k (([] : List (List Int))) y359 (y359.length : Int) 0 bt350.1 bt350.2.1 bt350.2.2)) else (none)) else (none)) else (some (([] : List (List Int)), false)))) = some (r1, r2) := H
 have A4 := Aside0.mk A40
 clear A40
 replace H := Option.bind_eq_some_iff.mp H
 obtain ⟨⟨t350, t351, t352⟩, A50, H⟩ := H
 replace H : (if t350 = a0 then (if 0 ≤ (wrap64 (a0 * a1)) then (if (wrap64 (a0 * a1) : Int).toNat ≤ 281474976710656 then ((some (List.replicate (wrap64 (a0 * a1) : Int).toNat false : List Bool)).bind fun y359 => (impl_orbits.l0 k (([] : List (List Int))) y359 (y359.length : Int) 0 t350 t351 t352)) else (none)) else (none)) else (some (([] : List (List Int)), false))) = some (r1, r2) := H
 have A5 := Aside0.mk A50
 clear A50
 by_cases c6 : t350 = a0
 ·rw [if_pos c6] at H
  have c6b0 : (t350 == a0) = true := beq_iff_eq.mpr c6
  have c6b1 : (t350 != a0) = false := bne_eq_false_iff_eq.mpr c6
  clear c6
  obtain ⟨y356, hy356⟩ : ∃ y_ : List (List Int), y_ = (([] : List (List Int))) := ⟨_, rfl⟩
  replace H : (if 0 ≤ (wrap64 (a0 * a1)) then (if (wrap64 (a0 * a1) : Int).toNat ≤ 281474976710656 then ((some (List.replicate (wrap64 (a0 * a1) : Int).toNat false : List Bool)).bind fun y359 => (impl_orbits.l0 k y356 y359 (y359.length : Int) 0 t350 t351 t352)) else (none)) else (none)) = some (r1, r2) := by first | (rw [hy356]; with_reducible exact H) | (have H2_ := (Option.bind_some _ _).symm.trans H; rw [hy356]; with_reducible exact H2_) | (have H2_ := (Option.bind_some _ _).symm.trans H; with_reducible exact H2_) | with_reducible exact H | (rw [hy356]; exact H) | exact H
  have Ny356 := Aside0.mk hy356
  clear hy356
  obtain ⟨ji7, hji7⟩ : ∃ j_ : Int, (wrap64 (a0 * a1)) = j_ := ⟨_, rfl⟩
  replace H : (if 0 ≤ (ji7) then (if (ji7 : Int).toNat ≤ 281474976710656 then ((some (List.replicate (ji7 : Int).toNat false : List Bool)).bind fun y359 => (impl_orbits.l0 k y356 y359 (y359.length : Int) 0 t350 t351 t352)) else (none)) else (none)) = some (r1, r2) := by first | (rw [hji7] at H; exact H) | (simp only [hji7] at H ⊢; exact H)
  (try rw [hji7] at A4)
  (try rw [hji7] at A5)
  have hji7w : (IntKind.i64.wrap (a0 * a1)) = ji7 := (i64_w _).trans hji7
  by_cases c8 : 0 ≤ (ji7)
  ·rw [if_pos c8] at H
   have c8b0 := eq_true c8
   have c8b1 : decide (0 ≤ (ji7)) = true := decide_eq_true c8
   clear c8
   by_cases c9 : (ji7 : Int).toNat ≤ 281474976710656
   ·rw [if_pos c9] at H
    have c9b0 := eq_true c9
    have c9b1 : decide ((ji7 : Int).toNat ≤ 281474976710656) = true := decide_eq_true c9
    clear c9
    obtain ⟨y359, hy359⟩ : ∃ y_ : List Bool, y_ = (List.replicate (ji7 : Int).toNat false) := ⟨_, rfl⟩
    replace H : (impl_orbits.l0 k y356 y359 (y359.length : Int) 0 t350 t351 t352) = some (r1, r2) := by first | (rw [hy359]; with_reducible exact H) | (have H2_ := (Option.bind_some _ _).symm.trans H; rw [hy359]; with_reducible exact H2_) | (have H2_ := (Option.bind_some _ _).symm.trans H; with_reducible exact H2_) | with_reducible exact H | (rw [hy359]; exact H) | exact H
    have Ny359 := Aside0.mk hy359
    clear hy359
    have H' := Aside0.mk H
    clear H
    go_enter Try.func236, Try.ntmps236
    try go_wp2_with (first | ((with_reducible refine gate_dst (N := 3) rfl ?_); refine box_ (N := 3) (cs := #[.int .i64 a0]) (t := 3) ?_; intro gb344 hg w10 hbox hb; have BK344 := Aside0.mk (hbox); have GW344 := gz_ w hg; have GE344 := gz_ w hg; replace HB := Aside0.mk (below_step (bw_ w) hb); clear hb hbox hg; obtain ⟨hcz11_0, hfz11_0⟩ := bc1_ (w := w10) BK344) | ((with_reducible refine gate_callee (f := 178) rfl ?_); refine goesB (some 17) Try.func178 #[.int .i64 a0, .int .i64 a1, (.func (.func 255) #[] #[.pointer (some ⟨gb344, 0, none⟩)])] ?_; (with_reducible refine (impl_makeChart__orbits_1.calls k a0 a1 gb344 a0 t345 t346 t347 _ ?side1 A4.out).mono ?_); (case side1 => (with_reducible repeat (first | refine blk_drewN ?_ _ | refine blk_drew ?_ | refine blk_alloc ?_ _)); exact BK344.out); rintro e w12 ⟨v348, rfl, ho0, hb⟩; refine ⟨_, rfl, ?_⟩; have HO349 := Aside0.mk (Kd.R_lower (Kd.R_newB ho0 (g := gb344) (o := .cells #[.int .i64 a0] 3 (0, 0)) (bk_ BK344)) (below_size (bw_ w))); replace BK344 := bb_ BK344 hb; replace HB := Aside0.mk (below_step (bw_ w) hb); (try clear hb); (try clear hb2); (try clear hk); (try clear hi); (try clear ho0); obtain ⟨Ao13, co13, eo13⟩ := Kd.R_slice HO349.out; subst eo13) | ((with_reducible refine gate_callee (f := 150) rfl ?_); refine goesB (some 19) Try.func150 #[.agg #[.int .i64 t345, .int .i64 t346, .slice Ao13 t347.length co13], .int .i64 a2] ?_; (with_reducible refine (impl_Chart_moved.calls k t345 t346 _ _ t347 a2 t350 t351 t352 _ ?side1 ?side2 A5.out).mono ?_); (case side1 => exact co_ (Kd.R_reads' HO349.out).2.2); (case side2 => exact (Kd.R_reads' HO349.out).2.1); rintro e w14 ⟨v353, rfl, ho0, hb⟩; refine ⟨_, rfl, ?_⟩; have n0_ := Aside0.mk (Kd.R_elder' (ra_ HO349) (Kd.R_base ho0) hb); have n1_ := Aside0.mk (Kd.R_lower (Kd.R_newB (Kd.R_new' ho0 (Kd.R_lt (ra_ HO349))) (g := gb344) (o := .cells #[.int .i64 a0] 3 (0, 0)) (bk_ BK344)) (below_size (bw_ w))); have n2_ := bb_ BK344 hb; have n3_ := Aside0.mk (below_step (bw_ w) hb); clear HO349; clear BK344; clear HB; have HO349 := n0_; have HO354 := n1_; have BK344 := n2_; have HB := n3_; clear n0_ n1_ n2_ n3_; (try clear hb); (try clear hb2); (try clear hk); (try clear hi); (try clear ho0)) | ((with_reducible refine gate_dst (N := 8) rfl ?_); refine box_ (N := 8) (cs := #[.int .i64 0, .int .i64 0, .slice none 0 0]) (t := 26) ?_; intro gb355 hg w15 hbox hb; have n0_ := Aside0.mk (Kd.R_below (ra_ HO349) hb); have n1_ := Aside0.mk (Kd.R_below (ra_ HO354) hb); have n2_ := bb_ BK344 hb; have n3_ := Aside0.mk (below_step (bw_ w) hb); have n4_ := Aside0.mk (hbox); have n5_ := gz_ w hg; have n6_ := gz_ w hg; have n7_ := ne_ hg BK344; have n8_ := en_ hg BK344; clear HO349; clear HO354; clear BK344; clear HB; have HO349 := n0_; have HO354 := n1_; have BK344 := n2_; have HB := n3_; have BK355 := n4_; have GW355 := n5_; have GE355 := n6_; have NB344_355 := n7_; have NB355_344 := n8_; clear n0_ n1_ n2_ n3_ n4_ n5_ n6_ n7_ n8_; clear hb hbox hg; have hnb16 := NB355_344.out; have hnc16 := NB344_355.out; obtain ⟨hcz17_0, hcz17_1, hcz17_2, hfz17_0, hfz17_1, hfz17_2⟩ := bc3_ (w := w15) BK355; obtain ⟨Ao18, co18, eo18⟩ := Kd.R_slice HO354.out; subst eo18; obtain ⟨hcz19_0, hfz19_0⟩ := bc1_ (w := w15) BK344))
    have n0_ : Aside0 (Kd.R (Kd.int .i64) 3 (((w15.setCell ⟨gb355, 0, none⟩ (.int .i64 t350)).setCell ⟨gb355, 1, none⟩ (.int .i64 t351)).setCell ⟨gb355, 2, none⟩ (.slice Ao18 t352.length co18)) w.heap.size (fun k_ => some k_ ≠ (.slice Ao18 t352.length co18 : Value).ownBlock ∧ k_ ≠ gb344) (.slice Ao13 t347.length co13) t347) := ⟨by exact rf_ (Kd.R_types HO349.out BK355.out (by decide)) (fun _ hk => ⟨hk.1.2, hk.1.1.2⟩)⟩
    have n1_ : Aside0 (Kd.R (Kd.int .i64) 3 (((w15.setCell ⟨gb355, 0, none⟩ (.int .i64 t350)).setCell ⟨gb355, 1, none⟩ (.int .i64 t351)).setCell ⟨gb355, 2, none⟩ (.slice Ao18 t352.length co18)) w.heap.size (fun k_ => some k_ ≠ (.slice Ao13 t347.length co13 : Value).ownBlock ∧ k_ ≠ gb344) (.slice Ao18 t352.length co18) t352) := ⟨by exact rf_ (Kd.R_types HO354.out BK355.out (by decide)) (fun _ hk => ⟨hk.1.1.2, hk.1.2⟩)⟩
    have n2_ : Aside0 ((((w15.setCell ⟨gb355, 0, none⟩ (.int .i64 t350)).setCell ⟨gb355, 1, none⟩ (.int .i64 t351)).setCell ⟨gb355, 2, none⟩ (.slice Ao18 t352.length co18)).heap[gb344]? = some (.cells #[.int .i64 a0] 3 (0, 0))) := ⟨bk_ BK344⟩
    have n3_ : Aside0 ((((w15.setCell ⟨gb355, 0, none⟩ (.int .i64 t350)).setCell ⟨gb355, 1, none⟩ (.int .i64 t351)).setCell ⟨gb355, 2, none⟩ (.slice Ao18 t352.length co18)).heap[gb355]? = some (.cells #[.int .i64 t350, .int .i64 t351, .slice Ao18 t352.length co18] 26 (0, 0))) := ⟨bq_ BK355⟩
    have n4_ : Aside0 (Below w.heap.size w (((w15.setCell ⟨gb355, 0, none⟩ (.int .i64 t350)).setCell ⟨gb355, 1, none⟩ (.int .i64 t351)).setCell ⟨gb355, 2, none⟩ (.slice Ao18 t352.length co18))) := ⟨(bw_ w)⟩
    (try clear HO349)
    (try clear HO354)
    (try clear BK344)
    (try clear BK355)
    (try clear HB)
    generalize (((w15.setCell ⟨gb355, 0, none⟩ (.int .i64 t350)).setCell ⟨gb355, 1, none⟩ (.int .i64 t351)).setCell ⟨gb355, 2, none⟩ (.slice Ao18 t352.length co18)) = w20 at n0_ n1_ n2_ n3_ n4_ ⊢
    have HO349 := n0_
    have HO354 := n1_
    have BK344 := n2_
    have BK355 := n3_
    have HB := n4_
    clear n0_ n1_ n2_ n3_ n4_
    replace HO349 := Aside0.mk (Kd.R_drew HO349.out)
    replace HO354 := Aside0.mk (Kd.R_drew HO354.out)
    replace BK344 := Aside0.mk (blk_drew BK344.out)
    replace BK355 := Aside0.mk (blk_drew BK355.out)
    replace HB := Aside0.mk (below_drew1 HB.out)
    refine start_ (n := 7) (S := fun w' => w'.cell? ⟨gb344, 0, none⟩ = some (.int .i64 a0)) (ds := []) #[false, false, false, false, false, false, false] (by kernel_rfl) rfl rfl (bc_ BK344 0) (fun hHeld => ?_)
    generalize w20.drew = w21 at HO349 HO354 BK344 BK355 HB hHeld ⊢
    refine pureK (N := some 26) 2 ?_
    refine take_ (i := 1) (N := some 25) (v := ?_) (a' := ?_) #[false, true, true, false, false, false, false] rfl rfl (by kernel_rfl) (fun _ _ _ h => h) (Or.inl ⟨by rfl, ?_⟩) hHeld ?_ ?_
    rotate_left
    ·intro w' s0
     go_simp
     with_reducible rfl
    rotate_left
    ·simp only [Act.put, List.setIfInBounds_toArray, List.set_cons_zero, List.set_cons_succ, i64_w, i32_w]
     rfl
    refine pureK (N := some 27) 3 ?_
    refine join_ (σ := Value × Value) 1 #[true, true, true, true, true, true, false] (fun s_ => [(24, s_.1), (28, s_.2), (9, s_.1)]) (fun s_ w' => (w'.cell? ⟨gb344, 0, none⟩ = some (.int .i64 a0)) ∧ (Kd.R (Kd.int .i64) 3 w' w.heap.size (fun k_ => some k_ ≠ (.slice Ao18 t352.length co18 : Value).ownBlock ∧ k_ ≠ gb344) (.slice Ao13 t347.length co13) t347) ∧ (Kd.R (Kd.int .i64) 3 w' w.heap.size (fun k_ => some k_ ≠ (.slice Ao13 t347.length co13 : Value).ownBlock ∧ k_ ≠ gb344) (.slice Ao18 t352.length co18) t352) ∧ (Kd.S (Kd.slice 3 (Kd.int .i64)) 22 w' w.heap.size (fun k_ => some k_ ≠ (.slice Ao13 t347.length co13 : Value).ownBlock ∧ some k_ ≠ (.slice Ao18 t352.length co18 : Value).ownBlock ∧ k_ ≠ gb344) s_.1 y356) ∧ (Kd.R Kd.bool 4 w' w.heap.size (fun _ => True) s_.2 y359) ∧ (w'.heap[gb344]? = some (.cells #[.int .i64 a0] 3 (0, 0))) ∧ (w'.heap[gb355]? = some (.cells #[.int .i64 t350, .int .i64 t351, .slice Ao18 t352.length co18] 26 (0, 0))) ∧ (Below w.heap.size w w')) ?_ ?_
    rotate_left
    ·intro hCont
     refine two_ (i := 0) (j := 4) (Ni := some 24) (Nj := some 28) #[true, true, true, true, false, false, false] #[false, true, true, true, true, false, false] rfl rfl rfl rfl (by kernel_rfl) (by decide) (by decide) (fun K hK => ?_) (fun K hK => ?_)
     ·skip
      refine Kd.S_lit_step (Kd.slice 3 (Kd.int .i64)) _ 22 ?hg (N := 24) ?hd (xs := ([] : List (List Int))) (inner := []) (ok := fun _ => True) (okp := fun _ => True) ?hr ?hp (fun _ hk => hk) trivial (Below.refl _ _) (Nat.le_refl _) (by simp) ?_; (case hd => rfl); (case hg => rfl); (case hr => first | (go_simp; done) | (go_simp; rfl)); (case hp => exact (Reps.none _ _))
      intro v357 w22 ho23 hb hg_ hnew_
      clear hg_ hnew_
      (first | rw [← Ny356.out] at ho23 | (simp only [Int.reduceToNat] at ho23; rw [← Ny356.out] at ho23))
      have n0_ := Aside0.mk (Kd.R_below (ra_ HO349) hb)
      have n1_ := Aside0.mk (Kd.R_below (ra_ HO354) hb)
      have n2_ := Aside0.mk (Kd.S_lower (Kd.S_newB (Kd.S_new' (Kd.S_new' ho23 (Kd.R_lt (ra_ HO349))) (Kd.R_lt (ra_ HO354))) (g := gb344) (o := .cells #[.int .i64 a0] 3 (0, 0)) (bk_ BK344)) (below_size (bw_ w)))
      have n3_ := bb_ BK344 hb
      have n4_ := bb_ BK355 hb
      have n5_ := Aside0.mk (below_step (bw_ w) hb)
      clear HO349
      clear HO354
      clear BK344
      clear BK355
      clear HB
      have HO349 := n0_
      have HO354 := n1_
      have HO358 := n2_
      have BK344 := n3_
      have BK355 := n4_
      have HB := n5_
      clear n0_ n1_ n2_ n3_ n4_ n5_
      clear hb ho23
      refine hK.out _ _ (bc_ BK344 0) (fun hHeld => ?_)
      clear hK K
      refine normA (N := some 24) ?_
      refine pureK (N := some 9) 5 ?_
      refine one_ (i := 4) (N := some 28) #[true, true, true, true, true, true, false] rfl rfl (by kernel_rfl) (by decide) (fun K hK => ?_)
      refine Kd.R_make_step Kd.bool _ 4 (by rfl) (N := 28) rfl 150 _ _ rfl ji7 rfl rfl Try.underlying150 (.bool false) 1 info4 rfl (by decide) (by omega) false (ok := fun _ => True) (okp := fun _ => True) rfl (fun _ hk => hk) trivial (of_decide_eq_true (by first | (with_reducible assumption) | assumption)) (Nat.le_trans (Nat.mul_le_mul_right _ (of_decide_eq_true (by first | (with_reducible assumption) | assumption) : ji7.toNat ≤ 281474976710656)) (by omega)) (Below.refl _ _) (Nat.le_refl _) ?_
      intro v360 w24 ho25 hb hg_ hnew_
      clear hg_ hnew_
      (first | rw [← Ny359.out] at ho25 | (simp only [Int.reduceToNat] at ho25; rw [← Ny359.out] at ho25))
      have n0_ := Aside0.mk (Kd.R_below (ra_ HO349) hb)
      have n1_ := Aside0.mk (Kd.R_below (ra_ HO354) hb)
      have n2_ := Aside0.mk (Kd.S_below (by (with_reducible repeat (first | apply Kd.S_alloc | apply Kd.S_drewN | apply Kd.S_drew)); exact HO358.out) hb)
      have n3_ := Aside0.mk (Kd.R_lower ho25 (below_size (bw_ w)))
      have n4_ := bb_ BK344 hb
      have n5_ := bb_ BK355 hb
      have n6_ := Aside0.mk (below_step (bw_ w) hb)
      clear HO349
      clear HO354
      clear HO358
      clear BK344
      clear BK355
      clear HB
      have HO349 := n0_
      have HO354 := n1_
      have HO358 := n2_
      have HO361 := n3_
      have BK344 := n4_
      have BK355 := n5_
      have HB := n6_
      clear n0_ n1_ n2_ n3_ n4_ n5_ n6_
      clear hb ho25
      refine hK.out _ _ (bc_ BK344 0) (fun hHeld => ?_)
      clear hK K
      refine normA (N := some 28) ?_
      exact norm_ (by simp only [putAll, Act.put, List.setIfInBounds_toArray, List.set_cons_zero, List.set_cons_succ]) (hCont (v357, v360) _ ⟨hHeld, (ra_ HO349), (ra_ HO354), (by (with_reducible repeat (first | apply Kd.S_alloc | apply Kd.S_drewN | apply Kd.S_drew)); exact Kd.S_mono HO358.out (fun _ hk => ⟨hk.1.1.2, ⟨hk.1.2, hk.2⟩⟩)), (ra_ HO361), (bk_ BK344), (bk_ BK355), (bw_ w)⟩)
     ·skip
      refine Kd.R_make_step Kd.bool _ 4 (by rfl) (N := 28) rfl 150 _ _ rfl ji7 rfl rfl Try.underlying150 (.bool false) 1 info4 rfl (by decide) (by omega) false (ok := fun _ => True) (okp := fun _ => True) rfl (fun _ hk => hk) trivial (of_decide_eq_true (by first | (with_reducible assumption) | assumption)) (Nat.le_trans (Nat.mul_le_mul_right _ (of_decide_eq_true (by first | (with_reducible assumption) | assumption) : ji7.toNat ≤ 281474976710656)) (by omega)) (Below.refl _ _) (Nat.le_refl _) ?_
      intro v360 w22 ho23 hb hg_ hnew_
      clear hg_ hnew_
      (first | rw [← Ny359.out] at ho23 | (simp only [Int.reduceToNat] at ho23; rw [← Ny359.out] at ho23))
      replace HO349 := Aside0.mk (Kd.R_below (ra_ HO349) hb)
      replace HO354 := Aside0.mk (Kd.R_below (ra_ HO354) hb)
      have HO361 := Aside0.mk (Kd.R_lower ho23 (below_size (bw_ w)))
      replace BK344 := bb_ BK344 hb
      replace BK355 := bb_ BK355 hb
      replace HB := Aside0.mk (below_step (bw_ w) hb)
      clear hb ho23
      refine hK.out _ _ (bc_ BK344 0) (fun hHeld => ?_)
      clear hK K
      refine normA (N := some 28) ?_
      refine one_ (i := 0) (N := some 24) #[true, true, true, true, true, false, false] rfl rfl (by kernel_rfl) (by decide) (fun K hK => ?_)
      refine Kd.S_lit_step (Kd.slice 3 (Kd.int .i64)) _ 22 ?hg (N := 24) ?hd (xs := ([] : List (List Int))) (inner := []) (ok := fun _ => True) (okp := fun _ => True) ?hr ?hp (fun _ hk => hk) trivial (Below.refl _ _) (Nat.le_refl _) (by simp) ?_; (case hd => rfl); (case hg => rfl); (case hr => first | (go_simp; done) | (go_simp; rfl)); (case hp => exact (Reps.none _ _))
      intro v357 w24 ho25 hb hg_ hnew_
      clear hg_ hnew_
      (first | rw [← Ny356.out] at ho25 | (simp only [Int.reduceToNat] at ho25; rw [← Ny356.out] at ho25))
      have n0_ := Aside0.mk (Kd.R_below (ra_ HO349) hb)
      have n1_ := Aside0.mk (Kd.R_below (ra_ HO354) hb)
      have n2_ := Aside0.mk (Kd.R_below (ra_ HO361) hb)
      have n3_ := Aside0.mk (Kd.S_lower (Kd.S_newB (Kd.S_new' (Kd.S_new' ho25 (Kd.R_lt (ra_ HO349))) (Kd.R_lt (ra_ HO354))) (g := gb344) (o := .cells #[.int .i64 a0] 3 (0, 0)) (bk_ BK344)) (below_size (bw_ w)))
      have n4_ := bb_ BK344 hb
      have n5_ := bb_ BK355 hb
      have n6_ := Aside0.mk (below_step (bw_ w) hb)
      clear HO349
      clear HO354
      clear HO361
      clear BK344
      clear BK355
      clear HB
      have HO349 := n0_
      have HO354 := n1_
      have HO361 := n2_
      have HO358 := n3_
      have BK344 := n4_
      have BK355 := n5_
      have HB := n6_
      clear n0_ n1_ n2_ n3_ n4_ n5_ n6_
      clear hb ho25
      refine hK.out _ _ (bc_ BK344 0) (fun hHeld => ?_)
      clear hK K
      refine normA (N := some 24) ?_
      refine pureK (N := some 9) 5 ?_
      exact norm_ (by simp only [putAll, Act.put, List.setIfInBounds_toArray, List.set_cons_zero, List.set_cons_succ]) (hCont (v357, v360) _ ⟨hHeld, (ra_ HO349), (ra_ HO354), (by (with_reducible repeat (first | apply Kd.S_alloc | apply Kd.S_drewN | apply Kd.S_drew)); exact Kd.S_mono HO358.out (fun _ hk => ⟨hk.1.1.2, ⟨hk.1.2, hk.2⟩⟩)), (ra_ HO361), (bk_ BK344), (bk_ BK355), (bw_ w)⟩)
    rintro ⟨v357, v360⟩ w26 ⟨hS_, h0_, h1_, h2_, h3_, h4_, h5_, h6_⟩
    have n0_ : Aside0 (Kd.R (Kd.int .i64) 3 w26 w.heap.size (fun k_ => some k_ ≠ (.slice Ao18 t352.length co18 : Value).ownBlock ∧ k_ ≠ gb344) (.slice Ao13 t347.length co13) t347) := ⟨h0_⟩
    have n1_ : Aside0 (Kd.R (Kd.int .i64) 3 w26 w.heap.size (fun k_ => some k_ ≠ (.slice Ao13 t347.length co13 : Value).ownBlock ∧ k_ ≠ gb344) (.slice Ao18 t352.length co18) t352) := ⟨h1_⟩
    have n2_ : Aside0 (Kd.S (Kd.slice 3 (Kd.int .i64)) 22 w26 w.heap.size (fun k_ => some k_ ≠ (.slice Ao13 t347.length co13 : Value).ownBlock ∧ some k_ ≠ (.slice Ao18 t352.length co18 : Value).ownBlock ∧ k_ ≠ gb344) v357 y356) := ⟨h2_⟩
    have n3_ : Aside0 (Kd.R Kd.bool 4 w26 w.heap.size (fun _ => True) v360 y359) := ⟨h3_⟩
    have n4_ : Aside0 (w26.heap[gb344]? = some (.cells #[.int .i64 a0] 3 (0, 0))) := ⟨h4_⟩
    have n5_ : Aside0 (w26.heap[gb355]? = some (.cells #[.int .i64 t350, .int .i64 t351, .slice Ao18 t352.length co18] 26 (0, 0))) := ⟨h5_⟩
    have n6_ : Aside0 (Below w.heap.size w w26) := ⟨h6_⟩
    clear HO349
    clear HO354
    clear BK344
    clear BK355
    clear HB
    clear h0_ h1_ h2_ h3_ h4_ h5_ h6_
    have HO349 := n0_
    have HO354 := n1_
    have HO358 := n2_
    have HO361 := n3_
    have BK344 := n4_
    have BK355 := n5_
    have HB := n6_
    clear n0_ n1_ n2_ n3_ n4_ n5_ n6_
    have hHeld : w26.cell? ⟨gb344, 0, none⟩ = some (.int .i64 a0) := hS_
    refine norm_ (a' := ?_) ?_ ?_
    rotate_left
    ·simp only [putAll, Act.put, List.setIfInBounds_toArray, List.set_cons_zero, List.set_cons_succ]
     rfl
    refine pureK (N := some 10) 6 ?_
    refine done_ (by kernel_rfl) ?_
    obtain ⟨Ao27, co27, eo27⟩ := Kd.R_slice HO361.out
    subst eo27
    try go_wp2
    go_loopg [9, 31] k (fun kq v9 v31 w' => ∃ (x9_1 : List (List Int)) (x29_1 : List Bool) (x31_1 : Int), v31 = .int .i64 x31_1 ∧ Aside0 (impl_orbits.l0 kq x9_1 x29_1 (y359.length : Int) x31_1 t350 t351 t352 = some (r1, r2)) ∧ Aside0 (kq ≤ k) ∧ Aside0 (Kd.S (Kd.slice 3 (Kd.int .i64)) 22 w' w.heap.size (fun k_ => some k_ ≠ ((.slice Ao18 t352.length co18) : Value).ownBlock ∧ k_ ≠ gb344) v9 x9_1) ∧ Aside0 (Kd.R Kd.bool 4 w' w.heap.size (fun _ => True) (.slice Ao27 y359.length co27) x29_1) ∧ Aside0 (Kd.R (Kd.int .i64) 3 w' w.heap.size (fun k_ => k_ ≠ gb344) (.slice Ao18 t352.length co18) t352) ∧ Aside0 (w'.heap[gb344]? = some (.cells #[.int .i64 a0] 3 (0, 0))) ∧ Aside0 (w'.heap[gb355]? = some (.cells #[.int .i64 t350, .int .i64 t351, (.slice Ao18 t352.length co18)] 26 (0, 0))) ∧ Aside0 (Below w.heap.size w w'))
    case atStart => exact ⟨(y356), (y359), (0), (by first | rfl | (simp; done) | (simp [*]; done)), H', ⟨Nat.le_refl _⟩, ⟨by (with_reducible repeat (first | apply Kd.S_alloc | apply Kd.S_drewN | apply Kd.S_drew)); exact Kd.S_mono HO358.out (fun _ hk => ⟨hk.2.1, hk.2.2⟩)⟩, ⟨ra_ HO361⟩, ⟨by exact rf_ HO354.out (fun _ hk => hk.2)⟩, ⟨bk_ BK344⟩, ⟨bk_ BK355⟩, ⟨(bw_ w)⟩⟩
    case round =>
     clear H'
     try clear c1
     try clear c2
     try clear p2
     try clear c6
     try clear c6b0
     try clear c6b1
     try clear p6
     try clear c8
     try clear c8b0
     try clear c8b1
     try clear c9
     try clear c9b0
     try clear c9b1
     try clear c15
     try clear c16
     try clear c17
     try clear c23
     try clear hcz11_0
     try clear hcz17_0
     try clear hcz17_1
     try clear hcz17_2
     try clear hcz19_0
     try clear hfz11_0
     try clear hfz17_0
     try clear hfz17_1
     try clear hfz17_2
     try clear hfz19_0
     obtain ⟨x9_1, x29_1, x31_1, rfl, HA, HK1, HO_9, HO_29, HO_356002, BK344, BK355, HB⟩ := hrel
     have hl29_1 := (Kd.R_reads' HO_29.out).1
     rw [hl29_1] at HO_29
     (try simp only [hl29_1])
     (try simp only [hl29_1] at BK344)
     (try simp only [hl29_1] at BK355)
     (try simp only [hl29_1] at HO_9)
     (try simp only [hl29_1] at HO_356002)
     cases gk with
     | zero => exact absurd HA.out (by simp [impl_orbits.l0])
     | succ k1 =>
      have H := HA.out
      clear HA
      simp only [impl_orbits.l0] at H
      by_cases c28 : x31_1 < (y359.length : Int)
      ·rw [if_pos c28] at H
       have c28b0 : decide (x31_1 < (y359.length : Int)) = true := decide_eq_true c28
       (try simp only [hl29_1] at c28b0)
       clear c28
       obtain ⟨y362, hy362⟩ : ∃ y_ : List Int, y_ = (([] : List Int)) := ⟨_, rfl⟩
       replace H : (impl_orbits.l1 k1 x9_1 y362 x31_1 x29_1 (y359.length : Int) x31_1 t350 t351 t352) = some (r1, r2) := by first | (rw [hy362]; with_reducible exact H) | (have H2_ := (Option.bind_some _ _).symm.trans H; rw [hy362]; with_reducible exact H2_) | (have H2_ := (Option.bind_some _ _).symm.trans H; with_reducible exact H2_) | with_reducible exact H | (rw [hy362]; exact H) | exact H
       have Ny362 := Aside0.mk hy362
       clear hy362
       have H' := Aside0.mk H
       clear H
       go_wp2_with (first | ((with_reducible refine gate_dst (N := 34) rfl ?_); refine Kd.R_lit (Kd.int .i64) _ 3 ?hg (N := 34) ?hd (xs := ([] : List Int)) (inner := []) (ok := fun _ => True) (okp := fun _ => True) ?hr ?hp (fun _ hk => hk) trivial (Below.refl _ _) (Nat.le_refl _) (by simp) ?_; (case hd => rfl); (case hg => rfl); (case hr => first | (go_simp; done) | (go_simp; rfl)); (case hp => exact (Reps.none _ _)); intro v363 w29 ho30 hb hg_ hnew_; clear hg_ hnew_; (first | rw [← Ny362.out] at ho30 | (simp only [Int.reduceToNat] at ho30; rw [← Ny362.out] at ho30)); have n0_ := Aside0.mk (Kd.S_elder' (by (with_reducible repeat (first | apply Kd.S_alloc | apply Kd.S_drewN | apply Kd.S_drew)); exact HO_9.out) (Kd.R_base ho30) hb); have n1_ := Aside0.mk (Kd.R_below (ra_ HO_29) hb); have n2_ := Aside0.mk (Kd.R_elder' (ra_ HO_356002) (Kd.R_base ho30) hb); have n3_ := Aside0.mk (Kd.R_lower (Kd.R_newB (Kd.R_new' ho30 (Kd.R_lt (ra_ HO_356002))) (g := gb344) (o := .cells #[.int .i64 a0] 3 (0, 0)) (bk_ BK344)) (below_size (bw_ w))); have n4_ := bb_ BK344 hb; have n5_ := bb_ BK355 hb; have n6_ := Aside0.mk (below_step (bw_ w) hb); clear HO_9; clear HO_29; clear HO_356002; clear BK344; clear BK355; clear HB; have HO_9 := n0_; have HO_29 := n1_; have HO_356002 := n2_; have HO364 := n3_; have BK344 := n4_; have BK355 := n5_; have HB := n6_; clear n0_ n1_ n2_ n3_ n4_ n5_ n6_; clear hb ho30))
       go_loopg [12, 13] k1 (fun kq v12 v13 w' => ∃ (x12_2 : List Int) (x13_2 : Int) (x29_2 : List Bool), v13 = .int .i64 x13_2 ∧ Aside0 (impl_orbits.l1 kq x9_1 x12_2 x13_2 x29_2 (y359.length : Int) x31_1 t350 t351 t352 = some (r1, r2)) ∧ Aside0 (kq ≤ k1) ∧ Aside0 (Kd.S (Kd.slice 3 (Kd.int .i64)) 22 w' w.heap.size (fun k_ => some k_ ≠ (v12 : Value).ownBlock ∧ some k_ ≠ ((.slice Ao18 t352.length co18) : Value).ownBlock ∧ k_ ≠ gb344) u9 x9_1) ∧ Aside0 (Kd.R (Kd.int .i64) 3 w' w.heap.size (fun k_ => some k_ ≠ ((.slice Ao18 t352.length co18) : Value).ownBlock ∧ k_ ≠ gb344) v12 x12_2) ∧ Aside0 (Kd.R Kd.bool 4 w' w.heap.size (fun _ => True) (.slice Ao27 x29_1.length co27) x29_2) ∧ Aside0 (Kd.R (Kd.int .i64) 3 w' w.heap.size (fun k_ => some k_ ≠ (v12 : Value).ownBlock ∧ k_ ≠ gb344) (.slice Ao18 t352.length co18) t352) ∧ Aside0 (w'.heap[gb344]? = some (.cells #[.int .i64 a0] 3 (0, 0))) ∧ Aside0 (w'.heap[gb355]? = some (.cells #[.int .i64 t350, .int .i64 t351, (.slice Ao18 t352.length co18)] 26 (0, 0))) ∧ Aside0 (Below w.heap.size w w'))
       case atStart => exact ⟨(y362), (x31_1), (x29_1), (by first | rfl | (simp; done) | (simp [*]; done)), H', ⟨Nat.le_refl _⟩, ⟨by (try simp only [hl29_1]); (with_reducible repeat (first | apply Kd.S_alloc | apply Kd.S_drewN | apply Kd.S_drew)); exact Kd.S_mono HO_9.out (fun _ hk => ⟨hk.2, ⟨hk.1.1, hk.1.2⟩⟩)⟩, ⟨by (try simp only [hl29_1]); (with_reducible repeat (first | apply Kd.R_alloc | apply Kd.R_drewN | apply Kd.R_drew)); exact Kd.R_mono HO364.out (fun _ hk => ⟨hk.1.2, hk.2⟩)⟩, ⟨by (try simp only [hl29_1]); (with_reducible repeat (first | apply Kd.R_alloc | apply Kd.R_drewN | apply Kd.R_drew)); exact HO_29.out⟩, ⟨by (try simp only [hl29_1]); (with_reducible repeat (first | apply Kd.R_alloc | apply Kd.R_drewN | apply Kd.R_drew)); exact Kd.R_mono HO_356002.out (fun _ hk => ⟨hk.2, hk.1⟩)⟩, ⟨by (try simp only [hl29_1]); (with_reducible repeat (first | refine blk_drewN ?_ _ | refine blk_drew ?_ | refine blk_alloc ?_ _)); exact BK344.out⟩, ⟨by (try simp only [hl29_1]); (with_reducible repeat (first | refine blk_drewN ?_ _ | refine blk_drew ?_ | refine blk_alloc ?_ _)); exact BK355.out⟩, ⟨(bw_ w)⟩⟩
       case round =>
        clear H'
        try clear c1
        try clear c2
        try clear p2
        try clear c6
        try clear c6b0
        try clear c6b1
        try clear p6
        try clear c8
        try clear c8b0
        try clear c8b1
        try clear c9
        try clear c9b0
        try clear c9b1
        try clear c15
        try clear c16
        try clear c17
        try clear c23
        try clear c28
        try clear c28b0
        try clear hcz11_0
        try clear hcz17_0
        try clear hcz17_1
        try clear hcz17_2
        try clear hcz19_0
        try clear hfz11_0
        try clear hfz17_0
        try clear hfz17_1
        try clear hfz17_2
        try clear hfz19_0
        try clear p2
        try clear p6
        obtain ⟨x12_2, x13_2, x29_2, rfl, HA, HK2, HO_9, HO_12, HO_29, HO_356002, BK344, BK355, HB⟩ := hrel
        have hl29_2 := (Kd.R_reads' HO_29.out).1
        rw [hl29_2] at HO_29
        (try simp only [hl29_2])
        (try simp only [hl29_2] at BK344)
        (try simp only [hl29_2] at BK355)
        (try simp only [hl29_2] at HO_9)
        (try simp only [hl29_2] at HO_12)
        (try simp only [hl29_2] at HO_356002)
        cases gk with
        | zero => exact absurd HA.out (by simp [impl_orbits.l1])
        | succ k2 =>
         have H := HA.out
         clear HA
         simp only [impl_orbits.l1] at H
         by_cases c31 : 0 ≤ x13_2
         ·rw [if_pos c31] at H
          have c31b0 : decide (0 ≤ x13_2) = true := decide_eq_true c31
          clear c31
          by_cases c32 : x13_2 < (x29_2.length : Int)
          ·rw [if_pos c32] at H
           have c32b0 : decide (x13_2 < (x29_2.length : Int)) = true := decide_eq_true c32
           (try simp only [hl29_1, hl29_2] at c32b0)
           clear c32
           obtain ⟨bq33, hbq33⟩ : ∃ b_ : Bool, b_ = (rdOf false x29_2 x13_2) := ⟨_, rfl⟩
           replace H : (if bq33 = true then (if (x12_2.length : Int) > 0 then (if x9_1.length < 5864062014805 then (impl_orbits.l0 k2 (x9_1 ++ [x12_2]) x29_2 (y359.length : Int) (wrap64 (x31_1 + 1)) t350 t351 t352) else (none)) else (impl_orbits.l0 k2 x9_1 x29_2 (y359.length : Int) (wrap64 (x31_1 + 1)) t350 t351 t352)) else (if x12_2.length < 17592186044416 then (if x13_2 < (t352.length : Int) then (impl_orbits.l1 k2 x9_1 (x12_2 ++ [x13_2]) (rd t352 x13_2) (x29_2.set (x13_2 : Int).toNat true) (y359.length : Int) x31_1 t350 t351 t352) else (none)) else (none))) = some (r1, r2) := by rw [← hbq33] at H; exact H
           have Nbq33 := Aside0.mk hbq33
           clear hbq33
           by_cases c34 : bq33 = true
           ·subst c34
            have H1 : (if (x12_2.length : Int) > 0 then (if x9_1.length < 5864062014805 then (impl_orbits.l0 k2 (x9_1 ++ [x12_2]) x29_2 (y359.length : Int) (wrap64 (x31_1 + 1)) t350 t351 t352) else (none)) else (impl_orbits.l0 k2 x9_1 x29_2 (y359.length : Int) (wrap64 (x31_1 + 1)) t350 t351 t352)) = some (r1, r2) := by rw [if_pos rfl] at H; exact H
            clear H
            have H := H1
            clear H1
            by_cases c35 : (x12_2.length : Int) > 0
            ·rw [if_pos c35] at H
             have c35b0 : decide (0 < (x12_2.length : Int)) = true := decide_eq_true c35
             have c35b1 : decide (0 < x12_2.length) = true := decide_eq_true (by omega)
             (try simp only [hl29_1, hl29_2] at c35b0)
             (try simp only [hl29_1, hl29_2] at c35b1)
             clear c35
             by_cases c36 : x9_1.length < 5864062014805
             ·rw [if_pos c36] at H
              have LMc36 := Aside0.mk c36
              clear c36
              obtain ⟨y366, hy366⟩ : ∃ y_ : List (List Int), y_ = (x9_1 ++ [x12_2]) := ⟨_, rfl⟩
              replace H : (impl_orbits.l0 k2 y366 x29_2 (y359.length : Int) (wrap64 (x31_1 + 1)) t350 t351 t352) = some (r1, r2) := by first | (rw [hy366]; with_reducible exact H) | (have H2_ := (Option.bind_some _ _).symm.trans H; rw [hy366]; with_reducible exact H2_) | (have H2_ := (Option.bind_some _ _).symm.trans H; with_reducible exact H2_) | with_reducible exact H | (rw [hy366]; exact H) | exact H
              have Ny366 := Aside0.mk hy366
              clear hy366
              have H' := Aside0.mk H
              clear H
              have p365 : 0 ≤ (x13_2 : Int) := of_decide_eq_true (by first | (with_reducible assumption) | assumption)
              have q365 : x13_2 < (x29_2.length : Int) := of_decide_eq_true (by first | (with_reducible assumption) | assumption)
              obtain ⟨ad365, e365, hx365_0⟩ := Kd.at_bool (Kd.R_reads' HO_29.out).2.2 x13_2 p365 q365
              (try rw [← Nbq33.out] at hx365_0)
              cases e365
              replace p365 := eq_true p365
              replace q365 := eq_true q365
              obtain ⟨Ao37, co37, eo37⟩ := Kd.R_slice HO_12.out
              subst eo37
              go_wp2_with (first | ((with_reducible refine gate_builtin (b := .append) (xs := #[.tmp 56, .tmp 58]) rfl ?_); at_builtin; refine Kd.S_append (Kd.slice 3 (Kd.int .i64)) (w0 := w) w.heap.size rfl (.tmp 56) (.tmp 58) 140 22 (.slice none 0 0) 24 rfl Try.underlying140 info22 rfl (by decide) (by omega) u9 x9_1 x12_2 [.slice Ao37 x12_2.length co37] (fun k_ => some k_ ≠ (.slice Ao18 t352.length co18 : Value).ownBlock ∧ k_ ≠ gb344) (fun k_ => some k_ = (.slice Ao37 x12_2.length co37 : Value).ownBlock) rfl rfl ?aP (fun k_ hk_ => ((Kd.R_mono (ok' := fun k_ => ((fun k_ => some k_ ≠ (.slice Ao18 t352.length co18 : Value).ownBlock ∧ k_ ≠ gb344)) k_ ∧ some k_ ≠ (u9 : Value).ownBlock) (Kd.R_apart' (HO_12.out) (Kd.S_typed HO_9.out) (by decide)) (fun k_ hk => ⟨⟨hk.1.1, hk.1.2⟩, hk.2⟩))).1 k_ hk_.symm) ?aF ?aO ?aB ?aS ?aL ?_; (case aP => exact Kd.M_row (Kd.R_mono (Kd.R_tight rfl (Kd.R_mono (ok' := fun k_ => ((fun k_ => some k_ ≠ (.slice Ao18 t352.length co18 : Value).ownBlock ∧ k_ ≠ gb344)) k_ ∧ some k_ ≠ (u9 : Value).ownBlock) (Kd.R_apart' (HO_12.out) (Kd.S_typed HO_9.out) (by decide)) (fun k_ hk => ⟨⟨hk.1.1, hk.1.2⟩, hk.2⟩))) (fun _ h_ => h_))); (case aB => exact (bw_ w)); (case aF => exact (fun k_ hk => ⟨Kd.fresh' (Kd.R_lt (ra_ HO_356002)) k_ hk, Kd.freshB (g := gb344) (o := .cells #[.int .i64 a0] 3 (0, 0)) (bk_ BK344) k_ hk⟩)); (case aO => exact (by (with_reducible repeat (first | apply Kd.S_alloc | apply Kd.S_drewN | apply Kd.S_drew)); exact Kd.S_mono HO_9.out (fun k_ hk => ⟨⟨hk.2.1, hk.2.2⟩, fun e_ => hk.1 e_⟩))); (case aS => exact (below_size (bw_ w))); (case aL => have := LMc36.out; omega); intro v367 w38 ho hb hg hat; rw [← Ny366.out] at ho; have n0_ := Aside0.mk (Kd.R_over' (ra_ HO_29) (Kd.S_typed (by (with_reducible repeat (first | apply Kd.S_alloc | apply Kd.S_drewN | apply Kd.S_drew)); exact HO_9.out)) (by decide) hg); have n1_ := Aside0.mk (Kd.R_over' (ra_ HO_356002) (Kd.S_typed (by (with_reducible repeat (first | apply Kd.S_alloc | apply Kd.S_drewN | apply Kd.S_drew)); exact HO_9.out)) (by decide) hg); have n2_ := Aside0.mk (blk_grown (g := gb344) (o := .cells #[.int .i64 a0] 3 (0, 0)) (bk_ BK344) hg (Kd.S_ne HO_9.out BK344.out (by decide))); have n3_ := Aside0.mk (blk_grown (g := gb355) (o := .cells #[.int .i64 t350, .int .i64 t351, .slice Ao18 t352.length co18] 26 (0, 0)) (bk_ BK355) hg (Kd.S_ne HO_9.out BK355.out (by decide))); have n4_ := Aside0.mk (hb); have n5_ := Aside0.mk (ho); clear HO_29; clear HO_356002; clear BK344; clear BK355; clear HB; clear HO_9; clear HO_12; have HO_29 := n0_; have HO_356002 := n1_; have BK344 := n2_; have BK355 := n3_; have HB := n4_; have HO368 := n5_; clear n0_ n1_ n2_ n3_ n4_ n5_; clear ho hb hg hat))
              (try simp only [← hl29_1, ← hl29_2])
              go_roundg k2
              case measure => have := HK1.out; have := HK2.out; omega
              case rel => exact ⟨(y366), (x29_2), (wrap64 (x31_1 + 1)), (by first | rfl | (simp; done) | (simp [*]; done)), H', ⟨by have := HK1.out; have := HK2.out; omega⟩, ⟨by (try simp only [hl29_1]); (try simp only [hl29_2]); (with_reducible repeat (first | apply Kd.S_alloc | apply Kd.S_drewN | apply Kd.S_drew)); exact HO368.out⟩, ⟨by (try simp only [hl29_1]); (try simp only [hl29_2]); (with_reducible repeat (first | apply Kd.R_alloc | apply Kd.R_drewN | apply Kd.R_drew)); exact HO_29.out⟩, ⟨by (try simp only [hl29_1]); (try simp only [hl29_2]); (with_reducible repeat (first | apply Kd.R_alloc | apply Kd.R_drewN | apply Kd.R_drew)); exact Kd.R_mono HO_356002.out (fun _ hk => hk.2)⟩, ⟨by (try simp only [hl29_1]); (try simp only [hl29_2]); (with_reducible repeat (first | refine blk_drewN ?_ _ | refine blk_drew ?_ | refine blk_alloc ?_ _)); exact BK344.out⟩, ⟨by (try simp only [hl29_1]); (try simp only [hl29_2]); (with_reducible repeat (first | refine blk_drewN ?_ _ | refine blk_drew ?_ | refine blk_alloc ?_ _)); exact BK355.out⟩, ⟨(bw_ w)⟩⟩
             ·rw [if_neg c36] at H
              exact absurd H (by simp)
            ·rw [if_neg c35] at H
             have c35b0 : decide (0 < (x12_2.length : Int)) = false := decide_eq_false c35
             have c35b1 : decide (0 < x12_2.length) = false := decide_eq_false (by omega)
             (try simp only [hl29_1, hl29_2] at c35b0)
             (try simp only [hl29_1, hl29_2] at c35b1)
             clear c35
             have H' := Aside0.mk H
             clear H
             have p365 : 0 ≤ (x13_2 : Int) := of_decide_eq_true (by first | (with_reducible assumption) | assumption)
             have q365 : x13_2 < (x29_2.length : Int) := of_decide_eq_true (by first | (with_reducible assumption) | assumption)
             obtain ⟨ad365, e365, hx365_0⟩ := Kd.at_bool (Kd.R_reads' HO_29.out).2.2 x13_2 p365 q365
             (try rw [← Nbq33.out] at hx365_0)
             cases e365
             replace p365 := eq_true p365
             replace q365 := eq_true q365
             obtain ⟨Ao39, co39, eo39⟩ := Kd.R_slice HO_12.out
             subst eo39
             go_wp2
             (try simp only [← hl29_1, ← hl29_2])
             go_roundg k2
             case measure => have := HK1.out; have := HK2.out; omega
             case rel => exact ⟨(x9_1), (x29_2), (wrap64 (x31_1 + 1)), (by first | rfl | (simp; done) | (simp [*]; done)), H', ⟨by have := HK1.out; have := HK2.out; omega⟩, ⟨by (try simp only [hl29_1]); (try simp only [hl29_2]); (with_reducible repeat (first | apply Kd.S_alloc | apply Kd.S_drewN | apply Kd.S_drew)); exact Kd.S_mono HO_9.out (fun _ hk => ⟨hk.2.1, hk.2.2⟩)⟩, ⟨by (try simp only [hl29_1]); (try simp only [hl29_2]); (with_reducible repeat (first | apply Kd.R_alloc | apply Kd.R_drewN | apply Kd.R_drew)); exact HO_29.out⟩, ⟨by (try simp only [hl29_1]); (try simp only [hl29_2]); (with_reducible repeat (first | apply Kd.R_alloc | apply Kd.R_drewN | apply Kd.R_drew)); exact Kd.R_mono HO_356002.out (fun _ hk => hk.2)⟩, ⟨by (try simp only [hl29_1]); (try simp only [hl29_2]); (with_reducible repeat (first | refine blk_drewN ?_ _ | refine blk_drew ?_ | refine blk_alloc ?_ _)); exact BK344.out⟩, ⟨by (try simp only [hl29_1]); (try simp only [hl29_2]); (with_reducible repeat (first | refine blk_drewN ?_ _ | refine blk_drew ?_ | refine blk_alloc ?_ _)); exact BK355.out⟩, ⟨(bw_ w)⟩⟩
           ·replace c34 := Bool.eq_false_iff.mpr c34
            subst c34
            have H1 : (if x12_2.length < 17592186044416 then (if x13_2 < (t352.length : Int) then (impl_orbits.l1 k2 x9_1 (x12_2 ++ [x13_2]) (rd t352 x13_2) (x29_2.set (x13_2 : Int).toNat true) (y359.length : Int) x31_1 t350 t351 t352) else (none)) else (none)) = some (r1, r2) := by rw [if_neg (show ¬ (false = true) by decide)] at H; exact H
            clear H
            have H := H1
            clear H1
            obtain ⟨y369, hy369⟩ : ∃ y_ : List Bool, y_ = (x29_2.set (x13_2 : Int).toNat true) := ⟨_, rfl⟩
            replace H : (if x12_2.length < 17592186044416 then (if x13_2 < (t352.length : Int) then (impl_orbits.l1 k2 x9_1 (x12_2 ++ [x13_2]) (rd t352 x13_2) y369 (y359.length : Int) x31_1 t350 t351 t352) else (none)) else (none)) = some (r1, r2) := by first | (rw [hy369]; with_reducible exact H) | (have H2_ := (Option.bind_some _ _).symm.trans H; rw [hy369]; with_reducible exact H2_) | (have H2_ := (Option.bind_some _ _).symm.trans H; with_reducible exact H2_) | with_reducible exact H | (rw [hy369]; exact H) | exact H
            have Ny369 := Aside0.mk hy369
            clear hy369
            by_cases c41 : x12_2.length < 17592186044416
            ·rw [if_pos c41] at H
             have LMc41 := Aside0.mk c41
             clear c41
             obtain ⟨y370, hy370⟩ : ∃ y_ : List Int, y_ = (x12_2 ++ [x13_2]) := ⟨_, rfl⟩
             replace H : (if x13_2 < (t352.length : Int) then (impl_orbits.l1 k2 x9_1 y370 (rd t352 x13_2) y369 (y359.length : Int) x31_1 t350 t351 t352) else (none)) = some (r1, r2) := by first | (rw [hy370]; with_reducible exact H) | (have H2_ := (Option.bind_some _ _).symm.trans H; rw [hy370]; with_reducible exact H2_) | (have H2_ := (Option.bind_some _ _).symm.trans H; with_reducible exact H2_) | with_reducible exact H | (rw [hy370]; exact H) | exact H
             have Ny370 := Aside0.mk hy370
             clear hy370
             by_cases c42 : x13_2 < (t352.length : Int)
             ·rw [if_pos c42] at H
              have c42b0 : decide (x13_2 < (t352.length : Int)) = true := decide_eq_true c42
              (try simp only [hl29_1, hl29_2] at c42b0)
              clear c42
              have H' := Aside0.mk H
              clear H
              have p365 : 0 ≤ (x13_2 : Int) := of_decide_eq_true (by first | (with_reducible assumption) | assumption)
              have q365 : x13_2 < (x29_2.length : Int) := of_decide_eq_true (by first | (with_reducible assumption) | assumption)
              obtain ⟨ad365, e365, hx365_0⟩ := Kd.at_bool (Kd.R_reads' HO_29.out).2.2 x13_2 p365 q365
              (try rw [← Nbq33.out] at hx365_0)
              cases e365
              replace p365 := eq_true p365
              replace q365 := eq_true q365
              have p40 : 0 ≤ (x13_2 : Int) := of_decide_eq_true (by first | (with_reducible assumption) | assumption)
              have q40 : (x13_2 : Int) < ((x29_2.length : Int) : Int) := of_decide_eq_true (by first | (with_reducible assumption) | assumption)
              obtain ⟨go40, co40, eo40, gb40, gl40, cl40, HG40⟩ := Kd.R_form HO_29.out (by omega)
              (first | cases eo40 | (injection eo40 with ea_ en_ ec_; (first | subst ea_ | (injection ea_ with ea_; subst ea_)); subst ec_; clear en_))
              have GB40 := Aside0.mk gb40
              have GG40 := Aside0.mk HG40
              clear gb40 gl40 HG40
              (first | simp only [add_plain] at hx365_0 | skip)
              obtain ⟨hx40_0, hf40_0⟩ := Kd.R_celln false HO_29.out (x13_2 : Int) p40 q40
              replace p40 := eq_true p40
              replace q40 := eq_true q40
              have HP43 := Kd.R_putg HO_29.out (x13_2 : Int) true
              go_wp2_with (first | ((with_reducible refine gate_store (t := 4) (p := 48) rfl ?_); refine store_event (t := 4) (p := 48) (v := ?vo_w44) (w1 := (wr.setCell ⟨go40, (x13_2 : Int).toNat, none⟩ (.bool true))) ?hg ?ho ?hn ?hr ?_; (case ho => rfl); (case hg => rfl); (case hn => rfl); (case hr => first | (go_simp; done) | (go_simp; rfl)); intro w44 hw; have hg : wr.grownBy w44 (some go40) := (by rw [hw]; exact HP43.2); have hp_ : Kd.R Kd.bool 4 w44 w.heap.size (fun _ => True) (.slice (some ⟨go40, 0, none⟩) x29_2.length co27) y369 := (by rw [hw, Ny369.out]; exact HP43.1); clear HP43; have n0_ := Aside0.mk (Kd.S_over' (v := (.slice (some ⟨go40, 0, none⟩) x29_2.length co27)) (by (with_reducible repeat (first | apply Kd.S_alloc | apply Kd.S_drewN | apply Kd.S_drew)); exact HO_9.out) (Kd.R_typed HO_29.out) (by decide) hg); have n1_ := Aside0.mk (Kd.R_over' (v := (.slice (some ⟨go40, 0, none⟩) x29_2.length co27)) (ra_ HO_12) (Kd.R_typed HO_29.out) (by decide) hg); have n2_ := Aside0.mk (hp_); have n3_ := Aside0.mk (Kd.R_over' (v := (.slice (some ⟨go40, 0, none⟩) x29_2.length co27)) (ra_ HO_356002) (Kd.R_typed HO_29.out) (by decide) hg); have n4_ := Aside0.mk (blk_grown (g := gb344) (o := .cells #[.int .i64 a0] 3 (0, 0)) (bk_ BK344) hg (Kd.R_ne HO_29.out BK344.out (by decide))); have n5_ := Aside0.mk (blk_grown (g := gb355) (o := .cells #[.int .i64 t350, .int .i64 t351, .slice Ao18 t352.length co18] 26 (0, 0)) (bk_ BK355) hg (Kd.R_ne HO_29.out BK355.out (by decide))); have n6_ := Aside0.mk ((by rw [hw]; exact below_set (HB.out) GB40.out : Below w.heap.size w w44)); clear HO_9; clear HO_12; clear HO_29; clear HO_356002; clear BK344; clear BK355; clear HB; have HO_9 := n0_; have HO_12 := n1_; have HO_29 := n2_; have HO_356002 := n3_; have BK344 := n4_; have BK355 := n5_; have HB := n6_; clear n0_ n1_ n2_ n3_ n4_ n5_ n6_; clear hg hw hp_) | ((with_reducible refine gate_builtin (b := .append) (xs := #[.tmp 49, .tmp 51]) rfl ?_); at_builtin; refine Kd.R_append (Kd.int .i64) (w0 := w) w.heap.size rfl (.tmp 49) (.tmp 51) 22 3 (.int .i64 0) 8 rfl Try.underlying22 info3 rfl (by decide) (by omega) u12 x12_2 x13_2 [.int .i64 x13_2] (fun k_ => some k_ ≠ (.slice Ao18 t352.length co18 : Value).ownBlock ∧ k_ ≠ gb344) (fun _ => False) rfl rfl ?aP (fun _ hk => hk.elim) ?aF ?aO ?aB ?aS ?aL ?_; (case aP => exact rfl); (case aB => exact (bw_ w)); (case aF => exact (fun k_ hk => ⟨Kd.fresh' (Kd.R_lt (ra_ HO_356002)) k_ hk, Kd.freshB (g := gb344) (o := .cells #[.int .i64 a0] 3 (0, 0)) (bk_ BK344) k_ hk⟩)); (case aO => exact (ra_ HO_12)); (case aS => exact (below_size (bw_ w))); (case aL => have := LMc41.out; omega); intro v371 w45 ho hb hg hat; rw [← Ny370.out] at ho; have n0_ := Aside0.mk (Kd.S_after (ok := (fun k_ => some k_ ≠ (.slice Ao18 t352.length co18 : Value).ownBlock ∧ k_ ≠ gb344)) (by (with_reducible repeat (first | apply Kd.S_alloc | apply Kd.S_drewN | apply Kd.S_drew)); exact Kd.S_mono HO_9.out (fun _ hk => ⟨⟨hk.2.1, hk.2.2⟩, hk.1⟩)) hg hat); have n1_ := Aside0.mk (Kd.R_over' (ra_ HO_29) (Kd.R_typed (ra_ HO_12)) (by decide) hg); have n2_ := Aside0.mk (Kd.R_after (ok := (fun k_ => k_ ≠ gb344)) (by exact rf_ HO_356002.out (fun _ hk => ⟨hk.2, hk.1⟩)) hg hat); have n3_ := Aside0.mk (blk_grown (g := gb344) (o := .cells #[.int .i64 a0] 3 (0, 0)) (bk_ BK344) hg (Kd.R_away HO_12.out (fun _ hk => hk.2))); have n4_ := Aside0.mk (blk_grown (g := gb355) (o := .cells #[.int .i64 t350, .int .i64 t351, .slice Ao18 t352.length co18] 26 (0, 0)) (bk_ BK355) hg (Kd.R_ne HO_12.out BK355.out (by decide))); have n5_ := Aside0.mk (hb); have n6_ := Aside0.mk (ho); clear HO_9; clear HO_29; clear HO_356002; clear BK344; clear BK355; clear HB; clear HO_12; have HO_9 := n0_; have HO_29 := n1_; have HO_356002 := n2_; have BK344 := n3_; have BK355 := n4_; have HB := n5_; have HO372 := n6_; clear n0_ n1_ n2_ n3_ n4_ n5_ n6_; clear ho hb hg hat; have hnb46 := NB355_344.out; have hnc46 := NB344_355.out; obtain ⟨hcz47_0, hcz47_1, hcz47_2, hfz47_0, hfz47_1, hfz47_2⟩ := bc3_ (w := w45) BK355; have p373 : 0 ≤ (x13_2 : Int) := of_decide_eq_true (by first | (with_reducible assumption) | assumption); have q373 : x13_2 < (t352.length : Int) := of_decide_eq_true (by first | (with_reducible assumption) | assumption); obtain ⟨ad373, e373, hx373_0⟩ := Kd.at_int (Kd.R_reads' HO_356002.out).2.2 x13_2 p373 q373; cases e373; replace p373 := eq_true p373; replace q373 := eq_true q373))
              (try simp only [← hl29_2])
              go_roundg k2
              case measure => have := HK1.out; have := HK2.out; omega
              case rel => exact ⟨(y370), (rd t352 x13_2), (y369), (by first | rfl | (simp; done) | (simp [*]; done)), H', ⟨by have := HK1.out; have := HK2.out; omega⟩, ⟨by (try simp only [hl29_1]); (try simp only [hl29_2]); (with_reducible repeat (first | apply Kd.S_alloc | apply Kd.S_drewN | apply Kd.S_drew)); exact Kd.S_mono HO_9.out (fun _ hk => ⟨hk.2, ⟨hk.1.1, hk.1.2⟩⟩)⟩, ⟨by (try simp only [hl29_1]); (try simp only [hl29_2]); (with_reducible repeat (first | apply Kd.R_alloc | apply Kd.R_drewN | apply Kd.R_drew)); exact HO372.out⟩, ⟨by (try simp only [hl29_1]); (try simp only [hl29_2]); (with_reducible repeat (first | apply Kd.R_alloc | apply Kd.R_drewN | apply Kd.R_drew)); exact HO_29.out⟩, ⟨by (try simp only [hl29_1]); (try simp only [hl29_2]); (with_reducible repeat (first | apply Kd.R_alloc | apply Kd.R_drewN | apply Kd.R_drew)); exact Kd.R_mono HO_356002.out (fun _ hk => ⟨hk.2, hk.1⟩)⟩, ⟨by (try simp only [hl29_1]); (try simp only [hl29_2]); (with_reducible repeat (first | refine blk_drewN ?_ _ | refine blk_drew ?_ | refine blk_alloc ?_ _)); exact BK344.out⟩, ⟨by (try simp only [hl29_1]); (try simp only [hl29_2]); (with_reducible repeat (first | refine blk_drewN ?_ _ | refine blk_drew ?_ | refine blk_alloc ?_ _)); exact BK355.out⟩, ⟨(bw_ w)⟩⟩
             ·rw [if_neg c42] at H
              exact absurd H (by simp)
            ·rw [if_neg c41] at H
             exact absurd H (by simp)
          ·rw [if_neg c32] at H
           exact absurd H (by simp)
         ·rw [if_neg c31] at H
          exact absurd H (by simp)
      ·rw [if_neg c28] at H
       have c28b0 : decide (x31_1 < (y359.length : Int)) = false := decide_eq_false c28
       (try simp only [hl29_1] at c28b0)
       clear c28
       simp only [Option.some.injEq, Prod.mk.injEq] at H
       obtain ⟨rfl, rfl⟩ := H
       go_wp2
       go_ret2
       exact ⟨_, by first | rfl | (simp [errW_none, errW_some] <;> rfl) | (simp only [← hji7]; first | rfl | (simp [errW_none, errW_some] <;> rfl)) | (simp [*, errW_none, errW_some] <;> rfl), by (with_reducible repeat (first | apply Kd.S_alloc | apply Kd.S_drewN | apply Kd.S_drew)); exact Kd.S_mono HO_9.out (fun _ hk => trivial), (bw_ w)⟩
   ·rw [if_neg c9] at H
    exact absurd H (by simp)
  ·rw [if_neg c8] at H
   exact absurd H (by simp)
 ·rw [if_neg c6] at H
  have c6b0 : (t350 == a0) = false := beq_eq_false_iff_ne.mpr c6
  have c6b1 : (t350 != a0) = true := bne_iff_ne.mpr c6
  simp only [Option.some.injEq, Prod.mk.injEq] at H
  obtain ⟨rfl, rfl⟩ := H
  go_enter Try.func236, Try.ntmps236
  go_wp2_with (first | ((with_reducible refine gate_dst (N := 3) rfl ?_); refine box_ (N := 3) (cs := #[.int .i64 a0]) (t := 3) ?_; intro gb344 hg w48 hbox hb; have BK344 := Aside0.mk (hbox); have GW344 := gz_ w hg; have GE344 := gz_ w hg; replace HB := Aside0.mk (below_step (bw_ w) hb); clear hb hbox hg; obtain ⟨hcz49_0, hfz49_0⟩ := bc1_ (w := w48) BK344) | ((with_reducible refine gate_callee (f := 178) rfl ?_); refine goesB (some 17) Try.func178 #[.int .i64 a0, .int .i64 a1, (.func (.func 255) #[] #[.pointer (some ⟨gb344, 0, none⟩)])] ?_; (with_reducible refine (impl_makeChart__orbits_1.calls k a0 a1 gb344 a0 t345 t346 t347 _ ?side1 A4.out).mono ?_); (case side1 => (with_reducible repeat (first | refine blk_drewN ?_ _ | refine blk_drew ?_ | refine blk_alloc ?_ _)); exact BK344.out); rintro e w50 ⟨v348, rfl, ho0, hb⟩; refine ⟨_, rfl, ?_⟩; have HO349 := Aside0.mk (Kd.R_lower (Kd.R_newB ho0 (g := gb344) (o := .cells #[.int .i64 a0] 3 (0, 0)) (bk_ BK344)) (below_size (bw_ w))); replace BK344 := bb_ BK344 hb; replace HB := Aside0.mk (below_step (bw_ w) hb); (try clear hb); (try clear hb2); (try clear hk); (try clear hi); (try clear ho0); obtain ⟨Ao51, co51, eo51⟩ := Kd.R_slice HO349.out; subst eo51) | ((with_reducible refine gate_callee (f := 150) rfl ?_); refine goesB (some 19) Try.func150 #[.agg #[.int .i64 t345, .int .i64 t346, .slice Ao51 t347.length co51], .int .i64 a2] ?_; (with_reducible refine (impl_Chart_moved.calls k t345 t346 _ _ t347 a2 t350 t351 t352 _ ?side1 ?side2 A5.out).mono ?_); (case side1 => exact co_ (Kd.R_reads' HO349.out).2.2); (case side2 => exact (Kd.R_reads' HO349.out).2.1); rintro e w52 ⟨v353, rfl, ho0, hb⟩; refine ⟨_, rfl, ?_⟩; have n0_ := Aside0.mk (Kd.R_elder' (ra_ HO349) (Kd.R_base ho0) hb); have n1_ := Aside0.mk (Kd.R_lower (Kd.R_newB (Kd.R_new' ho0 (Kd.R_lt (ra_ HO349))) (g := gb344) (o := .cells #[.int .i64 a0] 3 (0, 0)) (bk_ BK344)) (below_size (bw_ w))); have n2_ := bb_ BK344 hb; have n3_ := Aside0.mk (below_step (bw_ w) hb); clear HO349; clear BK344; clear HB; have HO349 := n0_; have HO354 := n1_; have BK344 := n2_; have HB := n3_; clear n0_ n1_ n2_ n3_; (try clear hb); (try clear hb2); (try clear hk); (try clear hi); (try clear ho0)) | ((with_reducible refine gate_dst (N := 8) rfl ?_); refine box_ (N := 8) (cs := #[.int .i64 0, .int .i64 0, .slice none 0 0]) (t := 26) ?_; intro gb355 hg w53 hbox hb; have n0_ := Aside0.mk (Kd.R_below (ra_ HO349) hb); have n1_ := Aside0.mk (Kd.R_below (ra_ HO354) hb); have n2_ := bb_ BK344 hb; have n3_ := Aside0.mk (below_step (bw_ w) hb); have n4_ := Aside0.mk (hbox); have n5_ := gz_ w hg; have n6_ := gz_ w hg; have n7_ := ne_ hg BK344; have n8_ := en_ hg BK344; clear HO349; clear HO354; clear BK344; clear HB; have HO349 := n0_; have HO354 := n1_; have BK344 := n2_; have HB := n3_; have BK355 := n4_; have GW355 := n5_; have GE355 := n6_; have NB344_355 := n7_; have NB355_344 := n8_; clear n0_ n1_ n2_ n3_ n4_ n5_ n6_ n7_ n8_; clear hb hbox hg; have hnb54 := NB355_344.out; have hnc54 := NB344_355.out; obtain ⟨hcz55_0, hcz55_1, hcz55_2, hfz55_0, hfz55_1, hfz55_2⟩ := bc3_ (w := w53) BK355; obtain ⟨Ao56, co56, eo56⟩ := Kd.R_slice HO354.out; subst eo56; obtain ⟨hcz57_0, hfz57_0⟩ := bc1_ (w := w53) BK344))
  go_ret2
  exact ⟨_, by first | rfl | (simp [errW_none, errW_some] <;> rfl) | (simp [*, errW_none, errW_some] <;> rfl), by first | exact Kd.S_nil _ _ _ _ _ | exact Kd.N_nil _ _ _ _ _ | exact Kd.V_nil _ _ _ _ _ | exact Kd.Q_nil _ _ _ _ _ | exact Kd.R_nil _ _ _ _ _, (bw_ w)⟩

end Go.Proofs.Ytijmljaemalgmaa.PFnExactFewestChanges
