-- Printed by this session's own program (wip/tool/myprint.py, over the kit's print); Lean checks it.
import Derived.Test.YtijmljaemalgmaaPFnExactFewestChangesx0
import Derived.Test.YtijmljaemalgmaaPFnExactFewestChangesx1
namespace Go.Proofs.Ytijmljaemalgmaa.PFnExactFewestChanges
open Go.RowKit Go.Proofs.YtijmljaemalgmaaW.PrintWords Go.Proofs.YtijmljaemalgmaaW.PrintLast Go.Proofs.YtijmljaemalgmaaW.PrintMore
attribute [local go_sem] max2_int min2_int max_two min_two max_three min_three max_four min_four   -- for this text's walks alone
set_option linter.unusedVariables false
set_option linter.unusedSimpArgs false

/-! ### spec_l2Own: function 135 -/
def spec_l2Own.f (a0_0 : Int) (a0_1 : Int) (l0_2 : List Int) : Option (Int × Int × List Int) := (spec_l1Own.f l0_2).bind fun t138 => (some (a0_0, a0_1, t138))
def spec_l2Own.T1 : Bool × List (List Nat × List Nat) := (true, [([], []), ([0], [0]), ([], []), ([2], [2]), ([], []), ([4], [4]), ([5], [5]), ([1, 3, 6], [1, 3, 6]), ([7, 6, 0, 1, 2, 3, 4, 5, 6, 7], [7])])
def spec_l2Own.B1 : List Nat := [0, 1, 0, 4, 0, 16, 48, 127, 255]
theorem spec_l2Own.tab1 : rtab .any (opsOf Try.f135 1) = spec_l2Own.T1 := by kernel_rfl
theorem spec_l2Own.bits1 : waitsOk spec_l2Own.T1.2 spec_l2Own.B1 = true := by kernel_rfl
set_option maxHeartbeats 8000000 in
set_option maxRecDepth 100000 in
theorem spec_l2Own.calls (a0_0 : Int) (a0_1 : Int) (A0_2 : Option Addr) (c0_2 : Nat) (l0_2 : List Int) (r1 : Int) (r2 : Int) (r3 : List Int) (w : World) (hr0_2 : Kd.C (Kd.int .i64) w A0_2 l0_2.length l0_2) (hc0_2 : l0_2.length ≤ c0_2) (h : spec_l2Own.f a0_0 a0_1 l0_2 = some (r1, r2, r3)) :
  Calls Try.prog 135 #[.agg #[.int .i64 a0_0, .int .i64 a0_1, .slice A0_2 l0_2.length c0_2]] w fun e w' => ∃ v2_ : Value, e = .returned (.agg #[.int .i64 r1, .int .i64 r2, v2_]) ∧ Kd.R (Kd.int .i64) 3 w' w.heap.size (fun _ => True) v2_ r3 ∧ Below w.heap.size w w' := by
 have hu26 := Try.underlying26
 have HR0_2 := Aside0.mk hr0_2
 have HC0_2 := Aside0.mk hc0_2
 clear hr0_2 hc0_2
 have HB := Aside0.mk (Below.refl w.heap.size w)
 have H : ((spec_l1Own.f l0_2).bind fun t138 => (some (a0_0, a0_1, t138))) = some (r1, r2, r3) := h
 clear h
 replace H := Option.bind_eq_some_iff.mp H
 obtain ⟨t138, A20, H⟩ := H
 replace H : (some (a0_0, a0_1, t138)) = some (r1, r2, r3) := H
 have A2 := Aside0.mk A20
 clear A20
 simp only [Option.some.injEq, Prod.mk.injEq] at H
 obtain ⟨rfl, rfl, rfl⟩ := H
 go_enter Try.func135, Try.ntmps135
 try go_wp2_with (first | ((with_reducible refine gate_dst (N := 1) rfl ?_); refine box_ (N := 1) (cs := #[.int .i64 a0_0, .int .i64 a0_1, .slice A0_2 l0_2.length c0_2]) (t := 26) ?_; intro gb136 hg w3 hbox hb; have BK136 := Aside0.mk (hbox); have GW136 := gz_ w hg; have GE136 := gz_ w hg; replace HB := Aside0.mk (below_step (bw_ w) hb); clear hb hbox hg) | ((with_reducible refine gate_dst (N := 2) rfl ?_); refine box_ (N := 2) (cs := #[.int .i64 0, .int .i64 0, .slice none 0 0]) (t := 26) ?_; intro gb137 hg w4 hbox hb; have n0_ := bb_ BK136 hb; have n1_ := Aside0.mk (below_step (bw_ w) hb); have n2_ := Aside0.mk (hbox); have n3_ := gz_ w hg; have n4_ := gz_ w hg; have n5_ := ne_ hg BK136; have n6_ := en_ hg BK136; clear BK136; clear HB; have BK136 := n0_; have HB := n1_; have BK137 := n2_; have GW137 := n3_; have GE137 := n4_; have NB136_137 := n5_; have NB137_136 := n6_; clear n0_ n1_ n2_ n3_ n4_ n5_ n6_; clear hb hbox hg))
 replace BK136 := Aside0.mk (blk_drew BK136.out)
 replace BK137 := Aside0.mk (blk_drew BK137.out)
 replace HB := Aside0.mk (below_drew1 HB.out)
 refine start_ (n := 9) (S := fun w' => w'.cell? ⟨gb136, 0, none⟩ = some (.int .i64 a0_0) ∧ w'.cell? ⟨gb136, 1, none⟩ = some (.int .i64 a0_1) ∧ w'.cell? ⟨gb136, 2, none⟩ = some (.slice A0_2 l0_2.length c0_2)) (ds := []) #[false, false, false, false, false, false, false, false, false] (by kernel_rfl) rfl rfl ⟨bc_ BK136 0, bc_ BK136 1, bc_ BK136 2⟩ (fun hHeld => ?_); refine with_tabW spec_l2Own.tab1 spec_l2Own.bits1 (fun HT_ HW_ => ?_)
 generalize w4.drew = w5 at BK136 BK137 HB hHeld ⊢
 refine pureA (N := some 3) 0 HT_ ?_
 refine pureA (N := some 5) 2 HT_ ?_
 refine pureA (N := some 7) 4 HT_ ?_
 refine takeA (N := some 4) 1 HT_ HW_ hHeld ?_
 refine takeA (N := some 6) 3 HT_ HW_ hHeld ?_
 refine takeA (N := some 8) 5 HT_ HW_ hHeld ?_
 refine oneA (N := some 9) 6 HT_ (fun K hK => ?_)
 refine goesA Try.func232 #[.slice A0_2 l0_2.length c0_2] ?_
 with_reducible refine (spec_l1Own.calls _ _ l0_2 t138 _ ?side1 ?side2 A2.out).mono ?_
 (case side1 => exact cb_ HR0_2 HB)
 (case side2 => exact HC0_2.out)
 rintro e w6 ⟨v139, rfl, ho0, hb⟩
 refine ⟨_, rfl, ?_⟩
 have HO140 := Aside0.mk (Kd.R_lower ho0 (below_size (bw_ w)))
 replace BK136 := bb_ BK136 hb
 replace BK137 := bb_ BK137 hb
 replace HB := Aside0.mk (below_step (bw_ w) hb)
 (try clear hb)
 (try clear hb2)
 (try clear hk)
 (try clear hi)
 (try clear ho0)
 obtain ⟨Ao7, co7, eo7⟩ := Kd.R_slice HO140.out
 (first | subst eo7 | (injection eo7 with f1_ f2_ f3_; have f4_ := f1_.symm; have f5_ := f3_.symm; clear f1_ f2_ f3_; subst f4_; subst f5_))
 refine hK.out _ _ ⟨bc_ BK136 0, bc_ BK136 1, bc_ BK136 2⟩ (fun hHeld => ?_)
 clear hK K
 refine normA (N := some 9) ?_
 refine pureA (N := some 10) 7 HT_ ?_
 refine oneA (N := none) 8 HT_ (fun K hK => ?_)
 have hs8 : w6.cell? ⟨gb137, 0, none⟩ = some (.int .i64 0) := bc_ BK137 0
 have hfs8 := blk_frozen BK137.out 0
 have hns8_0 := NB136_137.out
 have hms8_0 := NB137_136.out
 have hs9 : w6.cell? ⟨gb137, 1, none⟩ = some (.int .i64 0) := bc_ BK137 1
 have hfs9 := blk_frozen BK137.out 1
 have hns9_0 := NB136_137.out
 have hms9_0 := NB137_136.out
 have hs10 : w6.cell? ⟨gb137, 2, none⟩ = some (.slice none 0 0) := bc_ BK137 2
 have hfs10 := blk_frozen BK137.out 2
 have hns10_0 := NB136_137.out
 have hms10_0 := NB137_136.out
 refine skip_ (w1 := ?_) (by rfl) rfl ?_ ?_
 rotate_left
 ·go_simp
  rfl
 refine hK.out _ _ ⟨((cn_ NB136_137).trans (((cn_ NB136_137).trans (((cn_ NB136_137).trans (hHeld.1)))))), ((cn_ NB136_137).trans (((cn_ NB136_137).trans (((cn_ NB136_137).trans (hHeld.2.1)))))), ((cn_ NB136_137).trans (((cn_ NB136_137).trans (((cn_ NB136_137).trans (hHeld.2.2))))))⟩ (fun hHeld => ?_)
 clear hK K
 refine done_ (done_of HT_.out (by kernel_rfl)) ?_
 try go_wp2
 refine bodyPost_ret (results_cell_row rfl _ _ gb137 26 #[.int .i64 a0_0, .int .i64 a0_1, .slice Ao7 t138.length co7] (0, 0) _ rfl (bq_ BK137) Try.underlying26 rfl (by kernel_rfl)) rfl ?_
 exact ⟨_, by first | rfl | (simp [errW_none, errW_some] <;> rfl) | (simp [*, errW_none, errW_some] <;> rfl), by exact rf_ (Kd.R_types HO140.out BK137.out (by decide)) (fun _ hk => trivial), (bw_ w)⟩

/-! ### spec_l1Has: function 228 -/
def spec_l1Has.l0 : Nat → List Int → Int → Int → Option (Bool)
  | 0, _, _, _ => none
  | k + 1, x0, x1, x5 => if x5 < (x0.length : Int) then (if 0 ≤ x5 then (if (rd x0 x5) = x1 then (some true) else (spec_l1Has.l0 k x0 x1 (wrap64 (x5 + 1)))) else (none)) else (some false)
def spec_l1Has.f (k : Nat) (l0 : List Int) (a1 : Int) : Option (Bool) := spec_l1Has.l0 k l0 a1 0
theorem spec_l1Has.mono_l : ∀ k, (∀ y0 y1 y2, LeO (spec_l1Has.l0 k y0 y1 y2) (spec_l1Has.l0 (k + 1) y0 y1 y2))
  | 0 => fun _ _ _ r h => by simp [spec_l1Has.l0] at h
  | k + 1 => by
    have ih0 := spec_l1Has.mono_l k
    · intro y0 y1 y2
      unfold spec_l1Has.l0
      repeat' first
      | (with_reducible exact ih0 _ _ _)
      | (with_reducible exact LeO.refl _)
      | (with_reducible exact LeO.none _)
      | (with_reducible refine LeO.ite ?_ ?_)
      | (with_reducible refine LeO.bind ?_ (fun _ => ?_))
      | exact ih0 _ _ _
      | exact LeO.none _
      | refine LeO.ite ?_ ?_
      | refine LeO.bind ?_ (fun _ => ?_)
theorem spec_l1Has.mono : ∀ a0 a1 k, LeO (spec_l1Has.f k a0 a1) (spec_l1Has.f (k + 1) a0 a1) := by
  intro a0 a1 k
  have ih0 := spec_l1Has.mono_l k
  unfold spec_l1Has.f
  repeat' first
      | (with_reducible exact ih0 _ _ _)
      | (with_reducible exact LeO.refl _)
      | (with_reducible exact LeO.none _)
      | (with_reducible refine LeO.ite ?_ ?_)
      | (with_reducible refine LeO.bind ?_ (fun _ => ?_))
      | exact ih0 _ _ _
      | exact LeO.none _
      | refine LeO.ite ?_ ?_
      | refine LeO.bind ?_ (fun _ => ?_)
set_option maxHeartbeats 8000000 in
set_option maxRecDepth 100000 in
theorem spec_l1Has.calls (k : Nat) (A0 : Option Addr) (c0 : Nat) (l0 : List Int) (a1 : Int) (r : Bool) (w : World) (hr0 : Kd.C (Kd.int .i64) w A0 l0.length l0) (hc0 : l0.length ≤ c0) (h : spec_l1Has.f k l0 a1 = some r) :
  Calls Try.prog 228 #[.slice A0 l0.length c0, .int .i64 a1] w fun e w' => e = .returned (.bool r) ∧ Drawn0 w w' := by
 have HR0 := Aside0.mk hr0
 have HC0 := Aside0.mk hc0
 clear hr0 hc0
 have H : (spec_l1Has.l0 k l0 a1 0) = some r := h
 clear h
 have H' := Aside0.mk H
 clear H
 go_enter Try.func228, Try.ntmps228
 go_wp2
 go_loopg [5] k (fun kq v5 w' => ∃ (x5_1 : Int), v5 = .int .i64 x5_1 ∧ Aside0 (spec_l1Has.l0 kq l0 a1 x5_1 = some r) ∧ Aside0 (kq ≤ k) ∧ Drawn0 w w')
 case atStart => exact ⟨(0), (by first | rfl | (simp; done) | (simp [*]; done)), H', ⟨Nat.le_refl _⟩, by repeat (first | exact Drawn0.refl _ | apply Drawn0.step)⟩
 case round =>
  clear H'
  try clear c2
  try clear p2
  obtain ⟨x5_1, rfl, HA, HK1, ⟨m1, rfl⟩⟩ := hrel
  cases gk with
  | zero => exact absurd HA.out (by simp [spec_l1Has.l0])
  | succ k1 =>
   have H := HA.out
   clear HA
   simp only [spec_l1Has.l0] at H
   by_cases c3 : x5_1 < (l0.length : Int)
   ·rw [if_pos c3] at H
    have c3b0 : decide (x5_1 < (l0.length : Int)) = true := decide_eq_true c3
    clear c3
    by_cases c4 : 0 ≤ x5_1
    ·rw [if_pos c4] at H
     have c4b0 : decide (0 ≤ x5_1) = true := decide_eq_true c4
     clear c4
     by_cases c5 : (rd l0 x5_1) = a1
     ·rw [if_pos c5] at H
      have c5b0 : ((rd l0 x5_1) == a1) = true := beq_iff_eq.mpr c5
      have c5b1 : ((rd l0 x5_1) != a1) = false := bne_eq_false_iff_eq.mpr c5
      clear c5
      obtain rfl := Option.some.inj H
      have p141 : 0 ≤ (x5_1 : Int) := of_decide_eq_true (by first | (with_reducible assumption) | assumption)
      have q141 : x5_1 < (l0.length : Int) := of_decide_eq_true (by first | (with_reducible assumption) | assumption)
      obtain ⟨ad141, e141, hx141_0⟩ := Kd.at_int HR0.out x5_1 p141 q141
      cases e141
      replace p141 := eq_true p141
      replace q141 := eq_true q141
      go_wp2
      go_ret
      exact ⟨by first | rfl | (simp; done) | (simp [*]; done), by repeat (first | exact Drawn0.refl _ | apply Drawn0.step)⟩
     ·rw [if_neg c5] at H
      have c5b0 : ((rd l0 x5_1) == a1) = false := beq_eq_false_iff_ne.mpr c5
      have c5b1 : ((rd l0 x5_1) != a1) = true := bne_iff_ne.mpr c5
      have H' := Aside0.mk H
      clear H
      have p141 : 0 ≤ (x5_1 : Int) := of_decide_eq_true (by first | (with_reducible assumption) | assumption)
      have q141 : x5_1 < (l0.length : Int) := of_decide_eq_true (by first | (with_reducible assumption) | assumption)
      obtain ⟨ad141, e141, hx141_0⟩ := Kd.at_int HR0.out x5_1 p141 q141
      cases e141
      replace p141 := eq_true p141
      replace q141 := eq_true q141
      go_wp2
      go_roundg k1
      case measure => have := HK1.out; omega
      case rel => exact ⟨(wrap64 (x5_1 + 1)), (by first | rfl | (simp; done) | (simp [*]; done)), H', ⟨by have := HK1.out; omega⟩, by repeat (first | exact Drawn0.refl _ | apply Drawn0.step)⟩
    ·rw [if_neg c4] at H
     exact absurd H (by simp)
   ·rw [if_neg c3] at H
    have c3b0 : decide (x5_1 < (l0.length : Int)) = false := decide_eq_false c3
    clear c3
    obtain rfl := Option.some.inj H
    go_wp2
    go_ret
    exact ⟨by first | rfl | (simp; done) | (simp [*]; done), by repeat (first | exact Drawn0.refl _ | apply Drawn0.step)⟩

/-! ### spec_l2At: function 176 -/
def spec_l2At.f (a0_0 : Int) (a0_1 : Int) (l0_2 : List Int) (a1 : Int) (a2 : Int) : Option (Int) := if 0 ≤ (wrap64 ((wrap64 (a1 * a0_0)) + a2)) then (if (wrap64 ((wrap64 (a1 * a0_0)) + a2)) < (l0_2.length : Int) then (some (rd l0_2 (wrap64 ((wrap64 (a1 * a0_0)) + a2)))) else (none)) else (none)
set_option maxHeartbeats 8000000 in
set_option maxRecDepth 100000 in
theorem spec_l2At.calls (a0_0 : Int) (a0_1 : Int) (A0_2 : Option Addr) (c0_2 : Nat) (l0_2 : List Int) (a1 : Int) (a2 : Int) (r : Int) (w : World) (hr0_2 : Kd.C (Kd.int .i64) w A0_2 l0_2.length l0_2) (hc0_2 : l0_2.length ≤ c0_2) (h : spec_l2At.f a0_0 a0_1 l0_2 a1 a2 = some r) :
  Calls Try.prog 176 #[.agg #[.int .i64 a0_0, .int .i64 a0_1, .slice A0_2 l0_2.length c0_2], .int .i64 a1, .int .i64 a2] w fun e w' => e = .returned (.int .i64 r) ∧ Below w.heap.size w w' := by
 have hu26 := Try.underlying26
 have HR0_2 := Aside0.mk hr0_2
 have HC0_2 := Aside0.mk hc0_2
 clear hr0_2 hc0_2
 have HB := Aside0.mk (Below.refl w.heap.size w)
 have H : (if 0 ≤ (wrap64 ((wrap64 (a1 * a0_0)) + a2)) then (if (wrap64 ((wrap64 (a1 * a0_0)) + a2)) < (l0_2.length : Int) then (some (rd l0_2 (wrap64 ((wrap64 (a1 * a0_0)) + a2)))) else (none)) else (none)) = some r := h
 clear h
 obtain ⟨ji4, hji4⟩ : ∃ j_ : Int, (wrap64 ((wrap64 (a1 * a0_0)) + a2)) = j_ := ⟨_, rfl⟩
 replace H : (if 0 ≤ (ji4) then (if (ji4) < (l0_2.length : Int) then (some (rd l0_2 (ji4))) else (none)) else (none)) = some r := by first | (rw [hji4] at H; exact H) | (simp only [hji4] at H ⊢; exact H)
 have hji4w : (IntKind.i64.wrap ((wrap64 (a1 * a0_0)) + a2)) = ji4 := (i64_w _).trans hji4
 by_cases c5 : 0 ≤ (ji4)
 ·rw [if_pos c5] at H
  have c5b0 : decide (0 ≤ (ji4)) = true := decide_eq_true c5
  clear c5
  by_cases c6 : (ji4) < (l0_2.length : Int)
  ·rw [if_pos c6] at H
   have c6b0 : decide ((ji4) < (l0_2.length : Int)) = true := decide_eq_true c6
   clear c6
   obtain rfl := Option.some.inj H
   go_enter Try.func176, Try.ntmps176
   go_wp2_with (first | ((with_reducible refine gate_dst (N := 3) rfl ?_); refine box_ (N := 3) (cs := #[.int .i64 a0_0, .int .i64 a0_1, .slice A0_2 l0_2.length c0_2]) (t := 26) ?_; intro gb142 hg w7 hbox hb; have BK142 := Aside0.mk (hbox); have GW142 := gz_ w hg; have GE142 := gz_ w hg; replace HB := Aside0.mk (below_step (bw_ w) hb); clear hb hbox hg; obtain ⟨hcz8_0, hcz8_1, hcz8_2, hfz8_0, hfz8_1, hfz8_2⟩ := bc3_ (w := w7) BK142; have p143 : 0 ≤ ((ji4) : Int) := of_decide_eq_true (by first | (with_reducible assumption) | assumption); have q143 : (ji4) < (l0_2.length : Int) := of_decide_eq_true (by first | (with_reducible assumption) | assumption); obtain ⟨ad143, e143, hx143_0⟩ := Kd.at_int HR0_2.out (ji4) p143 q143; cases e143; replace hx143_0 := (HB.out.cell (World.block_lt_of_cell? w _ hx143_0)).trans hx143_0; replace p143 := eq_true p143; replace q143 := eq_true q143))
   go_ret
   exact ⟨by first | rfl | (simp [errW_none, errW_some] <;> rfl) | (simp only [← hji4]; first | rfl | (simp [errW_none, errW_some] <;> rfl)) | (simp [*, errW_none, errW_some] <;> rfl), (bw_ w)⟩
  ·rw [if_neg c6] at H
   exact absurd H (by simp)
 ·rw [if_neg c5] at H
  exact absurd H (by simp)

/-! ### spec_l4Turn: function 160 -/
mutual
def spec_l4Turn.l0 : Nat → Int → Int → Int → List Int → Int → Int → List Int → Option (Int × Int × List Int)
  | 0, _, _, _, _, _, _, _ => none
  | k + 1, x4, x145000, x145001, x145002, x150000, x150001, x150002 => if x4 < x150001 then (spec_l4Turn.l1 k x4 0 x145000 x145001 x145002 x150000 x150001 x150002) else (some (x150000, x150001, x150002))
def spec_l4Turn.l1 : Nat → Int → Int → Int → Int → List Int → Int → Int → List Int → Option (Int × Int × List Int)
  | 0, _, _, _, _, _, _, _, _ => none
  | k + 1, x4, x5, x145000, x145001, x145002, x150000, x150001, x150002 => if x5 < x150000 then ((spec_l2At.f x145000 x145001 x145002 (wrap64 ((wrap64 (x145001 - 1)) - x5)) x4).bind fun t150 => (if x150002.length < 17592186044416 then (spec_l4Turn.l1 k x4 (wrap64 (x5 + 1)) x145000 x145001 x145002 x150000 x150001 (x150002 ++ [t150])) else (none))) else (spec_l4Turn.l0 k (wrap64 (x4 + 1)) x145000 x145001 x145002 x150000 x150001 x150002)
end
def spec_l4Turn.f (k : Nat) (a0_0 : Int) (a0_1 : Int) (l0_2 : List Int) : Option (Int × Int × List Int) := spec_l4Turn.l0 k 0 a0_0 a0_1 l0_2 a0_1 a0_0 (([] : List Int))
theorem spec_l4Turn.mono_l : ∀ k, (∀ y0 y1 y2 y3 y4 y5 y6, LeO (spec_l4Turn.l0 k y0 y1 y2 y3 y4 y5 y6) (spec_l4Turn.l0 (k + 1) y0 y1 y2 y3 y4 y5 y6)) ∧ (∀ y0 y1 y2 y3 y4 y5 y6 y7, LeO (spec_l4Turn.l1 k y0 y1 y2 y3 y4 y5 y6 y7) (spec_l4Turn.l1 (k + 1) y0 y1 y2 y3 y4 y5 y6 y7))
  | 0 => ⟨fun _ _ _ _ _ _ _ r h => by simp [spec_l4Turn.l0] at h, fun _ _ _ _ _ _ _ _ r h => by simp [spec_l4Turn.l1] at h⟩
  | k + 1 => by
    obtain ⟨ih0, ih1⟩ := spec_l4Turn.mono_l k
    refine ⟨?_, ?_⟩
    · intro y0 y1 y2 y3 y4 y5 y6
      unfold spec_l4Turn.l0
      repeat' first
      | (with_reducible exact ih0 _ _ _ _ _ _ _)
      | (with_reducible exact ih1 _ _ _ _ _ _ _ _)
      | (with_reducible exact LeO.refl _)
      | (with_reducible exact LeO.none _)
      | (with_reducible refine LeO.ite ?_ ?_)
      | (with_reducible refine LeO.bind ?_ (fun _ => ?_))
      | exact ih0 _ _ _ _ _ _ _
      | exact ih1 _ _ _ _ _ _ _ _
      | exact LeO.none _
      | refine LeO.ite ?_ ?_
      | refine LeO.bind ?_ (fun _ => ?_)
    · intro y0 y1 y2 y3 y4 y5 y6 y7
      unfold spec_l4Turn.l1
      repeat' first
      | (with_reducible exact ih0 _ _ _ _ _ _ _)
      | (with_reducible exact ih1 _ _ _ _ _ _ _ _)
      | (with_reducible exact LeO.refl _)
      | (with_reducible exact LeO.none _)
      | (with_reducible refine LeO.ite ?_ ?_)
      | (with_reducible refine LeO.bind ?_ (fun _ => ?_))
      | exact ih0 _ _ _ _ _ _ _
      | exact ih1 _ _ _ _ _ _ _ _
      | exact LeO.none _
      | refine LeO.ite ?_ ?_
      | refine LeO.bind ?_ (fun _ => ?_)
theorem spec_l4Turn.mono : ∀ a0 a1 a2 k, LeO (spec_l4Turn.f k a0 a1 a2) (spec_l4Turn.f (k + 1) a0 a1 a2) := by
  intro a0 a1 a2 k
  obtain ⟨ih0, ih1⟩ := spec_l4Turn.mono_l k
  unfold spec_l4Turn.f
  repeat' first
      | (with_reducible exact ih0 _ _ _ _ _ _ _)
      | (with_reducible exact ih1 _ _ _ _ _ _ _ _)
      | (with_reducible exact LeO.refl _)
      | (with_reducible exact LeO.none _)
      | (with_reducible refine LeO.ite ?_ ?_)
      | (with_reducible refine LeO.bind ?_ (fun _ => ?_))
      | exact ih0 _ _ _ _ _ _ _
      | exact ih1 _ _ _ _ _ _ _ _
      | exact LeO.none _
      | refine LeO.ite ?_ ?_
      | refine LeO.bind ?_ (fun _ => ?_)
def spec_l4Turn.T8 : Bool × List (List Nat × List Nat) := (true, [([], []), ([0], [0]), ([], []), ([], []), ([3], [3]), ([4], [4]), ([], []), ([5, 6], [5, 6]), ([], []), ([2, 7, 8], [2, 7, 8]), ([9], [9]), ([1, 10, 9], [1, 10]), ([0, 1, 2, 3, 4, 5, 6, 7, 8, 9, 10, 11], []), ([12, 11, 11, 0, 1, 2, 3, 4, 5, 6, 7, 8, 9, 10, 11], [11, 12])])
def spec_l4Turn.B8 : List Nat := [0, 1, 0, 0, 8, 24, 0, 120, 0, 508, 1020, 2047, 4095, 8191]
theorem spec_l4Turn.tab8 : rtab .any (opsOf Try.f160 8) = spec_l4Turn.T8 := by kernel_rfl
theorem spec_l4Turn.bits8 : waitsOk spec_l4Turn.T8.2 spec_l4Turn.B8 = true := by kernel_rfl
set_option maxHeartbeats 8000000 in
set_option maxRecDepth 100000 in
theorem spec_l4Turn.calls (k : Nat) (a0_0 : Int) (a0_1 : Int) (A0_2 : Option Addr) (c0_2 : Nat) (l0_2 : List Int) (r1 : Int) (r2 : Int) (r3 : List Int) (w : World) (hr0_2 : Kd.C (Kd.int .i64) w A0_2 l0_2.length l0_2) (hc0_2 : l0_2.length ≤ c0_2) (h : spec_l4Turn.f k a0_0 a0_1 l0_2 = some (r1, r2, r3)) :
  Calls Try.prog 160 #[.agg #[.int .i64 a0_0, .int .i64 a0_1, .slice A0_2 l0_2.length c0_2]] w fun e w' => ∃ v2_ : Value, e = .returned (.agg #[.int .i64 r1, .int .i64 r2, v2_]) ∧ Kd.R (Kd.int .i64) 3 w' w.heap.size (fun _ => True) v2_ r3 ∧ Below w.heap.size w w' := by
 have hu26 := Try.underlying26
 have HR0_2 := Aside0.mk hr0_2
 have HC0_2 := Aside0.mk hc0_2
 clear hr0_2 hc0_2
 have HB := Aside0.mk (Below.refl w.heap.size w)
 have H : (spec_l4Turn.l0 k 0 a0_0 a0_1 l0_2 a0_1 a0_0 (([] : List Int))) = some (r1, r2, r3) := h
 clear h
 obtain ⟨y146, hy146⟩ : ∃ y_ : List Int, y_ = (([] : List Int)) := ⟨_, rfl⟩
 replace H : (spec_l4Turn.l0 k 0 a0_0 a0_1 l0_2 a0_1 a0_0 y146) = some (r1, r2, r3) := by first | (rw [hy146]; with_reducible exact H) | (have H2_ := (Option.bind_some _ _).symm.trans H; rw [hy146]; with_reducible exact H2_) | (have H2_ := (Option.bind_some _ _).symm.trans H; with_reducible exact H2_) | with_reducible exact H | (rw [hy146]; exact H) | exact H
 have Ny146 := Aside0.mk hy146
 clear hy146
 have H' := Aside0.mk H
 clear H
 go_enter Try.func160, Try.ntmps160
 go_wp2_with (first | ((with_reducible refine gate_dst (N := 1) rfl ?_); refine box_ (N := 1) (cs := #[.int .i64 a0_0, .int .i64 a0_1, .slice A0_2 l0_2.length c0_2]) (t := 26) ?_; intro gb144 hg w2 hbox hb; have BK144 := Aside0.mk (hbox); have GW144 := gz_ w hg; have GE144 := gz_ w hg; replace HB := Aside0.mk (below_step (bw_ w) hb); clear hb hbox hg) | ((with_reducible refine gate_dst (N := 2) rfl ?_); refine box_ (N := 2) (cs := #[.int .i64 0, .int .i64 0, .slice none 0 0]) (t := 26) ?_; intro gb145 hg w3 hbox hb; have n0_ := bb_ BK144 hb; have n1_ := Aside0.mk (below_step (bw_ w) hb); have n2_ := Aside0.mk (hbox); have n3_ := gz_ w hg; have n4_ := gz_ w hg; have n5_ := ne_ hg BK144; have n6_ := en_ hg BK144; clear BK144; clear HB; have BK144 := n0_; have HB := n1_; have BK145 := n2_; have GW145 := n3_; have GE145 := n4_; have NB144_145 := n5_; have NB145_144 := n6_; clear n0_ n1_ n2_ n3_ n4_ n5_ n6_; clear hb hbox hg; have hnb4 := NB144_145.out; have hnc4 := NB145_144.out; obtain ⟨hcz5_0, hcz5_1, hcz5_2, hfz5_0, hfz5_1, hfz5_2⟩ := bc3_ (w := w3) BK144) | ((with_reducible refine gate_dst (N := 10) rfl ?_); refine Kd.R_lit (Kd.int .i64) _ 3 ?hg (N := 10) ?hd (xs := ([] : List Int)) (inner := []) (ok := fun _ => True) (okp := fun _ => True) ?hr ?hp (fun _ hk => hk) trivial (Below.refl _ _) (Nat.le_refl _) (by simp) ?_; (case hd => rfl); (case hg => rfl); (case hr => first | (go_simp; done) | (go_simp; rfl)); (case hp => exact (Reps.none _ _)); intro v147 w6 ho7 hb hg_ hnew_; clear hg_ hnew_; (first | rw [← Ny146.out] at ho7 | (simp only [Int.reduceToNat] at ho7; rw [← Ny146.out] at ho7)); have HO148 := Aside0.mk (Kd.R_lower ho7 (below_size (bw_ w))); replace BK144 := bb_ BK144 hb; replace BK145 := bb_ BK145 hb; replace HB := Aside0.mk (below_step (bw_ w) hb); clear hb ho7; obtain ⟨Ao8, co8, eo8⟩ := Kd.R_slice HO148.out; subst eo8) | ((with_reducible refine gate_dst (N := 3) rfl ?_); refine box_ (N := 3) (cs := #[.int .i64 0, .int .i64 0, .slice none 0 0]) (t := 26) ?_; intro gb149 hg w9 hbox hb; have n0_ := Aside0.mk (Kd.R_below (ra_ HO148) hb); have n1_ := bb_ BK144 hb; have n2_ := bb_ BK145 hb; have n3_ := Aside0.mk (below_step (bw_ w) hb); have n4_ := Aside0.mk (hbox); have n5_ := gz_ w hg; have n6_ := gz_ w hg; have n7_ := ne_ hg BK144; have n8_ := en_ hg BK144; have n9_ := ne_ hg BK145; have n10_ := en_ hg BK145; clear HO148; clear BK144; clear BK145; clear HB; have HO148 := n0_; have BK144 := n1_; have BK145 := n2_; have HB := n3_; have BK149 := n4_; have GW149 := n5_; have GE149 := n6_; have NB144_149 := n7_; have NB149_144 := n8_; have NB145_149 := n9_; have NB149_145 := n10_; clear n0_ n1_ n2_ n3_ n4_ n5_ n6_ n7_ n8_ n9_ n10_; clear hb hbox hg; have hnb10 := NB149_144.out; have hnc10 := NB144_149.out; have hnb11 := NB149_145.out; have hnc11 := NB145_149.out; obtain ⟨hcz12_0, hcz12_1, hcz12_2, hfz12_0, hfz12_1, hfz12_2⟩ := bc3_ (w := w9) BK149))
 go_loopg [4] k (fun kq v4 w' => ∃ (x4_1 : Int) (x150002_1 : List Int) (u150002 : Value), v4 = .int .i64 x4_1 ∧ Aside0 (spec_l4Turn.l0 kq x4_1 a0_0 a0_1 l0_2 a0_1 a0_0 x150002_1 = some (r1, r2, r3)) ∧ Aside0 (kq ≤ k) ∧ Aside0 (Kd.R (Kd.int .i64) 3 w' w.heap.size (fun _ => True) u150002 x150002_1) ∧ Aside0 (w'.heap[gb144]? = some (.cells #[.int .i64 a0_0, .int .i64 a0_1, (.slice A0_2 l0_2.length c0_2)] 26 (0, 0))) ∧ Aside0 (w'.heap[gb145]? = some (.cells #[.int .i64 0, .int .i64 0, (.slice none 0 0)] 26 (0, 0))) ∧ Aside0 (w'.heap[gb149]? = some (.cells #[.int .i64 a0_1, .int .i64 a0_0, u150002] 26 (0, 0))) ∧ Aside0 (Below w.heap.size w w'))
 case atStart => exact ⟨(0), (y146), (.slice Ao8 y146.length co8), (by first | rfl | (simp; done) | (simp [*]; done)), H', ⟨Nat.le_refl _⟩, ⟨by exact rf_ (Kd.R_types HO148.out BK149.out (by decide)) (fun _ hk => trivial)⟩, ⟨bk_ BK144⟩, ⟨bk_ BK145⟩, ⟨bq_ BK149⟩, ⟨(bw_ w)⟩⟩
 case round =>
  clear H'
  try clear c1
  try clear p2
  try clear c4
  try clear c10
  try clear c11
  try clear hcz12_0
  try clear hcz12_1
  try clear hcz12_2
  try clear hcz5_0
  try clear hcz5_1
  try clear hcz5_2
  try clear hfz12_0
  try clear hfz12_1
  try clear hfz12_2
  try clear hfz5_0
  try clear hfz5_1
  try clear hfz5_2
  obtain ⟨x4_1, x150002_1, u150002, rfl, HA, HK1, HO_150002, BK144, BK145, BK149, HB⟩ := hrel
  cases gk with
  | zero => exact absurd HA.out (by simp [spec_l4Turn.l0])
  | succ k1 =>
   have H := HA.out
   clear HA
   simp only [spec_l4Turn.l0] at H
   by_cases c13 : x4_1 < a0_0
   ·rw [if_pos c13] at H
    have c13b0 : decide (x4_1 < a0_0) = true := decide_eq_true c13
    clear c13
    have H' := Aside0.mk H
    clear H
    have hnb14 := NB149_144.out
    have hnc14 := NB144_149.out
    have hnb15 := NB149_145.out
    have hnc15 := NB145_149.out
    obtain ⟨hcz16_0, hcz16_1, hcz16_2, hfz16_0, hfz16_1, hfz16_2⟩ := bc3_ (w := wr) BK149
    go_wp2
    go_loopg [5] k1 (fun kq v5 w' => ∃ (x5_2 : Int) (x150002_2 : List Int) (u150002 : Value), v5 = .int .i64 x5_2 ∧ Aside0 (spec_l4Turn.l1 kq x4_1 x5_2 a0_0 a0_1 l0_2 a0_1 a0_0 x150002_2 = some (r1, r2, r3)) ∧ Aside0 (kq ≤ k1) ∧ Aside0 (Kd.R (Kd.int .i64) 3 w' w.heap.size (fun _ => True) u150002 x150002_2) ∧ Aside0 (w'.heap[gb144]? = some (.cells #[.int .i64 a0_0, .int .i64 a0_1, (.slice A0_2 l0_2.length c0_2)] 26 (0, 0))) ∧ Aside0 (w'.heap[gb145]? = some (.cells #[.int .i64 0, .int .i64 0, (.slice none 0 0)] 26 (0, 0))) ∧ Aside0 (w'.heap[gb149]? = some (.cells #[.int .i64 a0_1, .int .i64 a0_0, u150002] 26 (0, 0))) ∧ Aside0 (Below w.heap.size w w'))
    case atStart => exact ⟨(0), (x150002_1), (u150002), (by first | rfl | (simp; done) | (simp [*]; done)), H', ⟨Nat.le_refl _⟩, ⟨ra_ HO_150002⟩, ⟨bk_ BK144⟩, ⟨bk_ BK145⟩, ⟨bk_ BK149⟩, ⟨(bw_ w)⟩⟩
    case round =>
     clear H'
     try clear c1
     try clear p2
     try clear c4
     try clear c10
     try clear c11
     try clear c13
     try clear c13b0
     try clear c14
     try clear c15
     try clear c16
     try clear hcz12_0
     try clear hcz12_1
     try clear hcz12_2
     try clear hcz16_0
     try clear hcz16_1
     try clear hcz16_2
     try clear hcz5_0
     try clear hcz5_1
     try clear hcz5_2
     try clear hfz12_0
     try clear hfz12_1
     try clear hfz12_2
     try clear hfz16_0
     try clear hfz16_1
     try clear hfz16_2
     try clear hfz5_0
     try clear hfz5_1
     try clear hfz5_2
     try clear p2
     obtain ⟨x5_2, x150002_2, u150002, rfl, HA, HK2, HO_150002, BK144, BK145, BK149, HB⟩ := hrel
     cases gk with
     | zero => exact absurd HA.out (by simp [spec_l4Turn.l1])
     | succ k2 =>
      have H := HA.out
      clear HA
      simp only [spec_l4Turn.l1] at H
      by_cases c17 : x5_2 < a0_1
      ·rw [if_pos c17] at H
       have c17b0 : decide (x5_2 < a0_1) = true := decide_eq_true c17
       clear c17
       replace H := Option.bind_eq_some_iff.mp H
       obtain ⟨t150, A180, H⟩ := H
       replace H : (if x150002_2.length < 17592186044416 then (spec_l4Turn.l1 k2 x4_1 (wrap64 (x5_2 + 1)) a0_0 a0_1 l0_2 a0_1 a0_0 (x150002_2 ++ [t150])) else (none)) = some (r1, r2, r3) := H
       have A18 := Aside0.mk A180
       clear A180
       by_cases c19 : x150002_2.length < 17592186044416
       ·rw [if_pos c19] at H
        have LMc19 := Aside0.mk c19
        clear c19
        obtain ⟨y151, hy151⟩ : ∃ y_ : List Int, y_ = (x150002_2 ++ [t150]) := ⟨_, rfl⟩
        replace H : (spec_l4Turn.l1 k2 x4_1 (wrap64 (x5_2 + 1)) a0_0 a0_1 l0_2 a0_1 a0_0 y151) = some (r1, r2, r3) := by first | (rw [hy151]; with_reducible exact H) | (have H2_ := (Option.bind_some _ _).symm.trans H; rw [hy151]; with_reducible exact H2_) | (have H2_ := (Option.bind_some _ _).symm.trans H; with_reducible exact H2_) | with_reducible exact H | (rw [hy151]; exact H) | exact H
        have Ny151 := Aside0.mk hy151
        clear hy151
        have H' := Aside0.mk H
        clear H
        have hnb20 := NB149_144.out
        have hnc20 := NB144_149.out
        have hnb21 := NB149_145.out
        have hnc21 := NB145_149.out
        obtain ⟨hcz22_0, hcz22_1, hcz22_2, hfz22_0, hfz22_1, hfz22_2⟩ := bc3_ (w := wr) BK149
        try go_wp2
        replace HO_150002 := Aside0.mk (Kd.R_drew HO_150002.out)
        replace BK144 := Aside0.mk (blk_drew BK144.out)
        replace BK145 := Aside0.mk (blk_drew BK145.out)
        replace BK149 := Aside0.mk (blk_drew BK149.out)
        replace HB := Aside0.mk (below_drew1 HB.out)
        refine start_ (n := 14) (S := fun w' => w'.cell? ⟨gb149, 0, none⟩ = some (.int .i64 a0_1) ∧ w'.cell? ⟨gb149, 1, none⟩ = some (.int .i64 a0_0) ∧ w'.cell? ⟨gb149, 2, none⟩ = some (u150002) ∧ w'.cell? ⟨gb144, 0, none⟩ = some (.int .i64 a0_0) ∧ w'.cell? ⟨gb144, 1, none⟩ = some (.int .i64 a0_1) ∧ w'.cell? ⟨gb144, 2, none⟩ = some (.slice A0_2 l0_2.length c0_2)) (ds := [13]) #[false, false, false, false, false, false, false, false, false, false, false, false, false, false] (by kernel_rfl) rfl rfl ⟨bc_ BK149 0, bc_ BK149 1, bc_ BK149 2, bc_ BK144 0, bc_ BK144 1, bc_ BK144 2⟩ (fun hHeld => ?_); refine with_tabW spec_l4Turn.tab8 spec_l4Turn.bits8 (fun HT_ HW_ => ?_)
        generalize wr.drew = w23 at HO_150002 BK144 BK145 BK149 HB hHeld ⊢
        refine pureA (N := some 24) 0 HT_ ?_
        refine pureA (N := some 27) 3 HT_ ?_
        refine pureA (N := some 30) 6 HT_ ?_
        refine pureA (N := some 32) 8 HT_ ?_
        refine takeA (N := some 25) 1 HT_ HW_ hHeld ?_
        refine takeA (N := some 26) 2 HT_ HW_ hHeld ?_
        refine takeA (N := some 28) 4 HT_ HW_ hHeld ?_
        refine pureA (N := some 29) 5 HT_ ?_
        refine pureA (N := some 31) 7 HT_ ?_
        refine oneA (N := some 33) 9 HT_ (fun K hK => ?_)
        refine goesA Try.func176 #[.agg #[.int .i64 a0_0, .int .i64 a0_1, .slice A0_2 l0_2.length c0_2], .int .i64 (wrap64 ((wrap64 (a0_1 - 1)) - x5_2)), .int .i64 x4_1] ?_
        with_reducible refine (spec_l2At.calls a0_0 a0_1 _ _ l0_2 (wrap64 ((wrap64 (a0_1 - 1)) - x5_2)) x4_1 t150 _ ?side1 ?side2 A18.out).mono ?_
        (case side1 => exact cb_ HR0_2 HB)
        (case side2 => exact HC0_2.out)
        rintro e w24 ⟨rfl, hb⟩
        refine ⟨_, rfl, ?_⟩
        replace HO_150002 := Aside0.mk (Kd.R_below (ra_ HO_150002) hb)
        replace BK144 := bb_ BK144 hb
        replace BK145 := bb_ BK145 hb
        replace BK149 := bb_ BK149 hb
        replace HB := Aside0.mk (below_step (bw_ w) hb)
        (try clear hb)
        (try clear hb2)
        (try clear hk)
        (try clear hi)
        refine hK.out _ _ ⟨bc_ BK149 0, bc_ BK149 1, bc_ BK149 2, bc_ BK144 0, bc_ BK144 1, bc_ BK144 2⟩ (fun hHeld => ?_)
        clear hK K
        refine normA (N := some 33) ?_
        refine oneA (N := some 34) 10 HT_ (fun K hK => ?_)
        refine value_ (w1 := ?_) (v := ?_) (by rfl) rfl ?_ ?_
        rotate_left 2
        ·go_simp
         constructor
         ·rfl
         ·rfl
        refine hK.out _ _ ⟨(blk_cell (blk_alloc BK149.out _) 0).trans rfl, (blk_cell (blk_alloc BK149.out _) 1).trans rfl, (blk_cell (blk_alloc BK149.out _) 2).trans rfl, (blk_cell (blk_alloc BK144.out _) 0).trans rfl, (blk_cell (blk_alloc BK144.out _) 1).trans rfl, (blk_cell (blk_alloc BK144.out _) 2).trans rfl⟩ (fun hHeld => ?_)
        clear hK K
        refine normA (N := some 34) ?_
        refine oneA (N := some 35) 11 HT_ (fun K hK => ?_)
        refine Kd.R_append_step (Kd.int .i64) (w0 := w) w.heap.size (by rfl) (.tmp 25) (.tmp 34) 22 3 (.int .i64 0) 8 rfl Try.underlying22 info3 rfl (by decide) (by omega) u150002 x150002_2 t150 [.int .i64 t150] (fun _ => True) (fun _ => False) rfl rfl ?aP (fun _ hk => hk.elim) ?aF ?aO ?aB ?aS ?aL ?_
        (case aP => exact rfl)
        (case aB => exact (bw_ w))
        (case aF => exact (fun _ _ => trivial))
        (case aO => exact (ra_ HO_150002))
        (case aS => exact (below_size (bw_ w)))
        (case aL => have := LMc19.out; omega)
        intro v152 w25 ho hb hg hat
        rw [← Ny151.out] at ho
        replace BK144 := Aside0.mk (blk_grown (g := gb144) (o := .cells #[.int .i64 a0_0, .int .i64 a0_1, .slice A0_2 l0_2.length c0_2] 26 (0, 0)) (bk_ BK144) hg (Kd.R_ne HO_150002.out BK144.out (by decide)))
        replace BK145 := Aside0.mk (blk_grown (g := gb145) (o := .cells #[.int .i64 0, .int .i64 0, .slice none 0 0] 26 (0, 0)) (bk_ BK145) hg (Kd.R_ne HO_150002.out BK145.out (by decide)))
        replace BK149 := Aside0.mk (blk_grown (g := gb149) (o := .cells #[.int .i64 a0_1, .int .i64 a0_0, u150002] 26 (0, 0)) (bk_ BK149) hg (Kd.R_ne HO_150002.out BK149.out (by decide)))
        have HO153 := Aside0.mk (ho)
        replace HB := Aside0.mk (hb)
        clear HO_150002
        clear ho hb hg hat
        obtain ⟨Ao26, co26, eo26⟩ := Kd.R_slice HO153.out
        (first | subst eo26 | (injection eo26 with f1_ f2_ f3_; have f4_ := f1_.symm; have f5_ := f3_.symm; clear f1_ f2_ f3_; subst f4_; subst f5_))
        refine hK.out _ _ ⟨bc_ BK149 0, bc_ BK149 1, bc_ BK149 2, bc_ BK144 0, bc_ BK144 1, bc_ BK144 2⟩ (fun hHeld => ?_)
        clear hK K
        refine normA (N := some 35) ?_
        refine pureA (N := some 36) 12 HT_ ?_
        refine lastA (N := none) 13 HT_ (fun K hK => ?_)
        have hs27 : w25.cell? ⟨gb149, 2, none⟩ = some (u150002) := bc_ BK149 2
        have hfs27 := blk_frozen BK149.out 2
        have hns27_0 := NB144_149.out
        have hns27_1 := NB145_149.out
        have hms27_0 := NB149_144.out
        have hms27_1 := NB149_145.out
        refine skip_ (w1 := ?_) (by rfl) rfl ?_ ?_
        rotate_left
        ·go_simp
         rfl
        refine hK.out _ _ ?_
        clear hK K
        refine done_ (done_of HT_.out (by kernel_rfl)) ?_
        try go_wp2
        go_roundg k2
        case measure => have := HK1.out; have := HK2.out; omega
        case rel => exact ⟨(wrap64 (x5_2 + 1)), (y151), (.slice Ao26 y151.length co26), (by first | rfl | (simp; done) | (simp [*]; done)), H', ⟨by have := HK1.out; have := HK2.out; omega⟩, ⟨by exact rf_ (Kd.R_types HO153.out BK149.out (by decide)) (fun _ hk => trivial)⟩, ⟨bk_ BK144⟩, ⟨bk_ BK145⟩, ⟨bq_ BK149⟩, ⟨(bw_ w)⟩⟩
       ·rw [if_neg c19] at H
        exact absurd H (by simp)
      ·rw [if_neg c17] at H
       have c17b0 : decide (x5_2 < a0_1) = false := decide_eq_false c17
       clear c17
       have H' := Aside0.mk H
       clear H
       have hnb28 := NB149_144.out
       have hnc28 := NB144_149.out
       have hnb29 := NB149_145.out
       have hnc29 := NB145_149.out
       obtain ⟨hcz30_0, hcz30_1, hcz30_2, hfz30_0, hfz30_1, hfz30_2⟩ := bc3_ (w := wr) BK149
       go_wp2
       go_roundg k2
       case measure => have := HK1.out; have := HK2.out; omega
       case rel => exact ⟨(wrap64 (x4_1 + 1)), (x150002_2), (u150002), (by first | rfl | (simp; done) | (simp [*]; done)), H', ⟨by have := HK1.out; have := HK2.out; omega⟩, ⟨ra_ HO_150002⟩, ⟨bk_ BK144⟩, ⟨bk_ BK145⟩, ⟨bk_ BK149⟩, ⟨(bw_ w)⟩⟩
   ·rw [if_neg c13] at H
    have c13b0 : decide (x4_1 < a0_0) = false := decide_eq_false c13
    clear c13
    simp only [Option.some.injEq, Prod.mk.injEq] at H
    obtain ⟨rfl, rfl, rfl⟩ := H
    have hnb31 := NB149_144.out
    have hnc31 := NB144_149.out
    have hnb32 := NB149_145.out
    have hnc32 := NB145_149.out
    obtain ⟨hcz33_0, hcz33_1, hcz33_2, hfz33_0, hfz33_1, hfz33_2⟩ := bc3_ (w := wr) BK149
    have hnb34 := NB145_144.out
    have hnc34 := NB144_145.out
    obtain ⟨hcz35_0, hcz35_1, hcz35_2, hfz35_0, hfz35_1, hfz35_2⟩ := bc3_ (w := wr) BK145
    obtain ⟨Ao36, co36, eo36⟩ := Kd.R_slice HO_150002.out
    subst eo36
    go_wp2
    refine bodyPost_ret (results_cell_row rfl _ _ gb145 26 #[.int .i64 a0_1, .int .i64 a0_0, .slice Ao36 x150002_1.length co36] (0, 0) _ rfl (bq_ BK145) Try.underlying26 rfl (by kernel_rfl)) rfl ?_
    exact ⟨_, by first | rfl | (simp [errW_none, errW_some] <;> rfl) | (simp [*, errW_none, errW_some] <;> rfl), by exact rf_ (Kd.R_types HO_150002.out BK145.out (by decide)) (fun _ hk => trivial), (bw_ w)⟩

/-! ### spec_l4Mirror: function 161 -/
mutual
def spec_l4Mirror.l0 : Nat → Int → Int → Int → List Int → Int → Int → List Int → Option (Int × Int × List Int)
  | 0, _, _, _, _, _, _, _ => none
  | k + 1, x4, x155000, x155001, x155002, x160000, x160001, x160002 => if x4 < x155001 then (spec_l4Mirror.l1 k x4 0 x155000 x155001 x155002 x160000 x160001 x160002) else (some (x160000, x160001, x160002))
def spec_l4Mirror.l1 : Nat → Int → Int → Int → Int → List Int → Int → Int → List Int → Option (Int × Int × List Int)
  | 0, _, _, _, _, _, _, _, _ => none
  | k + 1, x4, x5, x155000, x155001, x155002, x160000, x160001, x160002 => if x5 < x155000 then ((spec_l2At.f x155000 x155001 x155002 x4 (wrap64 ((wrap64 (x155000 - 1)) - x5))).bind fun t160 => (if x160002.length < 17592186044416 then (spec_l4Mirror.l1 k x4 (wrap64 (x5 + 1)) x155000 x155001 x155002 x160000 x160001 (x160002 ++ [t160])) else (none))) else (spec_l4Mirror.l0 k (wrap64 (x4 + 1)) x155000 x155001 x155002 x160000 x160001 x160002)
end
def spec_l4Mirror.f (k : Nat) (a0_0 : Int) (a0_1 : Int) (l0_2 : List Int) : Option (Int × Int × List Int) := spec_l4Mirror.l0 k 0 a0_0 a0_1 l0_2 a0_0 a0_1 (([] : List Int))
theorem spec_l4Mirror.mono_l : ∀ k, (∀ y0 y1 y2 y3 y4 y5 y6, LeO (spec_l4Mirror.l0 k y0 y1 y2 y3 y4 y5 y6) (spec_l4Mirror.l0 (k + 1) y0 y1 y2 y3 y4 y5 y6)) ∧ (∀ y0 y1 y2 y3 y4 y5 y6 y7, LeO (spec_l4Mirror.l1 k y0 y1 y2 y3 y4 y5 y6 y7) (spec_l4Mirror.l1 (k + 1) y0 y1 y2 y3 y4 y5 y6 y7))
  | 0 => ⟨fun _ _ _ _ _ _ _ r h => by simp [spec_l4Mirror.l0] at h, fun _ _ _ _ _ _ _ _ r h => by simp [spec_l4Mirror.l1] at h⟩
  | k + 1 => by
    obtain ⟨ih0, ih1⟩ := spec_l4Mirror.mono_l k
    refine ⟨?_, ?_⟩
    · intro y0 y1 y2 y3 y4 y5 y6
      unfold spec_l4Mirror.l0
      repeat' first
      | (with_reducible exact ih0 _ _ _ _ _ _ _)
      | (with_reducible exact ih1 _ _ _ _ _ _ _ _)
      | (with_reducible exact LeO.refl _)
      | (with_reducible exact LeO.none _)
      | (with_reducible refine LeO.ite ?_ ?_)
      | (with_reducible refine LeO.bind ?_ (fun _ => ?_))
      | exact ih0 _ _ _ _ _ _ _
      | exact ih1 _ _ _ _ _ _ _ _
      | exact LeO.none _
      | refine LeO.ite ?_ ?_
      | refine LeO.bind ?_ (fun _ => ?_)
    · intro y0 y1 y2 y3 y4 y5 y6 y7
      unfold spec_l4Mirror.l1
      repeat' first
      | (with_reducible exact ih0 _ _ _ _ _ _ _)
      | (with_reducible exact ih1 _ _ _ _ _ _ _ _)
      | (with_reducible exact LeO.refl _)
      | (with_reducible exact LeO.none _)
      | (with_reducible refine LeO.ite ?_ ?_)
      | (with_reducible refine LeO.bind ?_ (fun _ => ?_))
      | exact ih0 _ _ _ _ _ _ _
      | exact ih1 _ _ _ _ _ _ _ _
      | exact LeO.none _
      | refine LeO.ite ?_ ?_
      | refine LeO.bind ?_ (fun _ => ?_)
theorem spec_l4Mirror.mono : ∀ a0 a1 a2 k, LeO (spec_l4Mirror.f k a0 a1 a2) (spec_l4Mirror.f (k + 1) a0 a1 a2) := by
  intro a0 a1 a2 k
  obtain ⟨ih0, ih1⟩ := spec_l4Mirror.mono_l k
  unfold spec_l4Mirror.f
  repeat' first
      | (with_reducible exact ih0 _ _ _ _ _ _ _)
      | (with_reducible exact ih1 _ _ _ _ _ _ _ _)
      | (with_reducible exact LeO.refl _)
      | (with_reducible exact LeO.none _)
      | (with_reducible refine LeO.ite ?_ ?_)
      | (with_reducible refine LeO.bind ?_ (fun _ => ?_))
      | exact ih0 _ _ _ _ _ _ _
      | exact ih1 _ _ _ _ _ _ _ _
      | exact LeO.none _
      | refine LeO.ite ?_ ?_
      | refine LeO.bind ?_ (fun _ => ?_)
def spec_l4Mirror.T8 : Bool × List (List Nat × List Nat) := (true, [([], []), ([0], [0]), ([], []), ([], []), ([], []), ([4], [4]), ([5], [5]), ([], []), ([6, 7], [6, 7]), ([2, 3, 8], [2, 3, 8]), ([9], [9]), ([1, 10, 9], [1, 10]), ([0, 1, 2, 3, 4, 5, 6, 7, 8, 9, 10, 11], []), ([12, 11, 11, 0, 1, 2, 3, 4, 5, 6, 7, 8, 9, 10, 11], [11, 12])])
def spec_l4Mirror.B8 : List Nat := [0, 1, 0, 0, 0, 16, 48, 0, 240, 508, 1020, 2047, 4095, 8191]
theorem spec_l4Mirror.tab8 : rtab .any (opsOf Try.f161 8) = spec_l4Mirror.T8 := by kernel_rfl
theorem spec_l4Mirror.bits8 : waitsOk spec_l4Mirror.T8.2 spec_l4Mirror.B8 = true := by kernel_rfl
set_option maxHeartbeats 8000000 in
set_option maxRecDepth 100000 in
theorem spec_l4Mirror.calls (k : Nat) (a0_0 : Int) (a0_1 : Int) (A0_2 : Option Addr) (c0_2 : Nat) (l0_2 : List Int) (r1 : Int) (r2 : Int) (r3 : List Int) (w : World) (hr0_2 : Kd.C (Kd.int .i64) w A0_2 l0_2.length l0_2) (hc0_2 : l0_2.length ≤ c0_2) (h : spec_l4Mirror.f k a0_0 a0_1 l0_2 = some (r1, r2, r3)) :
  Calls Try.prog 161 #[.agg #[.int .i64 a0_0, .int .i64 a0_1, .slice A0_2 l0_2.length c0_2]] w fun e w' => ∃ v2_ : Value, e = .returned (.agg #[.int .i64 r1, .int .i64 r2, v2_]) ∧ Kd.R (Kd.int .i64) 3 w' w.heap.size (fun _ => True) v2_ r3 ∧ Below w.heap.size w w' := by
 have hu26 := Try.underlying26
 have HR0_2 := Aside0.mk hr0_2
 have HC0_2 := Aside0.mk hc0_2
 clear hr0_2 hc0_2
 have HB := Aside0.mk (Below.refl w.heap.size w)
 have H : (spec_l4Mirror.l0 k 0 a0_0 a0_1 l0_2 a0_0 a0_1 (([] : List Int))) = some (r1, r2, r3) := h
 clear h
 obtain ⟨y156, hy156⟩ : ∃ y_ : List Int, y_ = (([] : List Int)) := ⟨_, rfl⟩
 replace H : (spec_l4Mirror.l0 k 0 a0_0 a0_1 l0_2 a0_0 a0_1 y156) = some (r1, r2, r3) := by first | (rw [hy156]; with_reducible exact H) | (have H2_ := (Option.bind_some _ _).symm.trans H; rw [hy156]; with_reducible exact H2_) | (have H2_ := (Option.bind_some _ _).symm.trans H; with_reducible exact H2_) | with_reducible exact H | (rw [hy156]; exact H) | exact H
 have Ny156 := Aside0.mk hy156
 clear hy156
 have H' := Aside0.mk H
 clear H
 go_enter Try.func161, Try.ntmps161
 go_wp2_with (first | ((with_reducible refine gate_dst (N := 1) rfl ?_); refine box_ (N := 1) (cs := #[.int .i64 a0_0, .int .i64 a0_1, .slice A0_2 l0_2.length c0_2]) (t := 26) ?_; intro gb154 hg w2 hbox hb; have BK154 := Aside0.mk (hbox); have GW154 := gz_ w hg; have GE154 := gz_ w hg; replace HB := Aside0.mk (below_step (bw_ w) hb); clear hb hbox hg) | ((with_reducible refine gate_dst (N := 2) rfl ?_); refine box_ (N := 2) (cs := #[.int .i64 0, .int .i64 0, .slice none 0 0]) (t := 26) ?_; intro gb155 hg w3 hbox hb; have n0_ := bb_ BK154 hb; have n1_ := Aside0.mk (below_step (bw_ w) hb); have n2_ := Aside0.mk (hbox); have n3_ := gz_ w hg; have n4_ := gz_ w hg; have n5_ := ne_ hg BK154; have n6_ := en_ hg BK154; clear BK154; clear HB; have BK154 := n0_; have HB := n1_; have BK155 := n2_; have GW155 := n3_; have GE155 := n4_; have NB154_155 := n5_; have NB155_154 := n6_; clear n0_ n1_ n2_ n3_ n4_ n5_ n6_; clear hb hbox hg; have hnb4 := NB154_155.out; have hnc4 := NB155_154.out; obtain ⟨hcz5_0, hcz5_1, hcz5_2, hfz5_0, hfz5_1, hfz5_2⟩ := bc3_ (w := w3) BK154) | ((with_reducible refine gate_dst (N := 10) rfl ?_); refine Kd.R_lit (Kd.int .i64) _ 3 ?hg (N := 10) ?hd (xs := ([] : List Int)) (inner := []) (ok := fun _ => True) (okp := fun _ => True) ?hr ?hp (fun _ hk => hk) trivial (Below.refl _ _) (Nat.le_refl _) (by simp) ?_; (case hd => rfl); (case hg => rfl); (case hr => first | (go_simp; done) | (go_simp; rfl)); (case hp => exact (Reps.none _ _)); intro v157 w6 ho7 hb hg_ hnew_; clear hg_ hnew_; (first | rw [← Ny156.out] at ho7 | (simp only [Int.reduceToNat] at ho7; rw [← Ny156.out] at ho7)); have HO158 := Aside0.mk (Kd.R_lower ho7 (below_size (bw_ w))); replace BK154 := bb_ BK154 hb; replace BK155 := bb_ BK155 hb; replace HB := Aside0.mk (below_step (bw_ w) hb); clear hb ho7; obtain ⟨Ao8, co8, eo8⟩ := Kd.R_slice HO158.out; subst eo8) | ((with_reducible refine gate_dst (N := 3) rfl ?_); refine box_ (N := 3) (cs := #[.int .i64 0, .int .i64 0, .slice none 0 0]) (t := 26) ?_; intro gb159 hg w9 hbox hb; have n0_ := Aside0.mk (Kd.R_below (ra_ HO158) hb); have n1_ := bb_ BK154 hb; have n2_ := bb_ BK155 hb; have n3_ := Aside0.mk (below_step (bw_ w) hb); have n4_ := Aside0.mk (hbox); have n5_ := gz_ w hg; have n6_ := gz_ w hg; have n7_ := ne_ hg BK154; have n8_ := en_ hg BK154; have n9_ := ne_ hg BK155; have n10_ := en_ hg BK155; clear HO158; clear BK154; clear BK155; clear HB; have HO158 := n0_; have BK154 := n1_; have BK155 := n2_; have HB := n3_; have BK159 := n4_; have GW159 := n5_; have GE159 := n6_; have NB154_159 := n7_; have NB159_154 := n8_; have NB155_159 := n9_; have NB159_155 := n10_; clear n0_ n1_ n2_ n3_ n4_ n5_ n6_ n7_ n8_ n9_ n10_; clear hb hbox hg; have hnb10 := NB159_154.out; have hnc10 := NB154_159.out; have hnb11 := NB159_155.out; have hnc11 := NB155_159.out; obtain ⟨hcz12_0, hcz12_1, hcz12_2, hfz12_0, hfz12_1, hfz12_2⟩ := bc3_ (w := w9) BK159))
 go_loopg [4] k (fun kq v4 w' => ∃ (x4_1 : Int) (x160002_1 : List Int) (u160002 : Value), v4 = .int .i64 x4_1 ∧ Aside0 (spec_l4Mirror.l0 kq x4_1 a0_0 a0_1 l0_2 a0_0 a0_1 x160002_1 = some (r1, r2, r3)) ∧ Aside0 (kq ≤ k) ∧ Aside0 (Kd.R (Kd.int .i64) 3 w' w.heap.size (fun _ => True) u160002 x160002_1) ∧ Aside0 (w'.heap[gb154]? = some (.cells #[.int .i64 a0_0, .int .i64 a0_1, (.slice A0_2 l0_2.length c0_2)] 26 (0, 0))) ∧ Aside0 (w'.heap[gb155]? = some (.cells #[.int .i64 0, .int .i64 0, (.slice none 0 0)] 26 (0, 0))) ∧ Aside0 (w'.heap[gb159]? = some (.cells #[.int .i64 a0_0, .int .i64 a0_1, u160002] 26 (0, 0))) ∧ Aside0 (Below w.heap.size w w'))
 case atStart => exact ⟨(0), (y156), (.slice Ao8 y156.length co8), (by first | rfl | (simp; done) | (simp [*]; done)), H', ⟨Nat.le_refl _⟩, ⟨by exact rf_ (Kd.R_types HO158.out BK159.out (by decide)) (fun _ hk => trivial)⟩, ⟨bk_ BK154⟩, ⟨bk_ BK155⟩, ⟨bq_ BK159⟩, ⟨(bw_ w)⟩⟩
 case round =>
  clear H'
  try clear c1
  try clear p2
  try clear c4
  try clear c10
  try clear c11
  try clear hcz12_0
  try clear hcz12_1
  try clear hcz12_2
  try clear hcz5_0
  try clear hcz5_1
  try clear hcz5_2
  try clear hfz12_0
  try clear hfz12_1
  try clear hfz12_2
  try clear hfz5_0
  try clear hfz5_1
  try clear hfz5_2
  obtain ⟨x4_1, x160002_1, u160002, rfl, HA, HK1, HO_160002, BK154, BK155, BK159, HB⟩ := hrel
  cases gk with
  | zero => exact absurd HA.out (by simp [spec_l4Mirror.l0])
  | succ k1 =>
   have H := HA.out
   clear HA
   simp only [spec_l4Mirror.l0] at H
   by_cases c13 : x4_1 < a0_1
   ·rw [if_pos c13] at H
    have c13b0 : decide (x4_1 < a0_1) = true := decide_eq_true c13
    clear c13
    have H' := Aside0.mk H
    clear H
    have hnb14 := NB154_155.out
    have hnc14 := NB155_154.out
    have hnb15 := NB154_159.out
    have hnc15 := NB159_154.out
    obtain ⟨hcz16_0, hcz16_1, hcz16_2, hfz16_0, hfz16_1, hfz16_2⟩ := bc3_ (w := wr) BK154
    go_wp2
    go_loopg [5] k1 (fun kq v5 w' => ∃ (x5_2 : Int) (x160002_2 : List Int) (u160002 : Value), v5 = .int .i64 x5_2 ∧ Aside0 (spec_l4Mirror.l1 kq x4_1 x5_2 a0_0 a0_1 l0_2 a0_0 a0_1 x160002_2 = some (r1, r2, r3)) ∧ Aside0 (kq ≤ k1) ∧ Aside0 (Kd.R (Kd.int .i64) 3 w' w.heap.size (fun _ => True) u160002 x160002_2) ∧ Aside0 (w'.heap[gb154]? = some (.cells #[.int .i64 a0_0, .int .i64 a0_1, (.slice A0_2 l0_2.length c0_2)] 26 (0, 0))) ∧ Aside0 (w'.heap[gb155]? = some (.cells #[.int .i64 0, .int .i64 0, (.slice none 0 0)] 26 (0, 0))) ∧ Aside0 (w'.heap[gb159]? = some (.cells #[.int .i64 a0_0, .int .i64 a0_1, u160002] 26 (0, 0))) ∧ Aside0 (Below w.heap.size w w'))
    case atStart => exact ⟨(0), (x160002_1), (u160002), (by first | rfl | (simp; done) | (simp [*]; done)), H', ⟨Nat.le_refl _⟩, ⟨ra_ HO_160002⟩, ⟨bk_ BK154⟩, ⟨bk_ BK155⟩, ⟨bk_ BK159⟩, ⟨(bw_ w)⟩⟩
    case round =>
     clear H'
     try clear c1
     try clear p2
     try clear c4
     try clear c10
     try clear c11
     try clear c13
     try clear c13b0
     try clear c14
     try clear c15
     try clear c16
     try clear hcz12_0
     try clear hcz12_1
     try clear hcz12_2
     try clear hcz16_0
     try clear hcz16_1
     try clear hcz16_2
     try clear hcz5_0
     try clear hcz5_1
     try clear hcz5_2
     try clear hfz12_0
     try clear hfz12_1
     try clear hfz12_2
     try clear hfz16_0
     try clear hfz16_1
     try clear hfz16_2
     try clear hfz5_0
     try clear hfz5_1
     try clear hfz5_2
     try clear p2
     obtain ⟨x5_2, x160002_2, u160002, rfl, HA, HK2, HO_160002, BK154, BK155, BK159, HB⟩ := hrel
     cases gk with
     | zero => exact absurd HA.out (by simp [spec_l4Mirror.l1])
     | succ k2 =>
      have H := HA.out
      clear HA
      simp only [spec_l4Mirror.l1] at H
      by_cases c17 : x5_2 < a0_0
      ·rw [if_pos c17] at H
       have c17b0 : decide (x5_2 < a0_0) = true := decide_eq_true c17
       clear c17
       replace H := Option.bind_eq_some_iff.mp H
       obtain ⟨t160, A180, H⟩ := H
       replace H : (if x160002_2.length < 17592186044416 then (spec_l4Mirror.l1 k2 x4_1 (wrap64 (x5_2 + 1)) a0_0 a0_1 l0_2 a0_0 a0_1 (x160002_2 ++ [t160])) else (none)) = some (r1, r2, r3) := H
       have A18 := Aside0.mk A180
       clear A180
       by_cases c19 : x160002_2.length < 17592186044416
       ·rw [if_pos c19] at H
        have LMc19 := Aside0.mk c19
        clear c19
        obtain ⟨y161, hy161⟩ : ∃ y_ : List Int, y_ = (x160002_2 ++ [t160]) := ⟨_, rfl⟩
        replace H : (spec_l4Mirror.l1 k2 x4_1 (wrap64 (x5_2 + 1)) a0_0 a0_1 l0_2 a0_0 a0_1 y161) = some (r1, r2, r3) := by first | (rw [hy161]; with_reducible exact H) | (have H2_ := (Option.bind_some _ _).symm.trans H; rw [hy161]; with_reducible exact H2_) | (have H2_ := (Option.bind_some _ _).symm.trans H; with_reducible exact H2_) | with_reducible exact H | (rw [hy161]; exact H) | exact H
        have Ny161 := Aside0.mk hy161
        clear hy161
        have H' := Aside0.mk H
        clear H
        have hnb20 := NB154_155.out
        have hnc20 := NB155_154.out
        have hnb21 := NB154_159.out
        have hnc21 := NB159_154.out
        obtain ⟨hcz22_0, hcz22_1, hcz22_2, hfz22_0, hfz22_1, hfz22_2⟩ := bc3_ (w := wr) BK154
        try go_wp2
        replace HO_160002 := Aside0.mk (Kd.R_drew HO_160002.out)
        replace BK154 := Aside0.mk (blk_drew BK154.out)
        replace BK155 := Aside0.mk (blk_drew BK155.out)
        replace BK159 := Aside0.mk (blk_drew BK159.out)
        replace HB := Aside0.mk (below_drew1 HB.out)
        refine start_ (n := 14) (S := fun w' => w'.cell? ⟨gb159, 0, none⟩ = some (.int .i64 a0_0) ∧ w'.cell? ⟨gb159, 1, none⟩ = some (.int .i64 a0_1) ∧ w'.cell? ⟨gb159, 2, none⟩ = some (u160002) ∧ w'.cell? ⟨gb154, 0, none⟩ = some (.int .i64 a0_0) ∧ w'.cell? ⟨gb154, 1, none⟩ = some (.int .i64 a0_1) ∧ w'.cell? ⟨gb154, 2, none⟩ = some (.slice A0_2 l0_2.length c0_2)) (ds := [13]) #[false, false, false, false, false, false, false, false, false, false, false, false, false, false] (by kernel_rfl) rfl rfl ⟨bc_ BK159 0, bc_ BK159 1, bc_ BK159 2, bc_ BK154 0, bc_ BK154 1, bc_ BK154 2⟩ (fun hHeld => ?_); refine with_tabW spec_l4Mirror.tab8 spec_l4Mirror.bits8 (fun HT_ HW_ => ?_)
        generalize wr.drew = w23 at HO_160002 BK154 BK155 BK159 HB hHeld ⊢
        refine pureA (N := some 24) 0 HT_ ?_
        refine pureA (N := some 27) 3 HT_ ?_
        refine pureA (N := some 28) 4 HT_ ?_
        refine pureA (N := some 31) 7 HT_ ?_
        refine takeA (N := some 25) 1 HT_ HW_ hHeld ?_
        refine takeA (N := some 26) 2 HT_ HW_ hHeld ?_
        refine takeA (N := some 29) 5 HT_ HW_ hHeld ?_
        refine pureA (N := some 30) 6 HT_ ?_
        refine pureA (N := some 32) 8 HT_ ?_
        refine oneA (N := some 33) 9 HT_ (fun K hK => ?_)
        refine goesA Try.func176 #[.agg #[.int .i64 a0_0, .int .i64 a0_1, .slice A0_2 l0_2.length c0_2], .int .i64 x4_1, .int .i64 (wrap64 ((wrap64 (a0_0 - 1)) - x5_2))] ?_
        with_reducible refine (spec_l2At.calls a0_0 a0_1 _ _ l0_2 x4_1 (wrap64 ((wrap64 (a0_0 - 1)) - x5_2)) t160 _ ?side1 ?side2 A18.out).mono ?_
        (case side1 => exact cb_ HR0_2 HB)
        (case side2 => exact HC0_2.out)
        rintro e w24 ⟨rfl, hb⟩
        refine ⟨_, rfl, ?_⟩
        replace HO_160002 := Aside0.mk (Kd.R_below (ra_ HO_160002) hb)
        replace BK154 := bb_ BK154 hb
        replace BK155 := bb_ BK155 hb
        replace BK159 := bb_ BK159 hb
        replace HB := Aside0.mk (below_step (bw_ w) hb)
        (try clear hb)
        (try clear hb2)
        (try clear hk)
        (try clear hi)
        refine hK.out _ _ ⟨bc_ BK159 0, bc_ BK159 1, bc_ BK159 2, bc_ BK154 0, bc_ BK154 1, bc_ BK154 2⟩ (fun hHeld => ?_)
        clear hK K
        refine normA (N := some 33) ?_
        refine oneA (N := some 34) 10 HT_ (fun K hK => ?_)
        refine value_ (w1 := ?_) (v := ?_) (by rfl) rfl ?_ ?_
        rotate_left 2
        ·go_simp
         constructor
         ·rfl
         ·rfl
        refine hK.out _ _ ⟨(blk_cell (blk_alloc BK159.out _) 0).trans rfl, (blk_cell (blk_alloc BK159.out _) 1).trans rfl, (blk_cell (blk_alloc BK159.out _) 2).trans rfl, (blk_cell (blk_alloc BK154.out _) 0).trans rfl, (blk_cell (blk_alloc BK154.out _) 1).trans rfl, (blk_cell (blk_alloc BK154.out _) 2).trans rfl⟩ (fun hHeld => ?_)
        clear hK K
        refine normA (N := some 34) ?_
        refine oneA (N := some 35) 11 HT_ (fun K hK => ?_)
        refine Kd.R_append_step (Kd.int .i64) (w0 := w) w.heap.size (by rfl) (.tmp 25) (.tmp 34) 22 3 (.int .i64 0) 8 rfl Try.underlying22 info3 rfl (by decide) (by omega) u160002 x160002_2 t160 [.int .i64 t160] (fun _ => True) (fun _ => False) rfl rfl ?aP (fun _ hk => hk.elim) ?aF ?aO ?aB ?aS ?aL ?_
        (case aP => exact rfl)
        (case aB => exact (bw_ w))
        (case aF => exact (fun _ _ => trivial))
        (case aO => exact (ra_ HO_160002))
        (case aS => exact (below_size (bw_ w)))
        (case aL => have := LMc19.out; omega)
        intro v162 w25 ho hb hg hat
        rw [← Ny161.out] at ho
        replace BK154 := Aside0.mk (blk_grown (g := gb154) (o := .cells #[.int .i64 a0_0, .int .i64 a0_1, .slice A0_2 l0_2.length c0_2] 26 (0, 0)) (bk_ BK154) hg (Kd.R_ne HO_160002.out BK154.out (by decide)))
        replace BK155 := Aside0.mk (blk_grown (g := gb155) (o := .cells #[.int .i64 0, .int .i64 0, .slice none 0 0] 26 (0, 0)) (bk_ BK155) hg (Kd.R_ne HO_160002.out BK155.out (by decide)))
        replace BK159 := Aside0.mk (blk_grown (g := gb159) (o := .cells #[.int .i64 a0_0, .int .i64 a0_1, u160002] 26 (0, 0)) (bk_ BK159) hg (Kd.R_ne HO_160002.out BK159.out (by decide)))
        have HO163 := Aside0.mk (ho)
        replace HB := Aside0.mk (hb)
        clear HO_160002
        clear ho hb hg hat
        obtain ⟨Ao26, co26, eo26⟩ := Kd.R_slice HO163.out
        (first | subst eo26 | (injection eo26 with f1_ f2_ f3_; have f4_ := f1_.symm; have f5_ := f3_.symm; clear f1_ f2_ f3_; subst f4_; subst f5_))
        refine hK.out _ _ ⟨bc_ BK159 0, bc_ BK159 1, bc_ BK159 2, bc_ BK154 0, bc_ BK154 1, bc_ BK154 2⟩ (fun hHeld => ?_)
        clear hK K
        refine normA (N := some 35) ?_
        refine pureA (N := some 36) 12 HT_ ?_
        refine lastA (N := none) 13 HT_ (fun K hK => ?_)
        have hs27 : w25.cell? ⟨gb159, 2, none⟩ = some (u160002) := bc_ BK159 2
        have hfs27 := blk_frozen BK159.out 2
        have hns27_0 := NB154_159.out
        have hns27_1 := NB155_159.out
        have hms27_0 := NB159_154.out
        have hms27_1 := NB159_155.out
        refine skip_ (w1 := ?_) (by rfl) rfl ?_ ?_
        rotate_left
        ·go_simp
         rfl
        refine hK.out _ _ ?_
        clear hK K
        refine done_ (done_of HT_.out (by kernel_rfl)) ?_
        try go_wp2
        go_roundg k2
        case measure => have := HK1.out; have := HK2.out; omega
        case rel => exact ⟨(wrap64 (x5_2 + 1)), (y161), (.slice Ao26 y161.length co26), (by first | rfl | (simp; done) | (simp [*]; done)), H', ⟨by have := HK1.out; have := HK2.out; omega⟩, ⟨by exact rf_ (Kd.R_types HO163.out BK159.out (by decide)) (fun _ hk => trivial)⟩, ⟨bk_ BK154⟩, ⟨bk_ BK155⟩, ⟨bq_ BK159⟩, ⟨(bw_ w)⟩⟩
       ·rw [if_neg c19] at H
        exact absurd H (by simp)
      ·rw [if_neg c17] at H
       have c17b0 : decide (x5_2 < a0_0) = false := decide_eq_false c17
       clear c17
       have H' := Aside0.mk H
       clear H
       have hnb28 := NB154_155.out
       have hnc28 := NB155_154.out
       have hnb29 := NB154_159.out
       have hnc29 := NB159_154.out
       obtain ⟨hcz30_0, hcz30_1, hcz30_2, hfz30_0, hfz30_1, hfz30_2⟩ := bc3_ (w := wr) BK154
       go_wp2
       go_roundg k2
       case measure => have := HK1.out; have := HK2.out; omega
       case rel => exact ⟨(wrap64 (x4_1 + 1)), (x160002_2), (u160002), (by first | rfl | (simp; done) | (simp [*]; done)), H', ⟨by have := HK1.out; have := HK2.out; omega⟩, ⟨ra_ HO_160002⟩, ⟨bk_ BK154⟩, ⟨bk_ BK155⟩, ⟨bk_ BK159⟩, ⟨(bw_ w)⟩⟩
   ·rw [if_neg c13] at H
    have c13b0 : decide (x4_1 < a0_1) = false := decide_eq_false c13
    clear c13
    simp only [Option.some.injEq, Prod.mk.injEq] at H
    obtain ⟨rfl, rfl, rfl⟩ := H
    have hnb31 := NB154_155.out
    have hnc31 := NB155_154.out
    have hnb32 := NB154_159.out
    have hnc32 := NB159_154.out
    obtain ⟨hcz33_0, hcz33_1, hcz33_2, hfz33_0, hfz33_1, hfz33_2⟩ := bc3_ (w := wr) BK154
    have hnb34 := NB159_155.out
    have hnc34 := NB155_159.out
    obtain ⟨hcz35_0, hcz35_1, hcz35_2, hfz35_0, hfz35_1, hfz35_2⟩ := bc3_ (w := wr) BK159
    obtain ⟨hcz36_0, hcz36_1, hcz36_2, hfz36_0, hfz36_1, hfz36_2⟩ := bc3_ (w := wr) BK155
    obtain ⟨Ao37, co37, eo37⟩ := Kd.R_slice HO_160002.out
    subst eo37
    go_wp2
    refine bodyPost_ret (results_cell_row rfl _ _ gb155 26 #[.int .i64 a0_0, .int .i64 a0_1, .slice Ao37 x160002_1.length co37] (0, 0) _ rfl (bq_ BK155) Try.underlying26 rfl (by kernel_rfl)) rfl ?_
    exact ⟨_, by first | rfl | (simp [errW_none, errW_some] <;> rfl) | (simp [*, errW_none, errW_some] <;> rfl), by exact rf_ (Kd.R_types HO_160002.out BK155.out (by decide)) (fun _ hk => trivial), (bw_ w)⟩

end Go.Proofs.Ytijmljaemalgmaa.PFnExactFewestChanges
