-- Printed by this session's own program (wip/tool/myprint.py, over the kit's print); Lean checks it.
import Derived.Test.YtahglcpndiadnaaPFnExactRunShopx0
namespace Go.Proofs.Ytahglcpndiadnaa.PFnExactRunShop
open Go.RowKit Go.Proofs.YtahglcpndiadnaaW.PrintWords Go.Proofs.YtahglcpndiadnaaW.PrintLast Go.Proofs.YtahglcpndiadnaaW.PrintMore
attribute [local go_sem] max2_int min2_int max_two min_two max_three min_three max_four min_four   -- for this text's walks alone
set_option linter.unusedVariables false
set_option linter.unusedSimpArgs false

/-! ### impl_Shop_change: function 112 -/
def impl_Shop_change.f (a0_0 : Int) (a0_1 : Int) (l0_2 : List (S34)) (a0_3 : Int) (a1_0 : Int) (a1_1 : Int) (a1_2 : Int) : Option (Int × Int × (List (S34)) × Int) := if 0 ≤ a1_1 then (if a1_1 < (l0_2.length : Int) then ((some (l0_2.set (a1_1 : Int).toNat (⟨(rd_T34 l0_2 a1_1).f0, (rd_T34 l0_2 a1_1).f1, (rd_T34 l0_2 a1_1).f2, (rd_T34 l0_2 a1_1).f3, a0_0⟩ : S34) : List (S34))).bind fun y161 => (if a1_0 = 3 then ((some (y161.set (a1_1 : Int).toNat (⟨(rd_T34 y161 a1_1).f0, (rd_T34 y161 a1_1).f1, 1, (rd_T34 y161 a1_1).f3, (rd_T34 y161 a1_1).f4⟩ : S34) : List (S34))).bind fun y162 => (some (a0_0, a0_1, (y162.set (a1_1 : Int).toNat (⟨(rd_T34 y162 a1_1).f0, (rd_T34 y162 a1_1).f1, (rd_T34 y162 a1_1).f2, a1_2, (rd_T34 y162 a1_1).f4⟩ : S34)), a0_3))) else (if a1_0 = 4 then (some (a0_0, a0_1, (y161.set (a1_1 : Int).toNat (⟨(rd_T34 y161 a1_1).f0, wrap64 (((rd_T34 y161 a1_1).f1) + a1_2), (rd_T34 y161 a1_1).f2, (rd_T34 y161 a1_1).f3, (rd_T34 y161 a1_1).f4⟩ : S34)), a0_3)) else (if a1_0 = 5 then ((some (y161.set (a1_1 : Int).toNat (⟨(rd_T34 y161 a1_1).f0, (rd_T34 y161 a1_1).f1, 2, (rd_T34 y161 a1_1).f3, (rd_T34 y161 a1_1).f4⟩ : S34) : List (S34))).bind fun y166 => (some (a0_0, a0_1, (y166.set (a1_1 : Int).toNat (⟨(rd_T34 y166 a1_1).f0, (rd_T34 y166 a1_1).f1, (rd_T34 y166 a1_1).f2, 0, (rd_T34 y166 a1_1).f4⟩ : S34)), a0_3))) else (if a1_0 = 6 then (some (a0_0, a0_1, (y161.set (a1_1 : Int).toNat (⟨(rd_T34 y161 a1_1).f0, (rd_T34 y161 a1_1).f1, 3, (rd_T34 y161 a1_1).f3, (rd_T34 y161 a1_1).f4⟩ : S34)), a0_3)) else (if a1_0 = 7 then (some (a0_0, a0_1, (y161.set (a1_1 : Int).toNat (⟨(rd_T34 y161 a1_1).f0, (rd_T34 y161 a1_1).f1, 4, (rd_T34 y161 a1_1).f3, (rd_T34 y161 a1_1).f4⟩ : S34)), wrap64 (a0_3 + a1_2))) else (some (a0_0, a0_1, y161, a0_3)))))))) else (none)) else (none)
def impl_Shop_change.T1 : Bool × List (List Nat × List Nat) := (true, [([], []), ([0], [0]), ([1], [1]), ([2], [2]), ([], []), ([4], [4]), ([3, 5], [3, 5]), ([6, 0, 1, 2, 3, 4, 5, 6], [6])])
def impl_Shop_change.B1 : List Nat := [0, 1, 3, 7, 0, 16, 63, 127]
theorem impl_Shop_change.tab1 : rtab .any (opsOf Try.f112 1) = impl_Shop_change.T1 := by kernel_rfl
theorem impl_Shop_change.bits1 : waitsOk impl_Shop_change.T1.2 impl_Shop_change.B1 = true := by kernel_rfl
def impl_Shop_change.T5 : Bool × List (List Nat × List Nat) := (true, [([], []), ([], []), ([], []), ([2], [2]), ([0, 0], [0]), ([4, 0], [4]), ([5, 0], [5]), ([1, 0, 1, 2, 3, 4, 5, 6], [1]), ([7, 0, 1, 2, 3, 4, 5, 6], [7]), ([8, 3, 6, 0, 1, 2, 3, 4, 5, 6], [3, 8])])
def impl_Shop_change.B5 : List Nat := [0, 0, 0, 4, 1, 17, 49, 127, 255, 511]
theorem impl_Shop_change.tab5 : rtab .any (opsOf Try.f112 5) = impl_Shop_change.T5 := by kernel_rfl
theorem impl_Shop_change.bits5 : waitsOk impl_Shop_change.T5.2 impl_Shop_change.B5 = true := by kernel_rfl
def impl_Shop_change.T7 : Bool × List (List Nat × List Nat) := (true, [([], []), ([0], [0]), ([1], [1]), ([2], [2]), ([], []), ([4], [4]), ([3, 5], [3, 5]), ([0, 0, 1, 2, 3, 4, 5, 6], [0]), ([7, 0, 1, 2, 3, 4, 5, 6], [7]), ([8, 6, 0, 1, 2, 3, 4, 5, 6], [6, 8])])
def impl_Shop_change.B7 : List Nat := [0, 1, 3, 7, 0, 16, 63, 127, 255, 511]
theorem impl_Shop_change.tab7 : rtab .any (opsOf Try.f112 7) = impl_Shop_change.T7 := by kernel_rfl
theorem impl_Shop_change.bits7 : waitsOk impl_Shop_change.T7.2 impl_Shop_change.B7 = true := by kernel_rfl
def impl_Shop_change.T14 : Bool × List (List Nat × List Nat) := (true, [([], []), ([0], [0]), ([1], [1]), ([2], [2]), ([], []), ([4], [4]), ([3, 5], [3, 5]), ([0, 0, 1, 2, 3, 4, 5, 6], [0]), ([7, 0, 1, 2, 3, 4, 5, 6], [7]), ([8, 6, 0, 1, 2, 3, 4, 5, 6], [6, 8])])
def impl_Shop_change.B14 : List Nat := [0, 1, 3, 7, 0, 16, 63, 127, 255, 511]
theorem impl_Shop_change.tab14 : rtab .any (opsOf Try.f112 14) = impl_Shop_change.T14 := by kernel_rfl
theorem impl_Shop_change.bits14 : waitsOk impl_Shop_change.T14.2 impl_Shop_change.B14 = true := by kernel_rfl
set_option maxHeartbeats 8000000 in
set_option maxRecDepth 100000 in
theorem impl_Shop_change.calls (gb159 : Nat) (a0_0 : Int) (a0_1 : Int) (P0_2_ : Nat → Prop) (u9000_ : Value) (l0_2 : List (S34)) (a0_3 : Int) (a1_0 : Int) (a1_1 : Int) (a1_2 : Int) (r1 : Int) (r2 : Int) (r3 : List (S34)) (r4 : Int) (w0 w : World) (hB : Below w0.heap.size w0 w) (hb159 : w.heap[gb159]? = some (.cells #[.int .i64 a0_0, .int .i64 a0_1, u9000_, .int .i64 a0_3] 24 (0, 0))) (hge159 : w0.heap.size ≤ gb159) (ho0_2 : Kd.R k34 34 w w0.heap.size P0_2_ u9000_ l0_2) (h : impl_Shop_change.f a0_0 a0_1 l0_2 a0_3 a1_0 a1_1 a1_2 = some (r1, r2, r3, r4)) :
  Calls Try.prog 112 #[.pointer (some ⟨gb159, 0, none⟩), .agg #[.int .i64 a1_0, .int .i64 a1_1, .int .i64 a1_2]] w fun e w' => ∃ v2_ : Value, w'.heap[gb159]? = some (.cells #[.int .i64 r1, .int .i64 r2, v2_, .int .i64 r4] 24 (0, 0)) ∧ e = .returned (.tuple #[]) ∧ Kd.R k34 34 w' w0.heap.size (fun k_ => (P0_2_ k_ ∨ w.heap.size ≤ k_)) v2_ r3 ∧ Below w0.heap.size w0 w' ∧ Kept w w' (fun k_ => (P0_2_ k_) ∨ k_ = gb159) := by
 have hu30 := Try.underlying30
 have HO0_2 := Aside0.mk (show Kd.R k34 34 w w0.heap.size (fun k_ => (P0_2_ k_ ∨ w.heap.size ≤ k_)) u9000_ l0_2 from Kd.R_mono ho0_2 (fun k_ hk => (.inl hk)))
 have HK := Aside0.mk (Kept.refl w (fun k_ => (P0_2_ k_) ∨ k_ = gb159))
 have BK159 := Aside0.mk hb159
 clear hb159
 have GE159 := Aside0.mk hge159
 clear hge159
 have HW0 := Aside0.mk hB.size
 have HB := Aside0.mk hB
 clear hB
 have H : (if 0 ≤ a1_1 then (if a1_1 < (l0_2.length : Int) then ((some (l0_2.set (a1_1 : Int).toNat (⟨(rd_T34 l0_2 a1_1).f0, (rd_T34 l0_2 a1_1).f1, (rd_T34 l0_2 a1_1).f2, (rd_T34 l0_2 a1_1).f3, a0_0⟩ : S34) : List (S34))).bind fun y161 => (if a1_0 = 3 then ((some (y161.set (a1_1 : Int).toNat (⟨(rd_T34 y161 a1_1).f0, (rd_T34 y161 a1_1).f1, 1, (rd_T34 y161 a1_1).f3, (rd_T34 y161 a1_1).f4⟩ : S34) : List (S34))).bind fun y162 => (some (a0_0, a0_1, (y162.set (a1_1 : Int).toNat (⟨(rd_T34 y162 a1_1).f0, (rd_T34 y162 a1_1).f1, (rd_T34 y162 a1_1).f2, a1_2, (rd_T34 y162 a1_1).f4⟩ : S34)), a0_3))) else (if a1_0 = 4 then (some (a0_0, a0_1, (y161.set (a1_1 : Int).toNat (⟨(rd_T34 y161 a1_1).f0, wrap64 (((rd_T34 y161 a1_1).f1) + a1_2), (rd_T34 y161 a1_1).f2, (rd_T34 y161 a1_1).f3, (rd_T34 y161 a1_1).f4⟩ : S34)), a0_3)) else (if a1_0 = 5 then ((some (y161.set (a1_1 : Int).toNat (⟨(rd_T34 y161 a1_1).f0, (rd_T34 y161 a1_1).f1, 2, (rd_T34 y161 a1_1).f3, (rd_T34 y161 a1_1).f4⟩ : S34) : List (S34))).bind fun y166 => (some (a0_0, a0_1, (y166.set (a1_1 : Int).toNat (⟨(rd_T34 y166 a1_1).f0, (rd_T34 y166 a1_1).f1, (rd_T34 y166 a1_1).f2, 0, (rd_T34 y166 a1_1).f4⟩ : S34)), a0_3))) else (if a1_0 = 6 then (some (a0_0, a0_1, (y161.set (a1_1 : Int).toNat (⟨(rd_T34 y161 a1_1).f0, (rd_T34 y161 a1_1).f1, 3, (rd_T34 y161 a1_1).f3, (rd_T34 y161 a1_1).f4⟩ : S34)), a0_3)) else (if a1_0 = 7 then (some (a0_0, a0_1, (y161.set (a1_1 : Int).toNat (⟨(rd_T34 y161 a1_1).f0, (rd_T34 y161 a1_1).f1, 4, (rd_T34 y161 a1_1).f3, (rd_T34 y161 a1_1).f4⟩ : S34)), wrap64 (a0_3 + a1_2))) else (some (a0_0, a0_1, y161, a0_3)))))))) else (none)) else (none)) = some (r1, r2, r3, r4) := h
 clear h
 by_cases c3 : 0 ≤ a1_1
 ·rw [if_pos c3] at H
  have c3b0 := decide_eq_true c3
  clear c3
  by_cases c4 : a1_1 < (l0_2.length : Int)
  ·rw [if_pos c4] at H
   have c4b0 := decide_eq_true c4
   clear c4
   obtain ⟨y161, hy161⟩ : ∃ y_ : List (S34), y_ = (l0_2.set (a1_1 : Int).toNat (⟨(rd_T34 l0_2 a1_1).f0, (rd_T34 l0_2 a1_1).f1, (rd_T34 l0_2 a1_1).f2, (rd_T34 l0_2 a1_1).f3, a0_0⟩ : S34)) := ⟨_, rfl⟩
   replace H : (if a1_0 = 3 then ((some (y161.set (a1_1 : Int).toNat (⟨(rd_T34 y161 a1_1).f0, (rd_T34 y161 a1_1).f1, 1, (rd_T34 y161 a1_1).f3, (rd_T34 y161 a1_1).f4⟩ : S34) : List (S34))).bind fun y162 => (some (a0_0, a0_1, (y162.set (a1_1 : Int).toNat (⟨(rd_T34 y162 a1_1).f0, (rd_T34 y162 a1_1).f1, (rd_T34 y162 a1_1).f2, a1_2, (rd_T34 y162 a1_1).f4⟩ : S34)), a0_3))) else (if a1_0 = 4 then (some (a0_0, a0_1, (y161.set (a1_1 : Int).toNat (⟨(rd_T34 y161 a1_1).f0, wrap64 (((rd_T34 y161 a1_1).f1) + a1_2), (rd_T34 y161 a1_1).f2, (rd_T34 y161 a1_1).f3, (rd_T34 y161 a1_1).f4⟩ : S34)), a0_3)) else (if a1_0 = 5 then ((some (y161.set (a1_1 : Int).toNat (⟨(rd_T34 y161 a1_1).f0, (rd_T34 y161 a1_1).f1, 2, (rd_T34 y161 a1_1).f3, (rd_T34 y161 a1_1).f4⟩ : S34) : List (S34))).bind fun y166 => (some (a0_0, a0_1, (y166.set (a1_1 : Int).toNat (⟨(rd_T34 y166 a1_1).f0, (rd_T34 y166 a1_1).f1, (rd_T34 y166 a1_1).f2, 0, (rd_T34 y166 a1_1).f4⟩ : S34)), a0_3))) else (if a1_0 = 6 then (some (a0_0, a0_1, (y161.set (a1_1 : Int).toNat (⟨(rd_T34 y161 a1_1).f0, (rd_T34 y161 a1_1).f1, 3, (rd_T34 y161 a1_1).f3, (rd_T34 y161 a1_1).f4⟩ : S34)), a0_3)) else (if a1_0 = 7 then (some (a0_0, a0_1, (y161.set (a1_1 : Int).toNat (⟨(rd_T34 y161 a1_1).f0, (rd_T34 y161 a1_1).f1, 4, (rd_T34 y161 a1_1).f3, (rd_T34 y161 a1_1).f4⟩ : S34)), wrap64 (a0_3 + a1_2))) else (some (a0_0, a0_1, y161, a0_3))))))) = some (r1, r2, r3, r4) := by first | (rw [hy161]; with_reducible exact H) | (have H2_ := (Option.bind_some _ _).symm.trans H; rw [hy161]; with_reducible exact H2_) | (have H2_ := (Option.bind_some _ _).symm.trans H; with_reducible exact H2_) | with_reducible exact H | (rw [hy161]; exact H) | exact H
   have Ny161 := Aside0.mk hy161
   clear hy161
   by_cases c6 : a1_0 = 3
   ·rw [if_pos c6] at H
    have c6b0 := beq_iff_eq.mpr c6
    have c6b1 := bne_eq_false_iff_eq.mpr c6
    clear c6
    obtain ⟨y162, hy162⟩ : ∃ y_ : List (S34), y_ = (y161.set (a1_1 : Int).toNat (⟨(rd_T34 y161 a1_1).f0, (rd_T34 y161 a1_1).f1, 1, (rd_T34 y161 a1_1).f3, (rd_T34 y161 a1_1).f4⟩ : S34)) := ⟨_, rfl⟩
    replace H : (some (a0_0, a0_1, (y162.set (a1_1 : Int).toNat (⟨(rd_T34 y162 a1_1).f0, (rd_T34 y162 a1_1).f1, (rd_T34 y162 a1_1).f2, a1_2, (rd_T34 y162 a1_1).f4⟩ : S34)), a0_3)) = some (r1, r2, r3, r4) := by first | (rw [hy162]; with_reducible exact H) | (have H2_ := (Option.bind_some _ _).symm.trans H; rw [hy162]; with_reducible exact H2_) | (have H2_ := (Option.bind_some _ _).symm.trans H; with_reducible exact H2_) | with_reducible exact H | (rw [hy162]; exact H) | exact H
    have Ny162 := Aside0.mk hy162
    clear hy162
    obtain ⟨y163, hy163⟩ : ∃ y_ : List (S34), y_ = (y162.set (a1_1 : Int).toNat (⟨(rd_T34 y162 a1_1).f0, (rd_T34 y162 a1_1).f1, (rd_T34 y162 a1_1).f2, a1_2, (rd_T34 y162 a1_1).f4⟩ : S34)) := ⟨_, rfl⟩
    replace H : (some (a0_0, a0_1, y163, a0_3)) = some (r1, r2, r3, r4) := by first | (rw [hy163]; with_reducible exact H) | (have H2_ := (Option.bind_some _ _).symm.trans H; rw [hy163]; with_reducible exact H2_) | (have H2_ := (Option.bind_some _ _).symm.trans H; with_reducible exact H2_) | with_reducible exact H | (rw [hy163]; exact H) | exact H
    have Ny163 := Aside0.mk hy163
    clear hy163
    simp only [Option.some.injEq, Prod.mk.injEq] at H
    obtain ⟨rfl, rfl, rfl, rfl⟩ := H
    go_enter Try.func112, Try.ntmps112
    try go_wp2_with (first | ((with_reducible refine gate_dst (N := 3) rfl ?_); refine box_ (N := 3) (cs := #[.int .i64 a1_0, .int .i64 a1_1, .int .i64 a1_2]) (t := 30) ?_; intro gb160 hg w7 hbox hb; have BK160 := Aside0.mk (hbox); have GW160 := Aside0.mk ((by rw [hg]; exact (by first | exact HK.out.1 | exact (show Kept w _ (fun k_ => (P0_2_ k_) ∨ k_ = gb159) from by repeat (first | (with_reducible first | exact HK.out | apply Kept.alloc | apply Kept.drewN | apply Kept.drew | refine Kept.setCell ?_ (.inl (.inr rfl)) _) | exact HK.out)).1) : w.heap.size ≤ gb160)); have GE160 := gz_ w0 hg; have NB159_160 := ne_ hg BK159; have NB160_159 := en_ hg BK159; replace HO0_2 := Aside0.mk (Kd.R_below (ra_ HO0_2) hb); replace BK159 := bb_ BK159 hb; replace HK := Aside0.mk (Kept.below (S := (fun k_ => (P0_2_ k_) ∨ k_ = gb159)) (by repeat (first | (with_reducible first | exact HK.out | apply Kept.alloc | apply Kept.drewN | apply Kept.drew | refine Kept.setCell ?_ (.inl (.inr rfl)) _) | exact HK.out)) hb); replace HB := hb_ w0 hb; clear hb hbox hg))
    replace HO0_2 := Aside0.mk (Kd.R_drew HO0_2.out)
    replace BK159 := Aside0.mk (blk_drew BK159.out)
    replace BK160 := Aside0.mk (blk_drew BK160.out)
    replace HK := Aside0.mk (Kept.drew HK.out)
    replace HB := Aside0.mk (below_drew1 HB.out)
    have p5 : 0 ≤ (a1_1 : Int) := of_decide_eq_true (by first | (with_reducible assumption) | assumption)
    have q5 : (a1_1 : Int) < ((l0_2.length : Int) : Int) := of_decide_eq_true (by first | (with_reducible assumption) | assumption)
    obtain ⟨go5, co5, eo5, gb5, gl5, cl5, HG5⟩ := Kd.R_form HO0_2.out (by omega)
    (first | cases eo5 | (injection eo5 with ea_ en_ ec_; (first | subst ea_ | (injection ea_ with ea_; subst ea_)); subst ec_; clear en_))
    have GB5 := Aside0.mk gb5
    have GG5 := Aside0.mk HG5
    clear gb5 gl5 HG5
    have HMgo5 := Aside0.mk (show (P0_2_ go5 ∨ w.heap.size ≤ go5) from (HO0_2.out.1 _ rfl))
    obtain ⟨ce5, hcl5, hM5, hcc5, hfr5⟩ := Kd.R_elem HO0_2.out z34 (a1_1 : Int) p5 q5
    obtain rfl := k34_openM hM5
    have hx5_0 : World.cell? _ ⟨go5, (a1_1 : Int).toNat * 5, none⟩ = some (.int .i64 ((rd_T34 l0_2 a1_1).f0)) := hcc5 0 _ rfl
    have hx5_1 : World.cell? _ ⟨go5, (a1_1 : Int).toNat * 5 + 1, none⟩ = some (.int .i64 ((rd_T34 l0_2 a1_1).f1)) := hcc5 1 _ rfl
    have hx5_2 : World.cell? _ ⟨go5, (a1_1 : Int).toNat * 5 + 2, none⟩ = some (.int .i64 ((rd_T34 l0_2 a1_1).f2)) := hcc5 2 _ rfl
    have hx5_3 : World.cell? _ ⟨go5, (a1_1 : Int).toNat * 5 + 3, none⟩ = some (.int .i64 ((rd_T34 l0_2 a1_1).f3)) := hcc5 3 _ rfl
    have hx5_4 : World.cell? _ ⟨go5, (a1_1 : Int).toNat * 5 + 4, none⟩ = some (.int .i64 ((rd_T34 l0_2 a1_1).f4)) := hcc5 4 _ rfl
    have hf5_0 : World.frozen? _ ⟨go5, (a1_1 : Int).toNat * 5, none⟩ = false := hfr5 0
    have hf5_1 : World.frozen? _ ⟨go5, (a1_1 : Int).toNat * 5 + 1, none⟩ = false := hfr5 1
    have hf5_2 : World.frozen? _ ⟨go5, (a1_1 : Int).toNat * 5 + 2, none⟩ = false := hfr5 2
    have hf5_3 : World.frozen? _ ⟨go5, (a1_1 : Int).toNat * 5 + 3, none⟩ = false := hfr5 3
    have hf5_4 : World.frozen? _ ⟨go5, (a1_1 : Int).toNat * 5 + 4, none⟩ = false := hfr5 4
    clear hcl5 hcc5 hfr5 hM5
    replace p5 := eq_true p5
    replace q5 := eq_true q5
    refine start_ (n := 8) (S := fun w' => w'.cell? ⟨gb159, 0, none⟩ = some (.int .i64 a0_0) ∧ w'.cell? ⟨gb159, 1, none⟩ = some (.int .i64 a0_1) ∧ w'.cell? ⟨gb159, 2, none⟩ = some (.slice (some ⟨go5, 0, none⟩) l0_2.length co5) ∧ w'.cell? ⟨gb159, 3, none⟩ = some (.int .i64 a0_3) ∧ w'.cell? ⟨gb160, 0, none⟩ = some (.int .i64 a1_0) ∧ w'.cell? ⟨gb160, 1, none⟩ = some (.int .i64 a1_1) ∧ w'.cell? ⟨gb160, 2, none⟩ = some (.int .i64 a1_2)) (ds := []) #[false, false, false, false, false, false, false, false] (by kernel_rfl) rfl rfl ⟨bc_ BK159 0, bc_ BK159 1, bc_ BK159 2, bc_ BK159 3, bc_ BK160 0, bc_ BK160 1, bc_ BK160 2⟩ (fun hHeld => ?_); refine with_tabW impl_Shop_change.tab1 impl_Shop_change.bits1 (fun HT_ HW_ => ?_)
    generalize w7.drew = w8 at HO0_2 BK159 BK160 HK HB GG5 hf5_0 hf5_1 hf5_2 hf5_3 hf5_4 hx5_0 hx5_1 hx5_2 hx5_3 hx5_4 hHeld ⊢
    refine pureA (N := some 5) 0 HT_ ?_
    refine pureA (N := some 6) 1 HT_ ?_
    refine pureA (N := some 7) 2 HT_ ?_
    refine pureA (N := some 9) 4 HT_ ?_
    refine takeA (N := some 8) 3 HT_ HW_ hHeld ?_
    refine takeA (N := some 10) 5 HT_ HW_ hHeld ?_
    refine pureA (N := some 11) 6 HT_ ?_
    refine pureA (N := some 4) 7 HT_ ?_
    refine done_ (done_of HT_.out (by kernel_rfl)) ?_
    have hnb9 := NB159_160.out
    have hnc9 := NB160_159.out
    obtain ⟨hcz10_0, hcz10_1, hcz10_2, hcz10_3, hfz10_0, hfz10_1, hfz10_2, hfz10_3⟩ := bc4_ (w := w8) BK159
    have HX11 := Aside0.mk (show Kd.R k34 34 w8 w0.heap.size (fun k_ => (P0_2_ k_ ∨ w.heap.size ≤ k_)) (.slice (some ⟨go5, 0, none⟩) l0_2.length co5) l0_2 from (ra_ HO0_2))
    obtain ⟨ce11, hcl11, hM11, hcc11, hfr11⟩ := Kd.R_elem HX11.out z34 (a1_1 : Int) (of_decide_eq_true (by first | (with_reducible assumption) | assumption)) (by have h_ : (a1_1 : Int) < ((l0_2.length : Int) : Int) := of_decide_eq_true (by first | (with_reducible assumption) | assumption); first | exact h_ | (have e_ := (Kd.R_reads' HO0_2.out).1; omega) | simpa using h_)
    obtain rfl := k34_openM hM11
    have HP11 := Kd.R_seg HX11.out (a1_1 : Int) (of_decide_eq_true (by first | (with_reducible assumption) | assumption)) (by have h_ : (a1_1 : Int) < ((l0_2.length : Int) : Int) := of_decide_eq_true (by first | (with_reducible assumption) | assumption); first | exact h_ | (have e_ := (Kd.R_reads' HO0_2.out).1; omega) | simpa using h_) (seg := [.int .i64 a0_0]) (j := 4) hcl11 hcc11 (show 5 ≤ 5 from by decide) (x' := (⟨(rd_T34 l0_2 a1_1).f0, (rd_T34 l0_2 a1_1).f1, (rd_T34 l0_2 a1_1).f2, (rd_T34 l0_2 a1_1).f3, a0_0⟩ : S34)) (k34_mkM _ _ _ (⟨(rd_T34 l0_2 a1_1).f0, (rd_T34 l0_2 a1_1).f1, (rd_T34 l0_2 a1_1).f2, (rd_T34 l0_2 a1_1).f3, a0_0⟩ : S34) ) (fun _ hk => hk)
    have hx11_4 := hcc11 4 _ rfl
    (try simp only [show (k34).sz = 5 from rfl, Nat.mul_one, Nat.add_zero] at hx11_4)
    have hf11_4 := hfr11 4
    (try simp only [show (k34).sz = 5 from rfl, Nat.mul_one, Nat.add_zero] at hf11_4)
    clear hcl11 hcc11 hfr11 hM11
    try go_wp2_with (first | ((with_reducible refine gate_store (t := 3) (p := 18) rfl ?_); refine store_event (t := 3) (p := 18) (v := ?vo_w12) (w1 := (w8.setCell ⟨go5, (a1_1 : Int).toNat * 5 + 4, none⟩ (.int .i64 a0_0))) ?hg ?ho ?hn ?hr ?_; (case ho => rfl); (case hg => rfl); (case hn => rfl); (case hr => first | (go_simp; done) | (go_simp; rfl)); intro w12 hw; have hg : w8.grownBy w12 (some go5) := (by rw [hw]; exact HP11.2); have hp_ : Kd.R k34 34 w12 w0.heap.size (fun k_ => (P0_2_ k_ ∨ w.heap.size ≤ k_)) (.slice (some ⟨go5, 0, none⟩) l0_2.length co5) y161 := (by rw [hw, Ny161.out]; exact HP11.1); clear HP11; replace BK159 := Aside0.mk (blk_grown (g := gb159) (o := .cells #[.int .i64 a0_0, .int .i64 a0_1, .slice (some ⟨go5, 0, none⟩) l0_2.length co5, .int .i64 a0_3] 24 (0, 0)) (bk_ BK159) hg (Kd.R_ne HO0_2.out BK159.out (by decide))); replace BK160 := Aside0.mk (blk_grown (g := gb160) (o := .cells #[.int .i64 a1_0, .int .i64 a1_1, .int .i64 a1_2] 30 (0, 0)) (bk_ BK160) hg (Kd.R_ne HO0_2.out BK160.out (by decide))); replace HK := Aside0.mk (Kept.of_grown (S := (fun k_ => (P0_2_ k_) ∨ k_ = gb159)) hg (by repeat (first | (with_reducible first | exact HK.out | apply Kept.alloc | apply Kept.drewN | apply Kept.drew | refine Kept.setCell ?_ (.inl (.inr rfl)) _ | refine Kept.setCell ?_ (.inr GW160.out) _) | exact HK.out)) (fun k_ e_ => Or.imp_left Or.inl ((HO0_2.out.1 k_ e_)))); replace HO0_2 := Aside0.mk (hp_); replace HB := Aside0.mk ((by rw [hw]; exact below_set (HB.out) GB5.out : Below w0.heap.size w0 w12)); clear hg hw hp_; obtain ⟨hcz13_0, hcz13_1, hcz13_2, hfz13_0, hfz13_1, hfz13_2⟩ := bc3_ (w := w12) BK160))
    replace HO0_2 := Aside0.mk (Kd.R_drew HO0_2.out)
    replace BK159 := Aside0.mk (blk_drew BK159.out)
    replace BK160 := Aside0.mk (blk_drew BK160.out)
    replace HK := Aside0.mk (Kept.drew HK.out)
    replace HB := Aside0.mk (below_drew1 HB.out)
    obtain ⟨ce15, hcl15, hM15, hcc15, hfr15⟩ := Kd.R_elem HO0_2.out z34 (a1_1 : Int) (of_decide_eq_true (by first | (with_reducible assumption) | assumption)) (by have h_ : (a1_1 : Int) < ((l0_2.length : Int) : Int) := of_decide_eq_true (by first | (with_reducible assumption) | assumption); first | exact h_ | (have e_ := (Kd.R_reads' HO0_2.out).1; omega) | simpa using h_)
    obtain rfl := k34_openM hM15
    have HP15 := (Kd.R_seg HO0_2.out (a1_1 : Int) (of_decide_eq_true (by first | (with_reducible assumption) | assumption)) (by have h_ : (a1_1 : Int) < ((l0_2.length : Int) : Int) := of_decide_eq_true (by first | (with_reducible assumption) | assumption); first | exact h_ | (have e_ := (Kd.R_reads' HO0_2.out).1; omega) | simpa using h_) (seg := [.int .i64 1]) (j := 2) hcl15 hcc15 (show 3 ≤ 5 from by decide) (x' := (⟨(rd_T34 y161 a1_1).f0, (rd_T34 y161 a1_1).f1, 1, (rd_T34 y161 a1_1).f3, (rd_T34 y161 a1_1).f4⟩ : S34)) (k34_mkM _ _ _ (⟨(rd_T34 y161 a1_1).f0, (rd_T34 y161 a1_1).f1, 1, (rd_T34 y161 a1_1).f3, (rd_T34 y161 a1_1).f4⟩ : S34) ) (fun _ hk => hk)).1
    have hx15_0 : World.cell? _ ⟨go5, (a1_1 : Int).toNat * 5, none⟩ = some (.int .i64 ((rd_T34 y161 a1_1).f0)) := hcc15 0 _ rfl
    have hx15_1 : World.cell? _ ⟨go5, (a1_1 : Int).toNat * 5 + 1, none⟩ = some (.int .i64 ((rd_T34 y161 a1_1).f1)) := hcc15 1 _ rfl
    have hx15_2 : World.cell? _ ⟨go5, (a1_1 : Int).toNat * 5 + 2, none⟩ = some (.int .i64 ((rd_T34 y161 a1_1).f2)) := hcc15 2 _ rfl
    have hx15_3 : World.cell? _ ⟨go5, (a1_1 : Int).toNat * 5 + 3, none⟩ = some (.int .i64 ((rd_T34 y161 a1_1).f3)) := hcc15 3 _ rfl
    have hx15_4 : World.cell? _ ⟨go5, (a1_1 : Int).toNat * 5 + 4, none⟩ = some (.int .i64 ((rd_T34 y161 a1_1).f4)) := hcc15 4 _ rfl
    have hf15_0 : World.frozen? _ ⟨go5, (a1_1 : Int).toNat * 5, none⟩ = false := hfr15 0
    have hf15_1 : World.frozen? _ ⟨go5, (a1_1 : Int).toNat * 5 + 1, none⟩ = false := hfr15 1
    have hf15_2 : World.frozen? _ ⟨go5, (a1_1 : Int).toNat * 5 + 2, none⟩ = false := hfr15 2
    have hf15_3 : World.frozen? _ ⟨go5, (a1_1 : Int).toNat * 5 + 3, none⟩ = false := hfr15 3
    have hf15_4 : World.frozen? _ ⟨go5, (a1_1 : Int).toNat * 5 + 4, none⟩ = false := hfr15 4
    rw [← Ny162.out] at HP15
    have HQ15 := Aside0.mk HP15
    clear hcl15 hcc15 hfr15 hM15 HP15
    obtain ⟨ce16, hcl16, hM16, hcc16, hfr16⟩ := Kd.R_elem HQ15.out z34 (a1_1 : Int) (of_decide_eq_true (by first | (with_reducible assumption) | assumption)) (by have h_ : (a1_1 : Int) < ((l0_2.length : Int) : Int) := of_decide_eq_true (by first | (with_reducible assumption) | assumption); first | exact h_ | (have e_ := (Kd.R_reads' HO0_2.out).1; omega) | simpa using h_)
    obtain rfl := k34_openM hM16
    have HP16 := (Kd.R_seg HQ15.out (a1_1 : Int) (of_decide_eq_true (by first | (with_reducible assumption) | assumption)) (by have h_ : (a1_1 : Int) < ((l0_2.length : Int) : Int) := of_decide_eq_true (by first | (with_reducible assumption) | assumption); first | exact h_ | (have e_ := (Kd.R_reads' HO0_2.out).1; omega) | simpa using h_) (seg := [.int .i64 a1_2]) (j := 3) hcl16 hcc16 (show 4 ≤ 5 from by decide) (x' := (⟨(rd_T34 y162 a1_1).f0, (rd_T34 y162 a1_1).f1, (rd_T34 y162 a1_1).f2, a1_2, (rd_T34 y162 a1_1).f4⟩ : S34)) (k34_mkM _ _ _ (⟨(rd_T34 y162 a1_1).f0, (rd_T34 y162 a1_1).f1, (rd_T34 y162 a1_1).f2, a1_2, (rd_T34 y162 a1_1).f4⟩ : S34) ) (fun _ hk => hk)).1
    rw [← Ny163.out] at HP16
    have HQ16 := Aside0.mk HP16
    clear hcl16 hcc16 hfr16 hM16 HP16
    refine start_ (n := 10) (S := fun w' => w'.cell? ⟨gb160, 0, none⟩ = some (.int .i64 a1_0) ∧ w'.cell? ⟨gb160, 1, none⟩ = some (.int .i64 a1_1) ∧ w'.cell? ⟨gb160, 2, none⟩ = some (.int .i64 a1_2)) (ds := []) #[false, false, false, false, false, false, false, false, false, false] (by kernel_rfl) rfl rfl ⟨bc_ BK160 0, bc_ BK160 1, bc_ BK160 2⟩ (fun hHeld => ?_); refine with_tabW impl_Shop_change.tab5 impl_Shop_change.bits5 (fun HT_ HW_ => ?_)
    generalize w12.drew = w14 at HO0_2 BK159 BK160 HK HB HQ15 HQ16 hf15_0 hf15_1 hf15_2 hf15_3 hf15_4 hx15_0 hx15_1 hx15_2 hx15_3 hx15_4 hHeld ⊢
    refine pureA (N := some 23) 0 HT_ ?_
    refine pureA (N := some 24) 1 HT_ ?_
    refine pureA (N := some 25) 2 HT_ ?_
    refine pureA (N := some 27) 4 HT_ ?_
    refine pureA (N := some 28) 5 HT_ ?_
    refine takeA (N := some 26) 3 HT_ HW_ hHeld ?_
    refine oneA (N := none) 6 HT_ (fun K hK => ?_)
    refine skip_ (w1 := ?_) (by rfl) rfl ?_ ?_
    rotate_left
    ·go_simp
     rfl
    refine hK.out _ _ ⟨((cell_far (p := ⟨go5, _, none⟩) (show (gb160 : Nat) ≠ go5 from (by have h_ := Kd.R_ne HO0_2.out BK160.out (by decide); intro e_; exact h_ (by rw [e_]; rfl))) _).trans (hHeld.1)), ((cell_far (p := ⟨go5, _, none⟩) (show (gb160 : Nat) ≠ go5 from (by have h_ := Kd.R_ne HO0_2.out BK160.out (by decide); intro e_; exact h_ (by rw [e_]; rfl))) _).trans (hHeld.2.1)), ((cell_far (p := ⟨go5, _, none⟩) (show (gb160 : Nat) ≠ go5 from (by have h_ := Kd.R_ne HO0_2.out BK160.out (by decide); intro e_; exact h_ (by rw [e_]; rfl))) _).trans (hHeld.2.2))⟩ (fun hHeld => ?_)
    clear hK K
    refine pureA (N := some 29) 7 HT_ ?_
    refine pureA (N := some 30) 8 HT_ ?_
    refine oneA (N := none) 9 HT_ (fun K hK => ?_)
    refine skip_ (w1 := ?_) (by rfl) rfl ?_ ?_
    rotate_left
    ·go_simp
     rfl
    refine hK.out _ _ ⟨((cell_far (p := ⟨go5, _, none⟩) (show (gb160 : Nat) ≠ go5 from (by have h_ := Kd.R_ne HO0_2.out BK160.out (by decide); intro e_; exact h_ (by rw [e_]; rfl))) _).trans (hHeld.1)), ((cell_far (p := ⟨go5, _, none⟩) (show (gb160 : Nat) ≠ go5 from (by have h_ := Kd.R_ne HO0_2.out BK160.out (by decide); intro e_; exact h_ (by rw [e_]; rfl))) _).trans (hHeld.2.1)), ((cell_far (p := ⟨go5, _, none⟩) (show (gb160 : Nat) ≠ go5 from (by have h_ := Kd.R_ne HO0_2.out BK160.out (by decide); intro e_; exact h_ (by rw [e_]; rfl))) _).trans (hHeld.2.2))⟩ (fun hHeld => ?_)
    clear hK K
    refine done_ (done_of HT_.out (by kernel_rfl)) ?_
    try go_wp2
    first | go_end0 | ((try simp only [Exit.inBlock, Exit.then]); refine bodyPost_ret (results_none rfl _ _ _) rfl ?_)
    exact ⟨_, (by (with_reducible repeat (first | refine blk_drewN ?_ _ | refine blk_drew ?_ | refine blk_alloc ?_ _)); refine blk_far ?_ (by have h_ := Kd.R_ne HO0_2.out BK159.out (by decide); intro e_; exact h_ (by rw [e_]; rfl)) _; (with_reducible repeat (first | refine blk_drewN ?_ _ | refine blk_drew ?_ | refine blk_alloc ?_ _)); refine blk_far ?_ (by have h_ := Kd.R_ne HO0_2.out BK159.out (by decide); intro e_; exact h_ (by rw [e_]; rfl)) _; (with_reducible repeat (first | refine blk_drewN ?_ _ | refine blk_drew ?_ | refine blk_alloc ?_ _)); exact BK159.out), by first | rfl | (simp [errW_none, errW_some] <;> rfl) | (simp [*, errW_none, errW_some] <;> rfl), by (with_reducible repeat (first | apply Kd.R_alloc | apply Kd.R_drewN | apply Kd.R_drew)); exact HQ16.out, by repeat (first | (with_reducible first | exact HB.out | apply below_alloc | apply pw_below_drewN | apply below_drew1 | refine below_set ?_ GB5.out | refine below_set ?_ GB5.out | refine below_set ?_ GE159.out | refine below_set ?_ GE160.out) | exact HB.out), by repeat (first | (with_reducible first | exact HK.out | apply Kept.alloc | apply Kept.drewN | apply Kept.drew | refine Kept.setCell ?_ (Or.imp_left Or.inl HMgo5.out) _ | refine Kept.setCell ?_ (Or.imp_left Or.inl HMgo5.out) _ | refine Kept.setCell ?_ (.inl (.inr rfl)) _ | refine Kept.setCell ?_ (.inr GW160.out) _) | exact HK.out)⟩
   ·rw [if_neg c6] at H
    have c6b0 := beq_eq_false_iff_ne.mpr c6
    have c6b1 := bne_iff_ne.mpr c6
    by_cases c17 : a1_0 = 4
    ·rw [if_pos c17] at H
     have c17b0 := beq_iff_eq.mpr c17
     have c17b1 := bne_eq_false_iff_eq.mpr c17
     clear c17
     obtain ⟨y165, hy165⟩ : ∃ y_ : List (S34), y_ = (y161.set (a1_1 : Int).toNat (⟨(rd_T34 y161 a1_1).f0, wrap64 (((rd_T34 y161 a1_1).f1) + a1_2), (rd_T34 y161 a1_1).f2, (rd_T34 y161 a1_1).f3, (rd_T34 y161 a1_1).f4⟩ : S34)) := ⟨_, rfl⟩
     replace H : (some (a0_0, a0_1, y165, a0_3)) = some (r1, r2, r3, r4) := by first | (rw [hy165]; with_reducible exact H) | (have H2_ := (Option.bind_some _ _).symm.trans H; rw [hy165]; with_reducible exact H2_) | (have H2_ := (Option.bind_some _ _).symm.trans H; with_reducible exact H2_) | with_reducible exact H | (rw [hy165]; exact H) | exact H
     have Ny165 := Aside0.mk hy165
     clear hy165
     simp only [Option.some.injEq, Prod.mk.injEq] at H
     obtain ⟨rfl, rfl, rfl, rfl⟩ := H
     go_enter Try.func112, Try.ntmps112
     try go_wp2_with (first | ((with_reducible refine gate_dst (N := 3) rfl ?_); refine box_ (N := 3) (cs := #[.int .i64 a1_0, .int .i64 a1_1, .int .i64 a1_2]) (t := 30) ?_; intro gb160 hg w18 hbox hb; have BK160 := Aside0.mk (hbox); have GW160 := Aside0.mk ((by rw [hg]; exact (by first | exact HK.out.1 | exact (show Kept w _ (fun k_ => (P0_2_ k_) ∨ k_ = gb159) from by repeat (first | (with_reducible first | exact HK.out | apply Kept.alloc | apply Kept.drewN | apply Kept.drew | refine Kept.setCell ?_ (.inl (.inr rfl)) _) | exact HK.out)).1) : w.heap.size ≤ gb160)); have GE160 := gz_ w0 hg; have NB159_160 := ne_ hg BK159; have NB160_159 := en_ hg BK159; replace HO0_2 := Aside0.mk (Kd.R_below (ra_ HO0_2) hb); replace BK159 := bb_ BK159 hb; replace HK := Aside0.mk (Kept.below (S := (fun k_ => (P0_2_ k_) ∨ k_ = gb159)) (by repeat (first | (with_reducible first | exact HK.out | apply Kept.alloc | apply Kept.drewN | apply Kept.drew | refine Kept.setCell ?_ (.inl (.inr rfl)) _) | exact HK.out)) hb); replace HB := hb_ w0 hb; clear hb hbox hg))
     replace HO0_2 := Aside0.mk (Kd.R_drew HO0_2.out)
     replace BK159 := Aside0.mk (blk_drew BK159.out)
     replace BK160 := Aside0.mk (blk_drew BK160.out)
     replace HK := Aside0.mk (Kept.drew HK.out)
     replace HB := Aside0.mk (below_drew1 HB.out)
     have p5 : 0 ≤ (a1_1 : Int) := of_decide_eq_true (by first | (with_reducible assumption) | assumption)
     have q5 : (a1_1 : Int) < ((l0_2.length : Int) : Int) := of_decide_eq_true (by first | (with_reducible assumption) | assumption)
     obtain ⟨go5, co5, eo5, gb5, gl5, cl5, HG5⟩ := Kd.R_form HO0_2.out (by omega)
     (first | cases eo5 | (injection eo5 with ea_ en_ ec_; (first | subst ea_ | (injection ea_ with ea_; subst ea_)); subst ec_; clear en_))
     have GB5 := Aside0.mk gb5
     have GG5 := Aside0.mk HG5
     clear gb5 gl5 HG5
     have HMgo5 := Aside0.mk (show (P0_2_ go5 ∨ w.heap.size ≤ go5) from (HO0_2.out.1 _ rfl))
     obtain ⟨ce5, hcl5, hM5, hcc5, hfr5⟩ := Kd.R_elem HO0_2.out z34 (a1_1 : Int) p5 q5
     obtain rfl := k34_openM hM5
     have hx5_0 : World.cell? _ ⟨go5, (a1_1 : Int).toNat * 5, none⟩ = some (.int .i64 ((rd_T34 l0_2 a1_1).f0)) := hcc5 0 _ rfl
     have hx5_1 : World.cell? _ ⟨go5, (a1_1 : Int).toNat * 5 + 1, none⟩ = some (.int .i64 ((rd_T34 l0_2 a1_1).f1)) := hcc5 1 _ rfl
     have hx5_2 : World.cell? _ ⟨go5, (a1_1 : Int).toNat * 5 + 2, none⟩ = some (.int .i64 ((rd_T34 l0_2 a1_1).f2)) := hcc5 2 _ rfl
     have hx5_3 : World.cell? _ ⟨go5, (a1_1 : Int).toNat * 5 + 3, none⟩ = some (.int .i64 ((rd_T34 l0_2 a1_1).f3)) := hcc5 3 _ rfl
     have hx5_4 : World.cell? _ ⟨go5, (a1_1 : Int).toNat * 5 + 4, none⟩ = some (.int .i64 ((rd_T34 l0_2 a1_1).f4)) := hcc5 4 _ rfl
     have hf5_0 : World.frozen? _ ⟨go5, (a1_1 : Int).toNat * 5, none⟩ = false := hfr5 0
     have hf5_1 : World.frozen? _ ⟨go5, (a1_1 : Int).toNat * 5 + 1, none⟩ = false := hfr5 1
     have hf5_2 : World.frozen? _ ⟨go5, (a1_1 : Int).toNat * 5 + 2, none⟩ = false := hfr5 2
     have hf5_3 : World.frozen? _ ⟨go5, (a1_1 : Int).toNat * 5 + 3, none⟩ = false := hfr5 3
     have hf5_4 : World.frozen? _ ⟨go5, (a1_1 : Int).toNat * 5 + 4, none⟩ = false := hfr5 4
     clear hcl5 hcc5 hfr5 hM5
     replace p5 := eq_true p5
     replace q5 := eq_true q5
     refine start_ (n := 8) (S := fun w' => w'.cell? ⟨gb159, 0, none⟩ = some (.int .i64 a0_0) ∧ w'.cell? ⟨gb159, 1, none⟩ = some (.int .i64 a0_1) ∧ w'.cell? ⟨gb159, 2, none⟩ = some (.slice (some ⟨go5, 0, none⟩) l0_2.length co5) ∧ w'.cell? ⟨gb159, 3, none⟩ = some (.int .i64 a0_3) ∧ w'.cell? ⟨gb160, 0, none⟩ = some (.int .i64 a1_0) ∧ w'.cell? ⟨gb160, 1, none⟩ = some (.int .i64 a1_1) ∧ w'.cell? ⟨gb160, 2, none⟩ = some (.int .i64 a1_2)) (ds := []) #[false, false, false, false, false, false, false, false] (by kernel_rfl) rfl rfl ⟨bc_ BK159 0, bc_ BK159 1, bc_ BK159 2, bc_ BK159 3, bc_ BK160 0, bc_ BK160 1, bc_ BK160 2⟩ (fun hHeld => ?_); refine with_tabW impl_Shop_change.tab1 impl_Shop_change.bits1 (fun HT_ HW_ => ?_)
     generalize w18.drew = w19 at HO0_2 BK159 BK160 HK HB GG5 hf5_0 hf5_1 hf5_2 hf5_3 hf5_4 hx5_0 hx5_1 hx5_2 hx5_3 hx5_4 hHeld ⊢
     refine pureA (N := some 5) 0 HT_ ?_
     refine pureA (N := some 6) 1 HT_ ?_
     refine pureA (N := some 7) 2 HT_ ?_
     refine pureA (N := some 9) 4 HT_ ?_
     refine takeA (N := some 8) 3 HT_ HW_ hHeld ?_
     refine takeA (N := some 10) 5 HT_ HW_ hHeld ?_
     refine pureA (N := some 11) 6 HT_ ?_
     refine pureA (N := some 4) 7 HT_ ?_
     refine done_ (done_of HT_.out (by kernel_rfl)) ?_
     have hnb20 := NB159_160.out
     have hnc20 := NB160_159.out
     obtain ⟨hcz21_0, hcz21_1, hcz21_2, hcz21_3, hfz21_0, hfz21_1, hfz21_2, hfz21_3⟩ := bc4_ (w := w19) BK159
     have HX22 := Aside0.mk (show Kd.R k34 34 w19 w0.heap.size (fun k_ => (P0_2_ k_ ∨ w.heap.size ≤ k_)) (.slice (some ⟨go5, 0, none⟩) l0_2.length co5) l0_2 from (ra_ HO0_2))
     obtain ⟨ce22, hcl22, hM22, hcc22, hfr22⟩ := Kd.R_elem HX22.out z34 (a1_1 : Int) (of_decide_eq_true (by first | (with_reducible assumption) | assumption)) (by have h_ : (a1_1 : Int) < ((l0_2.length : Int) : Int) := of_decide_eq_true (by first | (with_reducible assumption) | assumption); first | exact h_ | (have e_ := (Kd.R_reads' HO0_2.out).1; omega) | simpa using h_)
     obtain rfl := k34_openM hM22
     have HP22 := Kd.R_seg HX22.out (a1_1 : Int) (of_decide_eq_true (by first | (with_reducible assumption) | assumption)) (by have h_ : (a1_1 : Int) < ((l0_2.length : Int) : Int) := of_decide_eq_true (by first | (with_reducible assumption) | assumption); first | exact h_ | (have e_ := (Kd.R_reads' HO0_2.out).1; omega) | simpa using h_) (seg := [.int .i64 a0_0]) (j := 4) hcl22 hcc22 (show 5 ≤ 5 from by decide) (x' := (⟨(rd_T34 l0_2 a1_1).f0, (rd_T34 l0_2 a1_1).f1, (rd_T34 l0_2 a1_1).f2, (rd_T34 l0_2 a1_1).f3, a0_0⟩ : S34)) (k34_mkM _ _ _ (⟨(rd_T34 l0_2 a1_1).f0, (rd_T34 l0_2 a1_1).f1, (rd_T34 l0_2 a1_1).f2, (rd_T34 l0_2 a1_1).f3, a0_0⟩ : S34) ) (fun _ hk => hk)
     have hx22_4 := hcc22 4 _ rfl
     (try simp only [show (k34).sz = 5 from rfl, Nat.mul_one, Nat.add_zero] at hx22_4)
     have hf22_4 := hfr22 4
     (try simp only [show (k34).sz = 5 from rfl, Nat.mul_one, Nat.add_zero] at hf22_4)
     clear hcl22 hcc22 hfr22 hM22
     try go_wp2_with (first | ((with_reducible refine gate_store (t := 3) (p := 18) rfl ?_); refine store_event (t := 3) (p := 18) (v := ?vo_w23) (w1 := (w19.setCell ⟨go5, (a1_1 : Int).toNat * 5 + 4, none⟩ (.int .i64 a0_0))) ?hg ?ho ?hn ?hr ?_; (case ho => rfl); (case hg => rfl); (case hn => rfl); (case hr => first | (go_simp; done) | (go_simp; rfl)); intro w23 hw; have hg : w19.grownBy w23 (some go5) := (by rw [hw]; exact HP22.2); have hp_ : Kd.R k34 34 w23 w0.heap.size (fun k_ => (P0_2_ k_ ∨ w.heap.size ≤ k_)) (.slice (some ⟨go5, 0, none⟩) l0_2.length co5) y161 := (by rw [hw, Ny161.out]; exact HP22.1); clear HP22; replace BK159 := Aside0.mk (blk_grown (g := gb159) (o := .cells #[.int .i64 a0_0, .int .i64 a0_1, .slice (some ⟨go5, 0, none⟩) l0_2.length co5, .int .i64 a0_3] 24 (0, 0)) (bk_ BK159) hg (Kd.R_ne HO0_2.out BK159.out (by decide))); replace BK160 := Aside0.mk (blk_grown (g := gb160) (o := .cells #[.int .i64 a1_0, .int .i64 a1_1, .int .i64 a1_2] 30 (0, 0)) (bk_ BK160) hg (Kd.R_ne HO0_2.out BK160.out (by decide))); replace HK := Aside0.mk (Kept.of_grown (S := (fun k_ => (P0_2_ k_) ∨ k_ = gb159)) hg (by repeat (first | (with_reducible first | exact HK.out | apply Kept.alloc | apply Kept.drewN | apply Kept.drew | refine Kept.setCell ?_ (.inl (.inr rfl)) _ | refine Kept.setCell ?_ (.inr GW160.out) _) | exact HK.out)) (fun k_ e_ => Or.imp_left Or.inl ((HO0_2.out.1 k_ e_)))); replace HO0_2 := Aside0.mk (hp_); replace HB := Aside0.mk ((by rw [hw]; exact below_set (HB.out) GB5.out : Below w0.heap.size w0 w23)); clear hg hw hp_; obtain ⟨hcz24_0, hcz24_1, hcz24_2, hfz24_0, hfz24_1, hfz24_2⟩ := bc3_ (w := w23) BK160))
     replace HO0_2 := Aside0.mk (Kd.R_drew HO0_2.out)
     replace BK159 := Aside0.mk (blk_drew BK159.out)
     replace BK160 := Aside0.mk (blk_drew BK160.out)
     replace HK := Aside0.mk (Kept.drew HK.out)
     replace HB := Aside0.mk (below_drew1 HB.out)
     have p164 : 0 ≤ (a1_1 : Int) := of_decide_eq_true (by first | (with_reducible assumption) | assumption)
     have q164 : a1_1 < (y161.length : Int) := (by have h_ : (a1_1 : Int) < ((l0_2.length : Int) : Int) := of_decide_eq_true (by first | (with_reducible assumption) | assumption); first | (have e_ := (Kd.R_reads' HO0_2.out).1; omega) | simpa only [Ny161.out, List.length_set] using h_)
     have ql164 : ((a1_1 : Int) < ((l0_2.length : Int) : Int)) = True := eq_true (of_decide_eq_true (by first | (with_reducible assumption) | assumption))
     obtain ⟨ad164, e164, hx164_0, hx164_1, hx164_2, hx164_3, hx164_4⟩ := at_T34 (Kd.R_reads' HO0_2.out).2.2 a1_1 p164 q164
     obtain rfl : (⟨go5, 0, none⟩ : Addr) = ad164 := (by injection e164)
     (first | simp only [add_plain] at hx164_0 | simp only [add_at] at hx164_0 | simp only [Addr.add, Nat.zero_add] at hx164_0 | skip)
     (first | simp only [add_plain] at hx164_1 | simp only [add_at] at hx164_1 | simp only [Addr.add, Nat.zero_add] at hx164_1 | skip)
     (first | simp only [add_plain] at hx164_2 | simp only [add_at] at hx164_2 | simp only [Addr.add, Nat.zero_add] at hx164_2 | skip)
     (first | simp only [add_plain] at hx164_3 | simp only [add_at] at hx164_3 | simp only [Addr.add, Nat.zero_add] at hx164_3 | skip)
     (first | simp only [add_plain] at hx164_4 | simp only [add_at] at hx164_4 | simp only [Addr.add, Nat.zero_add] at hx164_4 | skip)
     replace p164 := eq_true p164
     replace q164 := eq_true q164
     obtain ⟨ce26, hcl26, hM26, hcc26, hfr26⟩ := Kd.R_elem HO0_2.out z34 (a1_1 : Int) (of_decide_eq_true (by first | (with_reducible assumption) | assumption)) (by have h_ : (a1_1 : Int) < ((l0_2.length : Int) : Int) := of_decide_eq_true (by first | (with_reducible assumption) | assumption); first | exact h_ | (have e_ := (Kd.R_reads' HO0_2.out).1; omega) | simpa using h_)
     obtain rfl := k34_openM hM26
     have HP26 := (Kd.R_seg HO0_2.out (a1_1 : Int) (of_decide_eq_true (by first | (with_reducible assumption) | assumption)) (by have h_ : (a1_1 : Int) < ((l0_2.length : Int) : Int) := of_decide_eq_true (by first | (with_reducible assumption) | assumption); first | exact h_ | (have e_ := (Kd.R_reads' HO0_2.out).1; omega) | simpa using h_) (seg := [.int .i64 (wrap64 (((rd_T34 y161 a1_1).f1) + a1_2))]) (j := 1) hcl26 hcc26 (show 2 ≤ 5 from by decide) (x' := (⟨(rd_T34 y161 a1_1).f0, wrap64 (((rd_T34 y161 a1_1).f1) + a1_2), (rd_T34 y161 a1_1).f2, (rd_T34 y161 a1_1).f3, (rd_T34 y161 a1_1).f4⟩ : S34)) (k34_mkM _ _ _ (⟨(rd_T34 y161 a1_1).f0, wrap64 (((rd_T34 y161 a1_1).f1) + a1_2), (rd_T34 y161 a1_1).f2, (rd_T34 y161 a1_1).f3, (rd_T34 y161 a1_1).f4⟩ : S34) ) (fun _ hk => hk)).1
     have hx26_0 : World.cell? _ ⟨go5, (a1_1 : Int).toNat * 5, none⟩ = some (.int .i64 ((rd_T34 y161 a1_1).f0)) := hcc26 0 _ rfl
     have hx26_1 : World.cell? _ ⟨go5, (a1_1 : Int).toNat * 5 + 1, none⟩ = some (.int .i64 ((rd_T34 y161 a1_1).f1)) := hcc26 1 _ rfl
     have hx26_2 : World.cell? _ ⟨go5, (a1_1 : Int).toNat * 5 + 2, none⟩ = some (.int .i64 ((rd_T34 y161 a1_1).f2)) := hcc26 2 _ rfl
     have hx26_3 : World.cell? _ ⟨go5, (a1_1 : Int).toNat * 5 + 3, none⟩ = some (.int .i64 ((rd_T34 y161 a1_1).f3)) := hcc26 3 _ rfl
     have hx26_4 : World.cell? _ ⟨go5, (a1_1 : Int).toNat * 5 + 4, none⟩ = some (.int .i64 ((rd_T34 y161 a1_1).f4)) := hcc26 4 _ rfl
     have hf26_0 : World.frozen? _ ⟨go5, (a1_1 : Int).toNat * 5, none⟩ = false := hfr26 0
     have hf26_1 : World.frozen? _ ⟨go5, (a1_1 : Int).toNat * 5 + 1, none⟩ = false := hfr26 1
     have hf26_2 : World.frozen? _ ⟨go5, (a1_1 : Int).toNat * 5 + 2, none⟩ = false := hfr26 2
     have hf26_3 : World.frozen? _ ⟨go5, (a1_1 : Int).toNat * 5 + 3, none⟩ = false := hfr26 3
     have hf26_4 : World.frozen? _ ⟨go5, (a1_1 : Int).toNat * 5 + 4, none⟩ = false := hfr26 4
     rw [← Ny165.out] at HP26
     have HQ26 := Aside0.mk HP26
     clear hcl26 hcc26 hfr26 hM26 HP26
     refine start_ (n := 10) (S := fun w' => w'.cell? ⟨gb160, 0, none⟩ = some (.int .i64 a1_0) ∧ w'.cell? ⟨gb160, 1, none⟩ = some (.int .i64 a1_1) ∧ w'.cell? ⟨gb160, 2, none⟩ = some (.int .i64 a1_2) ∧ w'.cell? ⟨go5, (a1_1).toNat * 5, none⟩ = some (.int .i64 ((rd_T34 y161 a1_1).f0)) ∧ w'.cell? ⟨go5, (a1_1).toNat * 5 + 1, none⟩ = some (.int .i64 ((rd_T34 y161 a1_1).f1)) ∧ w'.cell? ⟨go5, (a1_1).toNat * 5 + 2, none⟩ = some (.int .i64 ((rd_T34 y161 a1_1).f2)) ∧ w'.cell? ⟨go5, (a1_1).toNat * 5 + 3, none⟩ = some (.int .i64 ((rd_T34 y161 a1_1).f3)) ∧ w'.cell? ⟨go5, (a1_1).toNat * 5 + 4, none⟩ = some (.int .i64 ((rd_T34 y161 a1_1).f4))) (ds := [9]) #[false, false, false, false, false, false, false, false, false, false] (by kernel_rfl) rfl rfl ⟨bc_ BK160 0, bc_ BK160 1, bc_ BK160 2, hx164_0, hx164_1, hx164_2, hx164_3, hx164_4⟩ (fun hHeld => ?_); refine with_tabW impl_Shop_change.tab7 impl_Shop_change.bits7 (fun HT_ HW_ => ?_)
     generalize w23.drew = w25 at HO0_2 BK159 BK160 HK HB HQ26 hf26_0 hf26_1 hf26_2 hf26_3 hf26_4 hx164_0 hx164_1 hx164_2 hx164_3 hx164_4 hx26_0 hx26_1 hx26_2 hx26_3 hx26_4 hHeld ⊢
     refine pureA (N := some 33) 0 HT_ ?_
     refine pureA (N := some 34) 1 HT_ ?_
     refine pureA (N := some 35) 2 HT_ ?_
     refine pureA (N := some 37) 4 HT_ ?_
     refine takeA (N := some 36) 3 HT_ HW_ hHeld ?_
     refine takeA (N := some 38) 5 HT_ HW_ hHeld ?_
     refine pureA (N := some 39) 6 HT_ ?_
     refine pureA (N := some 40) 7 HT_ ?_
     refine pureA (N := some 41) 8 HT_ ?_
     refine lastA (N := none) 9 HT_ (fun K hK => ?_)
     refine skip_ (w1 := ?_) (by rfl) rfl ?_ ?_
     rotate_left
     ·go_simp
      rfl
     refine hK.out _ _ ?_
     clear hK K
     refine done_ (done_of HT_.out (by kernel_rfl)) ?_
     try go_wp2
     first | go_end0 | ((try simp only [Exit.inBlock, Exit.then]); refine bodyPost_ret (results_none rfl _ _ _) rfl ?_)
     exact ⟨_, (by (with_reducible repeat (first | refine blk_drewN ?_ _ | refine blk_drew ?_ | refine blk_alloc ?_ _)); refine blk_far ?_ (by have h_ := Kd.R_ne HO0_2.out BK159.out (by decide); intro e_; exact h_ (by rw [e_]; rfl)) _; (with_reducible repeat (first | refine blk_drewN ?_ _ | refine blk_drew ?_ | refine blk_alloc ?_ _)); exact BK159.out), by first | rfl | (simp [errW_none, errW_some] <;> rfl) | (simp [*, errW_none, errW_some] <;> rfl), by (with_reducible repeat (first | apply Kd.R_alloc | apply Kd.R_drewN | apply Kd.R_drew)); exact HQ26.out, by repeat (first | (with_reducible first | exact HB.out | apply below_alloc | apply pw_below_drewN | apply below_drew1 | refine below_set ?_ GB5.out | refine below_set ?_ GE159.out | refine below_set ?_ GE160.out) | exact HB.out), by repeat (first | (with_reducible first | exact HK.out | apply Kept.alloc | apply Kept.drewN | apply Kept.drew | refine Kept.setCell ?_ (Or.imp_left Or.inl HMgo5.out) _ | refine Kept.setCell ?_ (.inl (.inr rfl)) _ | refine Kept.setCell ?_ (.inr GW160.out) _) | exact HK.out)⟩
    ·rw [if_neg c17] at H
     have c17b0 := beq_eq_false_iff_ne.mpr c17
     have c17b1 := bne_iff_ne.mpr c17
     by_cases c27 : a1_0 = 5
     ·rw [if_pos c27] at H
      have c27b0 := beq_iff_eq.mpr c27
      have c27b1 := bne_eq_false_iff_eq.mpr c27
      clear c27
      obtain ⟨y166, hy166⟩ : ∃ y_ : List (S34), y_ = (y161.set (a1_1 : Int).toNat (⟨(rd_T34 y161 a1_1).f0, (rd_T34 y161 a1_1).f1, 2, (rd_T34 y161 a1_1).f3, (rd_T34 y161 a1_1).f4⟩ : S34)) := ⟨_, rfl⟩
      replace H : (some (a0_0, a0_1, (y166.set (a1_1 : Int).toNat (⟨(rd_T34 y166 a1_1).f0, (rd_T34 y166 a1_1).f1, (rd_T34 y166 a1_1).f2, 0, (rd_T34 y166 a1_1).f4⟩ : S34)), a0_3)) = some (r1, r2, r3, r4) := by first | (rw [hy166]; with_reducible exact H) | (have H2_ := (Option.bind_some _ _).symm.trans H; rw [hy166]; with_reducible exact H2_) | (have H2_ := (Option.bind_some _ _).symm.trans H; with_reducible exact H2_) | with_reducible exact H | (rw [hy166]; exact H) | exact H
      have Ny166 := Aside0.mk hy166
      clear hy166
      obtain ⟨y167, hy167⟩ : ∃ y_ : List (S34), y_ = (y166.set (a1_1 : Int).toNat (⟨(rd_T34 y166 a1_1).f0, (rd_T34 y166 a1_1).f1, (rd_T34 y166 a1_1).f2, 0, (rd_T34 y166 a1_1).f4⟩ : S34)) := ⟨_, rfl⟩
      replace H : (some (a0_0, a0_1, y167, a0_3)) = some (r1, r2, r3, r4) := by first | (rw [hy167]; with_reducible exact H) | (have H2_ := (Option.bind_some _ _).symm.trans H; rw [hy167]; with_reducible exact H2_) | (have H2_ := (Option.bind_some _ _).symm.trans H; with_reducible exact H2_) | with_reducible exact H | (rw [hy167]; exact H) | exact H
      have Ny167 := Aside0.mk hy167
      clear hy167
      simp only [Option.some.injEq, Prod.mk.injEq] at H
      obtain ⟨rfl, rfl, rfl, rfl⟩ := H
      go_enter Try.func112, Try.ntmps112
      try go_wp2_with (first | ((with_reducible refine gate_dst (N := 3) rfl ?_); refine box_ (N := 3) (cs := #[.int .i64 a1_0, .int .i64 a1_1, .int .i64 a1_2]) (t := 30) ?_; intro gb160 hg w28 hbox hb; have BK160 := Aside0.mk (hbox); have GW160 := Aside0.mk ((by rw [hg]; exact (by first | exact HK.out.1 | exact (show Kept w _ (fun k_ => (P0_2_ k_) ∨ k_ = gb159) from by repeat (first | (with_reducible first | exact HK.out | apply Kept.alloc | apply Kept.drewN | apply Kept.drew | refine Kept.setCell ?_ (.inl (.inr rfl)) _) | exact HK.out)).1) : w.heap.size ≤ gb160)); have GE160 := gz_ w0 hg; have NB159_160 := ne_ hg BK159; have NB160_159 := en_ hg BK159; replace HO0_2 := Aside0.mk (Kd.R_below (ra_ HO0_2) hb); replace BK159 := bb_ BK159 hb; replace HK := Aside0.mk (Kept.below (S := (fun k_ => (P0_2_ k_) ∨ k_ = gb159)) (by repeat (first | (with_reducible first | exact HK.out | apply Kept.alloc | apply Kept.drewN | apply Kept.drew | refine Kept.setCell ?_ (.inl (.inr rfl)) _) | exact HK.out)) hb); replace HB := hb_ w0 hb; clear hb hbox hg))
      replace HO0_2 := Aside0.mk (Kd.R_drew HO0_2.out)
      replace BK159 := Aside0.mk (blk_drew BK159.out)
      replace BK160 := Aside0.mk (blk_drew BK160.out)
      replace HK := Aside0.mk (Kept.drew HK.out)
      replace HB := Aside0.mk (below_drew1 HB.out)
      have p5 : 0 ≤ (a1_1 : Int) := of_decide_eq_true (by first | (with_reducible assumption) | assumption)
      have q5 : (a1_1 : Int) < ((l0_2.length : Int) : Int) := of_decide_eq_true (by first | (with_reducible assumption) | assumption)
      obtain ⟨go5, co5, eo5, gb5, gl5, cl5, HG5⟩ := Kd.R_form HO0_2.out (by omega)
      (first | cases eo5 | (injection eo5 with ea_ en_ ec_; (first | subst ea_ | (injection ea_ with ea_; subst ea_)); subst ec_; clear en_))
      have GB5 := Aside0.mk gb5
      have GG5 := Aside0.mk HG5
      clear gb5 gl5 HG5
      have HMgo5 := Aside0.mk (show (P0_2_ go5 ∨ w.heap.size ≤ go5) from (HO0_2.out.1 _ rfl))
      obtain ⟨ce5, hcl5, hM5, hcc5, hfr5⟩ := Kd.R_elem HO0_2.out z34 (a1_1 : Int) p5 q5
      obtain rfl := k34_openM hM5
      have hx5_0 : World.cell? _ ⟨go5, (a1_1 : Int).toNat * 5, none⟩ = some (.int .i64 ((rd_T34 l0_2 a1_1).f0)) := hcc5 0 _ rfl
      have hx5_1 : World.cell? _ ⟨go5, (a1_1 : Int).toNat * 5 + 1, none⟩ = some (.int .i64 ((rd_T34 l0_2 a1_1).f1)) := hcc5 1 _ rfl
      have hx5_2 : World.cell? _ ⟨go5, (a1_1 : Int).toNat * 5 + 2, none⟩ = some (.int .i64 ((rd_T34 l0_2 a1_1).f2)) := hcc5 2 _ rfl
      have hx5_3 : World.cell? _ ⟨go5, (a1_1 : Int).toNat * 5 + 3, none⟩ = some (.int .i64 ((rd_T34 l0_2 a1_1).f3)) := hcc5 3 _ rfl
      have hx5_4 : World.cell? _ ⟨go5, (a1_1 : Int).toNat * 5 + 4, none⟩ = some (.int .i64 ((rd_T34 l0_2 a1_1).f4)) := hcc5 4 _ rfl
      have hf5_0 : World.frozen? _ ⟨go5, (a1_1 : Int).toNat * 5, none⟩ = false := hfr5 0
      have hf5_1 : World.frozen? _ ⟨go5, (a1_1 : Int).toNat * 5 + 1, none⟩ = false := hfr5 1
      have hf5_2 : World.frozen? _ ⟨go5, (a1_1 : Int).toNat * 5 + 2, none⟩ = false := hfr5 2
      have hf5_3 : World.frozen? _ ⟨go5, (a1_1 : Int).toNat * 5 + 3, none⟩ = false := hfr5 3
      have hf5_4 : World.frozen? _ ⟨go5, (a1_1 : Int).toNat * 5 + 4, none⟩ = false := hfr5 4
      clear hcl5 hcc5 hfr5 hM5
      replace p5 := eq_true p5
      replace q5 := eq_true q5
      refine start_ (n := 8) (S := fun w' => w'.cell? ⟨gb159, 0, none⟩ = some (.int .i64 a0_0) ∧ w'.cell? ⟨gb159, 1, none⟩ = some (.int .i64 a0_1) ∧ w'.cell? ⟨gb159, 2, none⟩ = some (.slice (some ⟨go5, 0, none⟩) l0_2.length co5) ∧ w'.cell? ⟨gb159, 3, none⟩ = some (.int .i64 a0_3) ∧ w'.cell? ⟨gb160, 0, none⟩ = some (.int .i64 a1_0) ∧ w'.cell? ⟨gb160, 1, none⟩ = some (.int .i64 a1_1) ∧ w'.cell? ⟨gb160, 2, none⟩ = some (.int .i64 a1_2)) (ds := []) #[false, false, false, false, false, false, false, false] (by kernel_rfl) rfl rfl ⟨bc_ BK159 0, bc_ BK159 1, bc_ BK159 2, bc_ BK159 3, bc_ BK160 0, bc_ BK160 1, bc_ BK160 2⟩ (fun hHeld => ?_); refine with_tabW impl_Shop_change.tab1 impl_Shop_change.bits1 (fun HT_ HW_ => ?_)
      generalize w28.drew = w29 at HO0_2 BK159 BK160 HK HB GG5 hf5_0 hf5_1 hf5_2 hf5_3 hf5_4 hx5_0 hx5_1 hx5_2 hx5_3 hx5_4 hHeld ⊢
      refine pureA (N := some 5) 0 HT_ ?_
      refine pureA (N := some 6) 1 HT_ ?_
      refine pureA (N := some 7) 2 HT_ ?_
      refine pureA (N := some 9) 4 HT_ ?_
      refine takeA (N := some 8) 3 HT_ HW_ hHeld ?_
      refine takeA (N := some 10) 5 HT_ HW_ hHeld ?_
      refine pureA (N := some 11) 6 HT_ ?_
      refine pureA (N := some 4) 7 HT_ ?_
      refine done_ (done_of HT_.out (by kernel_rfl)) ?_
      have hnb30 := NB159_160.out
      have hnc30 := NB160_159.out
      obtain ⟨hcz31_0, hcz31_1, hcz31_2, hcz31_3, hfz31_0, hfz31_1, hfz31_2, hfz31_3⟩ := bc4_ (w := w29) BK159
      have HX32 := Aside0.mk (show Kd.R k34 34 w29 w0.heap.size (fun k_ => (P0_2_ k_ ∨ w.heap.size ≤ k_)) (.slice (some ⟨go5, 0, none⟩) l0_2.length co5) l0_2 from (ra_ HO0_2))
      obtain ⟨ce32, hcl32, hM32, hcc32, hfr32⟩ := Kd.R_elem HX32.out z34 (a1_1 : Int) (of_decide_eq_true (by first | (with_reducible assumption) | assumption)) (by have h_ : (a1_1 : Int) < ((l0_2.length : Int) : Int) := of_decide_eq_true (by first | (with_reducible assumption) | assumption); first | exact h_ | (have e_ := (Kd.R_reads' HO0_2.out).1; omega) | simpa using h_)
      obtain rfl := k34_openM hM32
      have HP32 := Kd.R_seg HX32.out (a1_1 : Int) (of_decide_eq_true (by first | (with_reducible assumption) | assumption)) (by have h_ : (a1_1 : Int) < ((l0_2.length : Int) : Int) := of_decide_eq_true (by first | (with_reducible assumption) | assumption); first | exact h_ | (have e_ := (Kd.R_reads' HO0_2.out).1; omega) | simpa using h_) (seg := [.int .i64 a0_0]) (j := 4) hcl32 hcc32 (show 5 ≤ 5 from by decide) (x' := (⟨(rd_T34 l0_2 a1_1).f0, (rd_T34 l0_2 a1_1).f1, (rd_T34 l0_2 a1_1).f2, (rd_T34 l0_2 a1_1).f3, a0_0⟩ : S34)) (k34_mkM _ _ _ (⟨(rd_T34 l0_2 a1_1).f0, (rd_T34 l0_2 a1_1).f1, (rd_T34 l0_2 a1_1).f2, (rd_T34 l0_2 a1_1).f3, a0_0⟩ : S34) ) (fun _ hk => hk)
      have hx32_4 := hcc32 4 _ rfl
      (try simp only [show (k34).sz = 5 from rfl, Nat.mul_one, Nat.add_zero] at hx32_4)
      have hf32_4 := hfr32 4
      (try simp only [show (k34).sz = 5 from rfl, Nat.mul_one, Nat.add_zero] at hf32_4)
      clear hcl32 hcc32 hfr32 hM32
      try go_wp2_with (first | ((with_reducible refine gate_store (t := 3) (p := 18) rfl ?_); refine store_event (t := 3) (p := 18) (v := ?vo_w33) (w1 := (w29.setCell ⟨go5, (a1_1 : Int).toNat * 5 + 4, none⟩ (.int .i64 a0_0))) ?hg ?ho ?hn ?hr ?_; (case ho => rfl); (case hg => rfl); (case hn => rfl); (case hr => first | (go_simp; done) | (go_simp; rfl)); intro w33 hw; have hg : w29.grownBy w33 (some go5) := (by rw [hw]; exact HP32.2); have hp_ : Kd.R k34 34 w33 w0.heap.size (fun k_ => (P0_2_ k_ ∨ w.heap.size ≤ k_)) (.slice (some ⟨go5, 0, none⟩) l0_2.length co5) y161 := (by rw [hw, Ny161.out]; exact HP32.1); clear HP32; replace BK159 := Aside0.mk (blk_grown (g := gb159) (o := .cells #[.int .i64 a0_0, .int .i64 a0_1, .slice (some ⟨go5, 0, none⟩) l0_2.length co5, .int .i64 a0_3] 24 (0, 0)) (bk_ BK159) hg (Kd.R_ne HO0_2.out BK159.out (by decide))); replace BK160 := Aside0.mk (blk_grown (g := gb160) (o := .cells #[.int .i64 a1_0, .int .i64 a1_1, .int .i64 a1_2] 30 (0, 0)) (bk_ BK160) hg (Kd.R_ne HO0_2.out BK160.out (by decide))); replace HK := Aside0.mk (Kept.of_grown (S := (fun k_ => (P0_2_ k_) ∨ k_ = gb159)) hg (by repeat (first | (with_reducible first | exact HK.out | apply Kept.alloc | apply Kept.drewN | apply Kept.drew | refine Kept.setCell ?_ (.inl (.inr rfl)) _ | refine Kept.setCell ?_ (.inr GW160.out) _) | exact HK.out)) (fun k_ e_ => Or.imp_left Or.inl ((HO0_2.out.1 k_ e_)))); replace HO0_2 := Aside0.mk (hp_); replace HB := Aside0.mk ((by rw [hw]; exact below_set (HB.out) GB5.out : Below w0.heap.size w0 w33)); clear hg hw hp_; obtain ⟨hcz34_0, hcz34_1, hcz34_2, hfz34_0, hfz34_1, hfz34_2⟩ := bc3_ (w := w33) BK160; have HX35 := Aside0.mk (show Kd.R k34 34 w33 w0.heap.size (fun k_ => (P0_2_ k_ ∨ w.heap.size ≤ k_)) (.slice (some ⟨go5, 0, none⟩) l0_2.length co5) y161 from (ra_ HO0_2)); obtain ⟨ce35, hcl35, hM35, hcc35, hfr35⟩ := Kd.R_elem HX35.out z34 (a1_1 : Int) (of_decide_eq_true (by first | (with_reducible assumption) | assumption)) (by have h_ : (a1_1 : Int) < ((l0_2.length : Int) : Int) := of_decide_eq_true (by first | (with_reducible assumption) | assumption); first | exact h_ | (have e_ := (Kd.R_reads' HO0_2.out).1; omega) | simpa using h_); obtain rfl := k34_openM hM35; have HP35 := Kd.R_seg HX35.out (a1_1 : Int) (of_decide_eq_true (by first | (with_reducible assumption) | assumption)) (by have h_ : (a1_1 : Int) < ((l0_2.length : Int) : Int) := of_decide_eq_true (by first | (with_reducible assumption) | assumption); first | exact h_ | (have e_ := (Kd.R_reads' HO0_2.out).1; omega) | simpa using h_) (seg := [.int .i64 2]) (j := 2) hcl35 hcc35 (show 3 ≤ 5 from by decide) (x' := (⟨(rd_T34 y161 a1_1).f0, (rd_T34 y161 a1_1).f1, 2, (rd_T34 y161 a1_1).f3, (rd_T34 y161 a1_1).f4⟩ : S34)) (k34_mkM _ _ _ (⟨(rd_T34 y161 a1_1).f0, (rd_T34 y161 a1_1).f1, 2, (rd_T34 y161 a1_1).f3, (rd_T34 y161 a1_1).f4⟩ : S34) ) (fun _ hk => hk); have hx35_2 := hcc35 2 _ rfl; (try simp only [show (k34).sz = 5 from rfl, Nat.mul_one, Nat.add_zero] at hx35_2); have hf35_2 := hfr35 2; (try simp only [show (k34).sz = 5 from rfl, Nat.mul_one, Nat.add_zero] at hf35_2); clear hcl35 hcc35 hfr35 hM35) | ((with_reducible refine gate_store (t := 3) (p := 47) rfl ?_); refine store_event (t := 3) (p := 47) (v := ?vo_w36) (w1 := (w33.setCell ⟨go5, (a1_1 : Int).toNat * 5 + 2, none⟩ (.int .i64 2))) ?hg ?ho ?hn ?hr ?_; (case ho => rfl); (case hg => rfl); (case hn => rfl); (case hr => first | (go_simp; done) | (go_simp; rfl)); intro w36 hw; have hg : w33.grownBy w36 (some go5) := (by rw [hw]; exact HP35.2); have hp_ : Kd.R k34 34 w36 w0.heap.size (fun k_ => (P0_2_ k_ ∨ w.heap.size ≤ k_)) (.slice (some ⟨go5, 0, none⟩) l0_2.length co5) y166 := (by rw [hw, Ny166.out]; exact HP35.1); clear HP35; replace BK159 := Aside0.mk (blk_grown (g := gb159) (o := .cells #[.int .i64 a0_0, .int .i64 a0_1, .slice (some ⟨go5, 0, none⟩) l0_2.length co5, .int .i64 a0_3] 24 (0, 0)) (bk_ BK159) hg (Kd.R_ne HO0_2.out BK159.out (by decide))); replace BK160 := Aside0.mk (blk_grown (g := gb160) (o := .cells #[.int .i64 a1_0, .int .i64 a1_1, .int .i64 a1_2] 30 (0, 0)) (bk_ BK160) hg (Kd.R_ne HO0_2.out BK160.out (by decide))); replace HK := Aside0.mk (Kept.of_grown (S := (fun k_ => (P0_2_ k_) ∨ k_ = gb159)) hg (by repeat (first | (with_reducible first | exact HK.out | apply Kept.alloc | apply Kept.drewN | apply Kept.drew | refine Kept.setCell ?_ (.inl (.inr rfl)) _ | refine Kept.setCell ?_ (.inr GW160.out) _) | exact HK.out)) (fun k_ e_ => Or.imp_left Or.inl ((HO0_2.out.1 k_ e_)))); replace HO0_2 := Aside0.mk (hp_); replace HB := Aside0.mk ((by rw [hw]; exact below_set (HB.out) GB5.out : Below w0.heap.size w0 w36)); clear hg hw hp_; have HX37 := Aside0.mk (show Kd.R k34 34 w36 w0.heap.size (fun k_ => (P0_2_ k_ ∨ w.heap.size ≤ k_)) (.slice (some ⟨go5, 0, none⟩) l0_2.length co5) y166 from (ra_ HO0_2)); obtain ⟨ce37, hcl37, hM37, hcc37, hfr37⟩ := Kd.R_elem HX37.out z34 (a1_1 : Int) (of_decide_eq_true (by first | (with_reducible assumption) | assumption)) (by have h_ : (a1_1 : Int) < ((l0_2.length : Int) : Int) := of_decide_eq_true (by first | (with_reducible assumption) | assumption); first | exact h_ | (have e_ := (Kd.R_reads' HO0_2.out).1; omega) | simpa using h_); obtain rfl := k34_openM hM37; have HP37 := Kd.R_seg HX37.out (a1_1 : Int) (of_decide_eq_true (by first | (with_reducible assumption) | assumption)) (by have h_ : (a1_1 : Int) < ((l0_2.length : Int) : Int) := of_decide_eq_true (by first | (with_reducible assumption) | assumption); first | exact h_ | (have e_ := (Kd.R_reads' HO0_2.out).1; omega) | simpa using h_) (seg := [.int .i64 0]) (j := 3) hcl37 hcc37 (show 4 ≤ 5 from by decide) (x' := (⟨(rd_T34 y166 a1_1).f0, (rd_T34 y166 a1_1).f1, (rd_T34 y166 a1_1).f2, 0, (rd_T34 y166 a1_1).f4⟩ : S34)) (k34_mkM _ _ _ (⟨(rd_T34 y166 a1_1).f0, (rd_T34 y166 a1_1).f1, (rd_T34 y166 a1_1).f2, 0, (rd_T34 y166 a1_1).f4⟩ : S34) ) (fun _ hk => hk); have hx37_3 := hcc37 3 _ rfl; (try simp only [show (k34).sz = 5 from rfl, Nat.mul_one, Nat.add_zero] at hx37_3); have hf37_3 := hfr37 3; (try simp only [show (k34).sz = 5 from rfl, Nat.mul_one, Nat.add_zero] at hf37_3); clear hcl37 hcc37 hfr37 hM37) | ((with_reducible refine gate_store (t := 3) (p := 49) rfl ?_); refine store_event (t := 3) (p := 49) (v := ?vo_w38) (w1 := (w36.setCell ⟨go5, (a1_1 : Int).toNat * 5 + 3, none⟩ (.int .i64 0))) ?hg ?ho ?hn ?hr ?_; (case ho => rfl); (case hg => rfl); (case hn => rfl); (case hr => first | (go_simp; done) | (go_simp; rfl)); intro w38 hw; have hg : w36.grownBy w38 (some go5) := (by rw [hw]; exact HP37.2); have hp_ : Kd.R k34 34 w38 w0.heap.size (fun k_ => (P0_2_ k_ ∨ w.heap.size ≤ k_)) (.slice (some ⟨go5, 0, none⟩) l0_2.length co5) y167 := (by rw [hw, Ny167.out]; exact HP37.1); clear HP37; replace BK159 := Aside0.mk (blk_grown (g := gb159) (o := .cells #[.int .i64 a0_0, .int .i64 a0_1, .slice (some ⟨go5, 0, none⟩) l0_2.length co5, .int .i64 a0_3] 24 (0, 0)) (bk_ BK159) hg (Kd.R_ne HO0_2.out BK159.out (by decide))); replace BK160 := Aside0.mk (blk_grown (g := gb160) (o := .cells #[.int .i64 a1_0, .int .i64 a1_1, .int .i64 a1_2] 30 (0, 0)) (bk_ BK160) hg (Kd.R_ne HO0_2.out BK160.out (by decide))); replace HK := Aside0.mk (Kept.of_grown (S := (fun k_ => (P0_2_ k_) ∨ k_ = gb159)) hg (by repeat (first | (with_reducible first | exact HK.out | apply Kept.alloc | apply Kept.drewN | apply Kept.drew | refine Kept.setCell ?_ (.inl (.inr rfl)) _ | refine Kept.setCell ?_ (.inr GW160.out) _) | exact HK.out)) (fun k_ e_ => Or.imp_left Or.inl ((HO0_2.out.1 k_ e_)))); replace HO0_2 := Aside0.mk (hp_); replace HB := Aside0.mk ((by rw [hw]; exact below_set (HB.out) GB5.out : Below w0.heap.size w0 w38)); clear hg hw hp_))
      first | go_end0 | ((try simp only [Exit.inBlock, Exit.then]); refine bodyPost_ret (results_none rfl _ _ _) rfl ?_)
      exact ⟨_, (bk_ BK159), by first | rfl | (simp [errW_none, errW_some] <;> rfl) | (simp [*, errW_none, errW_some] <;> rfl), by (with_reducible repeat (first | apply Kd.R_alloc | apply Kd.R_drewN | apply Kd.R_drew)); exact HO0_2.out, (bw_ w0), by repeat (first | (with_reducible first | exact HK.out | apply Kept.alloc | apply Kept.drewN | apply Kept.drew | refine Kept.setCell ?_ (.inl (.inr rfl)) _ | refine Kept.setCell ?_ (.inr GW160.out) _) | exact HK.out)⟩
     ·rw [if_neg c27] at H
      have c27b0 := beq_eq_false_iff_ne.mpr c27
      have c27b1 := bne_iff_ne.mpr c27
      by_cases c39 : a1_0 = 6
      ·rw [if_pos c39] at H
       have c39b0 := beq_iff_eq.mpr c39
       have c39b1 := bne_eq_false_iff_eq.mpr c39
       clear c39
       obtain ⟨y168, hy168⟩ : ∃ y_ : List (S34), y_ = (y161.set (a1_1 : Int).toNat (⟨(rd_T34 y161 a1_1).f0, (rd_T34 y161 a1_1).f1, 3, (rd_T34 y161 a1_1).f3, (rd_T34 y161 a1_1).f4⟩ : S34)) := ⟨_, rfl⟩
       replace H : (some (a0_0, a0_1, y168, a0_3)) = some (r1, r2, r3, r4) := by first | (rw [hy168]; with_reducible exact H) | (have H2_ := (Option.bind_some _ _).symm.trans H; rw [hy168]; with_reducible exact H2_) | (have H2_ := (Option.bind_some _ _).symm.trans H; with_reducible exact H2_) | with_reducible exact H | (rw [hy168]; exact H) | exact H
       have Ny168 := Aside0.mk hy168
       clear hy168
       simp only [Option.some.injEq, Prod.mk.injEq] at H
       obtain ⟨rfl, rfl, rfl, rfl⟩ := H
       go_enter Try.func112, Try.ntmps112
       try go_wp2_with (first | ((with_reducible refine gate_dst (N := 3) rfl ?_); refine box_ (N := 3) (cs := #[.int .i64 a1_0, .int .i64 a1_1, .int .i64 a1_2]) (t := 30) ?_; intro gb160 hg w40 hbox hb; have BK160 := Aside0.mk (hbox); have GW160 := Aside0.mk ((by rw [hg]; exact (by first | exact HK.out.1 | exact (show Kept w _ (fun k_ => (P0_2_ k_) ∨ k_ = gb159) from by repeat (first | (with_reducible first | exact HK.out | apply Kept.alloc | apply Kept.drewN | apply Kept.drew | refine Kept.setCell ?_ (.inl (.inr rfl)) _) | exact HK.out)).1) : w.heap.size ≤ gb160)); have GE160 := gz_ w0 hg; have NB159_160 := ne_ hg BK159; have NB160_159 := en_ hg BK159; replace HO0_2 := Aside0.mk (Kd.R_below (ra_ HO0_2) hb); replace BK159 := bb_ BK159 hb; replace HK := Aside0.mk (Kept.below (S := (fun k_ => (P0_2_ k_) ∨ k_ = gb159)) (by repeat (first | (with_reducible first | exact HK.out | apply Kept.alloc | apply Kept.drewN | apply Kept.drew | refine Kept.setCell ?_ (.inl (.inr rfl)) _) | exact HK.out)) hb); replace HB := hb_ w0 hb; clear hb hbox hg))
       replace HO0_2 := Aside0.mk (Kd.R_drew HO0_2.out)
       replace BK159 := Aside0.mk (blk_drew BK159.out)
       replace BK160 := Aside0.mk (blk_drew BK160.out)
       replace HK := Aside0.mk (Kept.drew HK.out)
       replace HB := Aside0.mk (below_drew1 HB.out)
       have p5 : 0 ≤ (a1_1 : Int) := of_decide_eq_true (by first | (with_reducible assumption) | assumption)
       have q5 : (a1_1 : Int) < ((l0_2.length : Int) : Int) := of_decide_eq_true (by first | (with_reducible assumption) | assumption)
       obtain ⟨go5, co5, eo5, gb5, gl5, cl5, HG5⟩ := Kd.R_form HO0_2.out (by omega)
       (first | cases eo5 | (injection eo5 with ea_ en_ ec_; (first | subst ea_ | (injection ea_ with ea_; subst ea_)); subst ec_; clear en_))
       have GB5 := Aside0.mk gb5
       have GG5 := Aside0.mk HG5
       clear gb5 gl5 HG5
       have HMgo5 := Aside0.mk (show (P0_2_ go5 ∨ w.heap.size ≤ go5) from (HO0_2.out.1 _ rfl))
       obtain ⟨ce5, hcl5, hM5, hcc5, hfr5⟩ := Kd.R_elem HO0_2.out z34 (a1_1 : Int) p5 q5
       obtain rfl := k34_openM hM5
       have hx5_0 : World.cell? _ ⟨go5, (a1_1 : Int).toNat * 5, none⟩ = some (.int .i64 ((rd_T34 l0_2 a1_1).f0)) := hcc5 0 _ rfl
       have hx5_1 : World.cell? _ ⟨go5, (a1_1 : Int).toNat * 5 + 1, none⟩ = some (.int .i64 ((rd_T34 l0_2 a1_1).f1)) := hcc5 1 _ rfl
       have hx5_2 : World.cell? _ ⟨go5, (a1_1 : Int).toNat * 5 + 2, none⟩ = some (.int .i64 ((rd_T34 l0_2 a1_1).f2)) := hcc5 2 _ rfl
       have hx5_3 : World.cell? _ ⟨go5, (a1_1 : Int).toNat * 5 + 3, none⟩ = some (.int .i64 ((rd_T34 l0_2 a1_1).f3)) := hcc5 3 _ rfl
       have hx5_4 : World.cell? _ ⟨go5, (a1_1 : Int).toNat * 5 + 4, none⟩ = some (.int .i64 ((rd_T34 l0_2 a1_1).f4)) := hcc5 4 _ rfl
       have hf5_0 : World.frozen? _ ⟨go5, (a1_1 : Int).toNat * 5, none⟩ = false := hfr5 0
       have hf5_1 : World.frozen? _ ⟨go5, (a1_1 : Int).toNat * 5 + 1, none⟩ = false := hfr5 1
       have hf5_2 : World.frozen? _ ⟨go5, (a1_1 : Int).toNat * 5 + 2, none⟩ = false := hfr5 2
       have hf5_3 : World.frozen? _ ⟨go5, (a1_1 : Int).toNat * 5 + 3, none⟩ = false := hfr5 3
       have hf5_4 : World.frozen? _ ⟨go5, (a1_1 : Int).toNat * 5 + 4, none⟩ = false := hfr5 4
       clear hcl5 hcc5 hfr5 hM5
       replace p5 := eq_true p5
       replace q5 := eq_true q5
       refine start_ (n := 8) (S := fun w' => w'.cell? ⟨gb159, 0, none⟩ = some (.int .i64 a0_0) ∧ w'.cell? ⟨gb159, 1, none⟩ = some (.int .i64 a0_1) ∧ w'.cell? ⟨gb159, 2, none⟩ = some (.slice (some ⟨go5, 0, none⟩) l0_2.length co5) ∧ w'.cell? ⟨gb159, 3, none⟩ = some (.int .i64 a0_3) ∧ w'.cell? ⟨gb160, 0, none⟩ = some (.int .i64 a1_0) ∧ w'.cell? ⟨gb160, 1, none⟩ = some (.int .i64 a1_1) ∧ w'.cell? ⟨gb160, 2, none⟩ = some (.int .i64 a1_2)) (ds := []) #[false, false, false, false, false, false, false, false] (by kernel_rfl) rfl rfl ⟨bc_ BK159 0, bc_ BK159 1, bc_ BK159 2, bc_ BK159 3, bc_ BK160 0, bc_ BK160 1, bc_ BK160 2⟩ (fun hHeld => ?_); refine with_tabW impl_Shop_change.tab1 impl_Shop_change.bits1 (fun HT_ HW_ => ?_)
       generalize w40.drew = w41 at HO0_2 BK159 BK160 HK HB GG5 hf5_0 hf5_1 hf5_2 hf5_3 hf5_4 hx5_0 hx5_1 hx5_2 hx5_3 hx5_4 hHeld ⊢
       refine pureA (N := some 5) 0 HT_ ?_
       refine pureA (N := some 6) 1 HT_ ?_
       refine pureA (N := some 7) 2 HT_ ?_
       refine pureA (N := some 9) 4 HT_ ?_
       refine takeA (N := some 8) 3 HT_ HW_ hHeld ?_
       refine takeA (N := some 10) 5 HT_ HW_ hHeld ?_
       refine pureA (N := some 11) 6 HT_ ?_
       refine pureA (N := some 4) 7 HT_ ?_
       refine done_ (done_of HT_.out (by kernel_rfl)) ?_
       have hnb42 := NB159_160.out
       have hnc42 := NB160_159.out
       obtain ⟨hcz43_0, hcz43_1, hcz43_2, hcz43_3, hfz43_0, hfz43_1, hfz43_2, hfz43_3⟩ := bc4_ (w := w41) BK159
       have HX44 := Aside0.mk (show Kd.R k34 34 w41 w0.heap.size (fun k_ => (P0_2_ k_ ∨ w.heap.size ≤ k_)) (.slice (some ⟨go5, 0, none⟩) l0_2.length co5) l0_2 from (ra_ HO0_2))
       obtain ⟨ce44, hcl44, hM44, hcc44, hfr44⟩ := Kd.R_elem HX44.out z34 (a1_1 : Int) (of_decide_eq_true (by first | (with_reducible assumption) | assumption)) (by have h_ : (a1_1 : Int) < ((l0_2.length : Int) : Int) := of_decide_eq_true (by first | (with_reducible assumption) | assumption); first | exact h_ | (have e_ := (Kd.R_reads' HO0_2.out).1; omega) | simpa using h_)
       obtain rfl := k34_openM hM44
       have HP44 := Kd.R_seg HX44.out (a1_1 : Int) (of_decide_eq_true (by first | (with_reducible assumption) | assumption)) (by have h_ : (a1_1 : Int) < ((l0_2.length : Int) : Int) := of_decide_eq_true (by first | (with_reducible assumption) | assumption); first | exact h_ | (have e_ := (Kd.R_reads' HO0_2.out).1; omega) | simpa using h_) (seg := [.int .i64 a0_0]) (j := 4) hcl44 hcc44 (show 5 ≤ 5 from by decide) (x' := (⟨(rd_T34 l0_2 a1_1).f0, (rd_T34 l0_2 a1_1).f1, (rd_T34 l0_2 a1_1).f2, (rd_T34 l0_2 a1_1).f3, a0_0⟩ : S34)) (k34_mkM _ _ _ (⟨(rd_T34 l0_2 a1_1).f0, (rd_T34 l0_2 a1_1).f1, (rd_T34 l0_2 a1_1).f2, (rd_T34 l0_2 a1_1).f3, a0_0⟩ : S34) ) (fun _ hk => hk)
       have hx44_4 := hcc44 4 _ rfl
       (try simp only [show (k34).sz = 5 from rfl, Nat.mul_one, Nat.add_zero] at hx44_4)
       have hf44_4 := hfr44 4
       (try simp only [show (k34).sz = 5 from rfl, Nat.mul_one, Nat.add_zero] at hf44_4)
       clear hcl44 hcc44 hfr44 hM44
       try go_wp2_with (first | ((with_reducible refine gate_store (t := 3) (p := 18) rfl ?_); refine store_event (t := 3) (p := 18) (v := ?vo_w45) (w1 := (w41.setCell ⟨go5, (a1_1 : Int).toNat * 5 + 4, none⟩ (.int .i64 a0_0))) ?hg ?ho ?hn ?hr ?_; (case ho => rfl); (case hg => rfl); (case hn => rfl); (case hr => first | (go_simp; done) | (go_simp; rfl)); intro w45 hw; have hg : w41.grownBy w45 (some go5) := (by rw [hw]; exact HP44.2); have hp_ : Kd.R k34 34 w45 w0.heap.size (fun k_ => (P0_2_ k_ ∨ w.heap.size ≤ k_)) (.slice (some ⟨go5, 0, none⟩) l0_2.length co5) y161 := (by rw [hw, Ny161.out]; exact HP44.1); clear HP44; replace BK159 := Aside0.mk (blk_grown (g := gb159) (o := .cells #[.int .i64 a0_0, .int .i64 a0_1, .slice (some ⟨go5, 0, none⟩) l0_2.length co5, .int .i64 a0_3] 24 (0, 0)) (bk_ BK159) hg (Kd.R_ne HO0_2.out BK159.out (by decide))); replace BK160 := Aside0.mk (blk_grown (g := gb160) (o := .cells #[.int .i64 a1_0, .int .i64 a1_1, .int .i64 a1_2] 30 (0, 0)) (bk_ BK160) hg (Kd.R_ne HO0_2.out BK160.out (by decide))); replace HK := Aside0.mk (Kept.of_grown (S := (fun k_ => (P0_2_ k_) ∨ k_ = gb159)) hg (by repeat (first | (with_reducible first | exact HK.out | apply Kept.alloc | apply Kept.drewN | apply Kept.drew | refine Kept.setCell ?_ (.inl (.inr rfl)) _ | refine Kept.setCell ?_ (.inr GW160.out) _) | exact HK.out)) (fun k_ e_ => Or.imp_left Or.inl ((HO0_2.out.1 k_ e_)))); replace HO0_2 := Aside0.mk (hp_); replace HB := Aside0.mk ((by rw [hw]; exact below_set (HB.out) GB5.out : Below w0.heap.size w0 w45)); clear hg hw hp_; obtain ⟨hcz46_0, hcz46_1, hcz46_2, hfz46_0, hfz46_1, hfz46_2⟩ := bc3_ (w := w45) BK160; have HX47 := Aside0.mk (show Kd.R k34 34 w45 w0.heap.size (fun k_ => (P0_2_ k_ ∨ w.heap.size ≤ k_)) (.slice (some ⟨go5, 0, none⟩) l0_2.length co5) y161 from (ra_ HO0_2)); obtain ⟨ce47, hcl47, hM47, hcc47, hfr47⟩ := Kd.R_elem HX47.out z34 (a1_1 : Int) (of_decide_eq_true (by first | (with_reducible assumption) | assumption)) (by have h_ : (a1_1 : Int) < ((l0_2.length : Int) : Int) := of_decide_eq_true (by first | (with_reducible assumption) | assumption); first | exact h_ | (have e_ := (Kd.R_reads' HO0_2.out).1; omega) | simpa using h_); obtain rfl := k34_openM hM47; have HP47 := Kd.R_seg HX47.out (a1_1 : Int) (of_decide_eq_true (by first | (with_reducible assumption) | assumption)) (by have h_ : (a1_1 : Int) < ((l0_2.length : Int) : Int) := of_decide_eq_true (by first | (with_reducible assumption) | assumption); first | exact h_ | (have e_ := (Kd.R_reads' HO0_2.out).1; omega) | simpa using h_) (seg := [.int .i64 3]) (j := 2) hcl47 hcc47 (show 3 ≤ 5 from by decide) (x' := (⟨(rd_T34 y161 a1_1).f0, (rd_T34 y161 a1_1).f1, 3, (rd_T34 y161 a1_1).f3, (rd_T34 y161 a1_1).f4⟩ : S34)) (k34_mkM _ _ _ (⟨(rd_T34 y161 a1_1).f0, (rd_T34 y161 a1_1).f1, 3, (rd_T34 y161 a1_1).f3, (rd_T34 y161 a1_1).f4⟩ : S34) ) (fun _ hk => hk); have hx47_2 := hcc47 2 _ rfl; (try simp only [show (k34).sz = 5 from rfl, Nat.mul_one, Nat.add_zero] at hx47_2); have hf47_2 := hfr47 2; (try simp only [show (k34).sz = 5 from rfl, Nat.mul_one, Nat.add_zero] at hf47_2); clear hcl47 hcc47 hfr47 hM47) | ((with_reducible refine gate_store (t := 3) (p := 54) rfl ?_); refine store_event (t := 3) (p := 54) (v := ?vo_w48) (w1 := (w45.setCell ⟨go5, (a1_1 : Int).toNat * 5 + 2, none⟩ (.int .i64 3))) ?hg ?ho ?hn ?hr ?_; (case ho => rfl); (case hg => rfl); (case hn => rfl); (case hr => first | (go_simp; done) | (go_simp; rfl)); intro w48 hw; have hg : w45.grownBy w48 (some go5) := (by rw [hw]; exact HP47.2); have hp_ : Kd.R k34 34 w48 w0.heap.size (fun k_ => (P0_2_ k_ ∨ w.heap.size ≤ k_)) (.slice (some ⟨go5, 0, none⟩) l0_2.length co5) y168 := (by rw [hw, Ny168.out]; exact HP47.1); clear HP47; replace BK159 := Aside0.mk (blk_grown (g := gb159) (o := .cells #[.int .i64 a0_0, .int .i64 a0_1, .slice (some ⟨go5, 0, none⟩) l0_2.length co5, .int .i64 a0_3] 24 (0, 0)) (bk_ BK159) hg (Kd.R_ne HO0_2.out BK159.out (by decide))); replace BK160 := Aside0.mk (blk_grown (g := gb160) (o := .cells #[.int .i64 a1_0, .int .i64 a1_1, .int .i64 a1_2] 30 (0, 0)) (bk_ BK160) hg (Kd.R_ne HO0_2.out BK160.out (by decide))); replace HK := Aside0.mk (Kept.of_grown (S := (fun k_ => (P0_2_ k_) ∨ k_ = gb159)) hg (by repeat (first | (with_reducible first | exact HK.out | apply Kept.alloc | apply Kept.drewN | apply Kept.drew | refine Kept.setCell ?_ (.inl (.inr rfl)) _ | refine Kept.setCell ?_ (.inr GW160.out) _) | exact HK.out)) (fun k_ e_ => Or.imp_left Or.inl ((HO0_2.out.1 k_ e_)))); replace HO0_2 := Aside0.mk (hp_); replace HB := Aside0.mk ((by rw [hw]; exact below_set (HB.out) GB5.out : Below w0.heap.size w0 w48)); clear hg hw hp_))
       first | go_end0 | ((try simp only [Exit.inBlock, Exit.then]); refine bodyPost_ret (results_none rfl _ _ _) rfl ?_)
       exact ⟨_, (bk_ BK159), by first | rfl | (simp [errW_none, errW_some] <;> rfl) | (simp [*, errW_none, errW_some] <;> rfl), by (with_reducible repeat (first | apply Kd.R_alloc | apply Kd.R_drewN | apply Kd.R_drew)); exact HO0_2.out, (bw_ w0), by repeat (first | (with_reducible first | exact HK.out | apply Kept.alloc | apply Kept.drewN | apply Kept.drew | refine Kept.setCell ?_ (.inl (.inr rfl)) _ | refine Kept.setCell ?_ (.inr GW160.out) _) | exact HK.out)⟩
      ·rw [if_neg c39] at H
       have c39b0 := beq_eq_false_iff_ne.mpr c39
       have c39b1 := bne_iff_ne.mpr c39
       by_cases c49 : a1_0 = 7
       ·rw [if_pos c49] at H
        have c49b0 := beq_iff_eq.mpr c49
        have c49b1 := bne_eq_false_iff_eq.mpr c49
        clear c49
        obtain ⟨y169, hy169⟩ : ∃ y_ : List (S34), y_ = (y161.set (a1_1 : Int).toNat (⟨(rd_T34 y161 a1_1).f0, (rd_T34 y161 a1_1).f1, 4, (rd_T34 y161 a1_1).f3, (rd_T34 y161 a1_1).f4⟩ : S34)) := ⟨_, rfl⟩
        replace H : (some (a0_0, a0_1, y169, wrap64 (a0_3 + a1_2))) = some (r1, r2, r3, r4) := by first | (rw [hy169]; with_reducible exact H) | (have H2_ := (Option.bind_some _ _).symm.trans H; rw [hy169]; with_reducible exact H2_) | (have H2_ := (Option.bind_some _ _).symm.trans H; with_reducible exact H2_) | with_reducible exact H | (rw [hy169]; exact H) | exact H
        have Ny169 := Aside0.mk hy169
        clear hy169
        simp only [Option.some.injEq, Prod.mk.injEq] at H
        obtain ⟨rfl, rfl, rfl, rfl⟩ := H
        go_enter Try.func112, Try.ntmps112
        try go_wp2_with (first | ((with_reducible refine gate_dst (N := 3) rfl ?_); refine box_ (N := 3) (cs := #[.int .i64 a1_0, .int .i64 a1_1, .int .i64 a1_2]) (t := 30) ?_; intro gb160 hg w50 hbox hb; have BK160 := Aside0.mk (hbox); have GW160 := Aside0.mk ((by rw [hg]; exact (by first | exact HK.out.1 | exact (show Kept w _ (fun k_ => (P0_2_ k_) ∨ k_ = gb159) from by repeat (first | (with_reducible first | exact HK.out | apply Kept.alloc | apply Kept.drewN | apply Kept.drew | refine Kept.setCell ?_ (.inl (.inr rfl)) _) | exact HK.out)).1) : w.heap.size ≤ gb160)); have GE160 := gz_ w0 hg; have NB159_160 := ne_ hg BK159; have NB160_159 := en_ hg BK159; replace HO0_2 := Aside0.mk (Kd.R_below (ra_ HO0_2) hb); replace BK159 := bb_ BK159 hb; replace HK := Aside0.mk (Kept.below (S := (fun k_ => (P0_2_ k_) ∨ k_ = gb159)) (by repeat (first | (with_reducible first | exact HK.out | apply Kept.alloc | apply Kept.drewN | apply Kept.drew | refine Kept.setCell ?_ (.inl (.inr rfl)) _) | exact HK.out)) hb); replace HB := hb_ w0 hb; clear hb hbox hg))
        replace HO0_2 := Aside0.mk (Kd.R_drew HO0_2.out)
        replace BK159 := Aside0.mk (blk_drew BK159.out)
        replace BK160 := Aside0.mk (blk_drew BK160.out)
        replace HK := Aside0.mk (Kept.drew HK.out)
        replace HB := Aside0.mk (below_drew1 HB.out)
        have p5 : 0 ≤ (a1_1 : Int) := of_decide_eq_true (by first | (with_reducible assumption) | assumption)
        have q5 : (a1_1 : Int) < ((l0_2.length : Int) : Int) := of_decide_eq_true (by first | (with_reducible assumption) | assumption)
        obtain ⟨go5, co5, eo5, gb5, gl5, cl5, HG5⟩ := Kd.R_form HO0_2.out (by omega)
        (first | cases eo5 | (injection eo5 with ea_ en_ ec_; (first | subst ea_ | (injection ea_ with ea_; subst ea_)); subst ec_; clear en_))
        have GB5 := Aside0.mk gb5
        have GG5 := Aside0.mk HG5
        clear gb5 gl5 HG5
        have HMgo5 := Aside0.mk (show (P0_2_ go5 ∨ w.heap.size ≤ go5) from (HO0_2.out.1 _ rfl))
        obtain ⟨ce5, hcl5, hM5, hcc5, hfr5⟩ := Kd.R_elem HO0_2.out z34 (a1_1 : Int) p5 q5
        obtain rfl := k34_openM hM5
        have hx5_0 : World.cell? _ ⟨go5, (a1_1 : Int).toNat * 5, none⟩ = some (.int .i64 ((rd_T34 l0_2 a1_1).f0)) := hcc5 0 _ rfl
        have hx5_1 : World.cell? _ ⟨go5, (a1_1 : Int).toNat * 5 + 1, none⟩ = some (.int .i64 ((rd_T34 l0_2 a1_1).f1)) := hcc5 1 _ rfl
        have hx5_2 : World.cell? _ ⟨go5, (a1_1 : Int).toNat * 5 + 2, none⟩ = some (.int .i64 ((rd_T34 l0_2 a1_1).f2)) := hcc5 2 _ rfl
        have hx5_3 : World.cell? _ ⟨go5, (a1_1 : Int).toNat * 5 + 3, none⟩ = some (.int .i64 ((rd_T34 l0_2 a1_1).f3)) := hcc5 3 _ rfl
        have hx5_4 : World.cell? _ ⟨go5, (a1_1 : Int).toNat * 5 + 4, none⟩ = some (.int .i64 ((rd_T34 l0_2 a1_1).f4)) := hcc5 4 _ rfl
        have hf5_0 : World.frozen? _ ⟨go5, (a1_1 : Int).toNat * 5, none⟩ = false := hfr5 0
        have hf5_1 : World.frozen? _ ⟨go5, (a1_1 : Int).toNat * 5 + 1, none⟩ = false := hfr5 1
        have hf5_2 : World.frozen? _ ⟨go5, (a1_1 : Int).toNat * 5 + 2, none⟩ = false := hfr5 2
        have hf5_3 : World.frozen? _ ⟨go5, (a1_1 : Int).toNat * 5 + 3, none⟩ = false := hfr5 3
        have hf5_4 : World.frozen? _ ⟨go5, (a1_1 : Int).toNat * 5 + 4, none⟩ = false := hfr5 4
        clear hcl5 hcc5 hfr5 hM5
        replace p5 := eq_true p5
        replace q5 := eq_true q5
        refine start_ (n := 8) (S := fun w' => w'.cell? ⟨gb159, 0, none⟩ = some (.int .i64 a0_0) ∧ w'.cell? ⟨gb159, 1, none⟩ = some (.int .i64 a0_1) ∧ w'.cell? ⟨gb159, 2, none⟩ = some (.slice (some ⟨go5, 0, none⟩) l0_2.length co5) ∧ w'.cell? ⟨gb159, 3, none⟩ = some (.int .i64 a0_3) ∧ w'.cell? ⟨gb160, 0, none⟩ = some (.int .i64 a1_0) ∧ w'.cell? ⟨gb160, 1, none⟩ = some (.int .i64 a1_1) ∧ w'.cell? ⟨gb160, 2, none⟩ = some (.int .i64 a1_2)) (ds := []) #[false, false, false, false, false, false, false, false] (by kernel_rfl) rfl rfl ⟨bc_ BK159 0, bc_ BK159 1, bc_ BK159 2, bc_ BK159 3, bc_ BK160 0, bc_ BK160 1, bc_ BK160 2⟩ (fun hHeld => ?_); refine with_tabW impl_Shop_change.tab1 impl_Shop_change.bits1 (fun HT_ HW_ => ?_)
        generalize w50.drew = w51 at HO0_2 BK159 BK160 HK HB GG5 hf5_0 hf5_1 hf5_2 hf5_3 hf5_4 hx5_0 hx5_1 hx5_2 hx5_3 hx5_4 hHeld ⊢
        refine pureA (N := some 5) 0 HT_ ?_
        refine pureA (N := some 6) 1 HT_ ?_
        refine pureA (N := some 7) 2 HT_ ?_
        refine pureA (N := some 9) 4 HT_ ?_
        refine takeA (N := some 8) 3 HT_ HW_ hHeld ?_
        refine takeA (N := some 10) 5 HT_ HW_ hHeld ?_
        refine pureA (N := some 11) 6 HT_ ?_
        refine pureA (N := some 4) 7 HT_ ?_
        refine done_ (done_of HT_.out (by kernel_rfl)) ?_
        have hnb52 := NB159_160.out
        have hnc52 := NB160_159.out
        obtain ⟨hcz53_0, hcz53_1, hcz53_2, hcz53_3, hfz53_0, hfz53_1, hfz53_2, hfz53_3⟩ := bc4_ (w := w51) BK159
        have HX54 := Aside0.mk (show Kd.R k34 34 w51 w0.heap.size (fun k_ => (P0_2_ k_ ∨ w.heap.size ≤ k_)) (.slice (some ⟨go5, 0, none⟩) l0_2.length co5) l0_2 from (ra_ HO0_2))
        obtain ⟨ce54, hcl54, hM54, hcc54, hfr54⟩ := Kd.R_elem HX54.out z34 (a1_1 : Int) (of_decide_eq_true (by first | (with_reducible assumption) | assumption)) (by have h_ : (a1_1 : Int) < ((l0_2.length : Int) : Int) := of_decide_eq_true (by first | (with_reducible assumption) | assumption); first | exact h_ | (have e_ := (Kd.R_reads' HO0_2.out).1; omega) | simpa using h_)
        obtain rfl := k34_openM hM54
        have HP54 := Kd.R_seg HX54.out (a1_1 : Int) (of_decide_eq_true (by first | (with_reducible assumption) | assumption)) (by have h_ : (a1_1 : Int) < ((l0_2.length : Int) : Int) := of_decide_eq_true (by first | (with_reducible assumption) | assumption); first | exact h_ | (have e_ := (Kd.R_reads' HO0_2.out).1; omega) | simpa using h_) (seg := [.int .i64 a0_0]) (j := 4) hcl54 hcc54 (show 5 ≤ 5 from by decide) (x' := (⟨(rd_T34 l0_2 a1_1).f0, (rd_T34 l0_2 a1_1).f1, (rd_T34 l0_2 a1_1).f2, (rd_T34 l0_2 a1_1).f3, a0_0⟩ : S34)) (k34_mkM _ _ _ (⟨(rd_T34 l0_2 a1_1).f0, (rd_T34 l0_2 a1_1).f1, (rd_T34 l0_2 a1_1).f2, (rd_T34 l0_2 a1_1).f3, a0_0⟩ : S34) ) (fun _ hk => hk)
        have hx54_4 := hcc54 4 _ rfl
        (try simp only [show (k34).sz = 5 from rfl, Nat.mul_one, Nat.add_zero] at hx54_4)
        have hf54_4 := hfr54 4
        (try simp only [show (k34).sz = 5 from rfl, Nat.mul_one, Nat.add_zero] at hf54_4)
        clear hcl54 hcc54 hfr54 hM54
        try go_wp2_with (first | ((with_reducible refine gate_store (t := 3) (p := 18) rfl ?_); refine store_event (t := 3) (p := 18) (v := ?vo_w55) (w1 := (w51.setCell ⟨go5, (a1_1 : Int).toNat * 5 + 4, none⟩ (.int .i64 a0_0))) ?hg ?ho ?hn ?hr ?_; (case ho => rfl); (case hg => rfl); (case hn => rfl); (case hr => first | (go_simp; done) | (go_simp; rfl)); intro w55 hw; have hg : w51.grownBy w55 (some go5) := (by rw [hw]; exact HP54.2); have hp_ : Kd.R k34 34 w55 w0.heap.size (fun k_ => (P0_2_ k_ ∨ w.heap.size ≤ k_)) (.slice (some ⟨go5, 0, none⟩) l0_2.length co5) y161 := (by rw [hw, Ny161.out]; exact HP54.1); clear HP54; replace BK159 := Aside0.mk (blk_grown (g := gb159) (o := .cells #[.int .i64 a0_0, .int .i64 a0_1, .slice (some ⟨go5, 0, none⟩) l0_2.length co5, .int .i64 a0_3] 24 (0, 0)) (bk_ BK159) hg (Kd.R_ne HO0_2.out BK159.out (by decide))); replace BK160 := Aside0.mk (blk_grown (g := gb160) (o := .cells #[.int .i64 a1_0, .int .i64 a1_1, .int .i64 a1_2] 30 (0, 0)) (bk_ BK160) hg (Kd.R_ne HO0_2.out BK160.out (by decide))); replace HK := Aside0.mk (Kept.of_grown (S := (fun k_ => (P0_2_ k_) ∨ k_ = gb159)) hg (by repeat (first | (with_reducible first | exact HK.out | apply Kept.alloc | apply Kept.drewN | apply Kept.drew | refine Kept.setCell ?_ (.inl (.inr rfl)) _ | refine Kept.setCell ?_ (.inr GW160.out) _) | exact HK.out)) (fun k_ e_ => Or.imp_left Or.inl ((HO0_2.out.1 k_ e_)))); replace HO0_2 := Aside0.mk (hp_); replace HB := Aside0.mk ((by rw [hw]; exact below_set (HB.out) GB5.out : Below w0.heap.size w0 w55)); clear hg hw hp_; obtain ⟨hcz56_0, hcz56_1, hcz56_2, hfz56_0, hfz56_1, hfz56_2⟩ := bc3_ (w := w55) BK160; have HX57 := Aside0.mk (show Kd.R k34 34 w55 w0.heap.size (fun k_ => (P0_2_ k_ ∨ w.heap.size ≤ k_)) (.slice (some ⟨go5, 0, none⟩) l0_2.length co5) y161 from (ra_ HO0_2)); obtain ⟨ce57, hcl57, hM57, hcc57, hfr57⟩ := Kd.R_elem HX57.out z34 (a1_1 : Int) (of_decide_eq_true (by first | (with_reducible assumption) | assumption)) (by have h_ : (a1_1 : Int) < ((l0_2.length : Int) : Int) := of_decide_eq_true (by first | (with_reducible assumption) | assumption); first | exact h_ | (have e_ := (Kd.R_reads' HO0_2.out).1; omega) | simpa using h_); obtain rfl := k34_openM hM57; have HP57 := Kd.R_seg HX57.out (a1_1 : Int) (of_decide_eq_true (by first | (with_reducible assumption) | assumption)) (by have h_ : (a1_1 : Int) < ((l0_2.length : Int) : Int) := of_decide_eq_true (by first | (with_reducible assumption) | assumption); first | exact h_ | (have e_ := (Kd.R_reads' HO0_2.out).1; omega) | simpa using h_) (seg := [.int .i64 4]) (j := 2) hcl57 hcc57 (show 3 ≤ 5 from by decide) (x' := (⟨(rd_T34 y161 a1_1).f0, (rd_T34 y161 a1_1).f1, 4, (rd_T34 y161 a1_1).f3, (rd_T34 y161 a1_1).f4⟩ : S34)) (k34_mkM _ _ _ (⟨(rd_T34 y161 a1_1).f0, (rd_T34 y161 a1_1).f1, 4, (rd_T34 y161 a1_1).f3, (rd_T34 y161 a1_1).f4⟩ : S34) ) (fun _ hk => hk); have hx57_2 := hcc57 2 _ rfl; (try simp only [show (k34).sz = 5 from rfl, Nat.mul_one, Nat.add_zero] at hx57_2); have hf57_2 := hfr57 2; (try simp only [show (k34).sz = 5 from rfl, Nat.mul_one, Nat.add_zero] at hf57_2); clear hcl57 hcc57 hfr57 hM57) | ((with_reducible refine gate_store (t := 3) (p := 59) rfl ?_); refine store_event (t := 3) (p := 59) (v := ?vo_w58) (w1 := (w55.setCell ⟨go5, (a1_1 : Int).toNat * 5 + 2, none⟩ (.int .i64 4))) ?hg ?ho ?hn ?hr ?_; (case ho => rfl); (case hg => rfl); (case hn => rfl); (case hr => first | (go_simp; done) | (go_simp; rfl)); intro w58 hw; have hg : w55.grownBy w58 (some go5) := (by rw [hw]; exact HP57.2); have hp_ : Kd.R k34 34 w58 w0.heap.size (fun k_ => (P0_2_ k_ ∨ w.heap.size ≤ k_)) (.slice (some ⟨go5, 0, none⟩) l0_2.length co5) y169 := (by rw [hw, Ny169.out]; exact HP57.1); clear HP57; replace BK159 := Aside0.mk (blk_grown (g := gb159) (o := .cells #[.int .i64 a0_0, .int .i64 a0_1, .slice (some ⟨go5, 0, none⟩) l0_2.length co5, .int .i64 a0_3] 24 (0, 0)) (bk_ BK159) hg (Kd.R_ne HO0_2.out BK159.out (by decide))); replace BK160 := Aside0.mk (blk_grown (g := gb160) (o := .cells #[.int .i64 a1_0, .int .i64 a1_1, .int .i64 a1_2] 30 (0, 0)) (bk_ BK160) hg (Kd.R_ne HO0_2.out BK160.out (by decide))); replace HK := Aside0.mk (Kept.of_grown (S := (fun k_ => (P0_2_ k_) ∨ k_ = gb159)) hg (by repeat (first | (with_reducible first | exact HK.out | apply Kept.alloc | apply Kept.drewN | apply Kept.drew | refine Kept.setCell ?_ (.inl (.inr rfl)) _ | refine Kept.setCell ?_ (.inr GW160.out) _) | exact HK.out)) (fun k_ e_ => Or.imp_left Or.inl ((HO0_2.out.1 k_ e_)))); replace HO0_2 := Aside0.mk (hp_); replace HB := Aside0.mk ((by rw [hw]; exact below_set (HB.out) GB5.out : Below w0.heap.size w0 w58)); clear hg hw hp_))
        replace HO0_2 := Aside0.mk (Kd.R_drew HO0_2.out)
        replace BK159 := Aside0.mk (blk_drew BK159.out)
        replace BK160 := Aside0.mk (blk_drew BK160.out)
        replace HK := Aside0.mk (Kept.drew HK.out)
        replace HB := Aside0.mk (below_drew1 HB.out)
        refine start_ (n := 10) (S := fun w' => w'.cell? ⟨gb159, 0, none⟩ = some (.int .i64 a0_0) ∧ w'.cell? ⟨gb159, 1, none⟩ = some (.int .i64 a0_1) ∧ w'.cell? ⟨gb159, 2, none⟩ = some (.slice (some ⟨go5, 0, none⟩) l0_2.length co5) ∧ w'.cell? ⟨gb159, 3, none⟩ = some (.int .i64 a0_3) ∧ w'.cell? ⟨gb160, 0, none⟩ = some (.int .i64 a1_0) ∧ w'.cell? ⟨gb160, 1, none⟩ = some (.int .i64 a1_1) ∧ w'.cell? ⟨gb160, 2, none⟩ = some (.int .i64 a1_2)) (ds := [9]) #[false, false, false, false, false, false, false, false, false, false] (by kernel_rfl) rfl rfl ⟨bc_ BK159 0, bc_ BK159 1, bc_ BK159 2, bc_ BK159 3, bc_ BK160 0, bc_ BK160 1, bc_ BK160 2⟩ (fun hHeld => ?_); refine with_tabW impl_Shop_change.tab14 impl_Shop_change.bits14 (fun HT_ HW_ => ?_)
        generalize w58.drew = w59 at HO0_2 BK159 BK160 HK HB hHeld ⊢
        refine pureA (N := some 60) 0 HT_ ?_
        refine pureA (N := some 61) 1 HT_ ?_
        refine pureA (N := some 62) 2 HT_ ?_
        refine pureA (N := some 64) 4 HT_ ?_
        refine takeA (N := some 63) 3 HT_ HW_ hHeld ?_
        refine takeA (N := some 65) 5 HT_ HW_ hHeld ?_
        refine pureA (N := some 66) 6 HT_ ?_
        refine pureA (N := some 67) 7 HT_ ?_
        refine pureA (N := some 68) 8 HT_ ?_
        refine lastA (N := none) 9 HT_ (fun K hK => ?_)
        have hs60 : w59.cell? ⟨gb159, 3, none⟩ = some (.int .i64 a0_3) := bc_ BK159 3
        have hfs60 := blk_frozen BK159.out 3
        have hns60_1 := NB160_159.out
        have hms60_1 := NB159_160.out
        refine skip_ (w1 := ?_) (by rfl) rfl ?_ ?_
        rotate_left
        ·go_simp
         rfl
        refine hK.out _ _ ?_
        clear hK K
        refine done_ (done_of HT_.out (by kernel_rfl)) ?_
        try go_wp2
        first | go_end0 | ((try simp only [Exit.inBlock, Exit.then]); refine bodyPost_ret (results_none rfl _ _ _) rfl ?_)
        exact ⟨_, (bq_ BK159), by first | rfl | (simp [errW_none, errW_some] <;> rfl) | (simp [*, errW_none, errW_some] <;> rfl), by exact rf_ (Kd.R_types HO0_2.out BK159.out (by decide)) (fun _ hk => hk.1), (bw_ w0), by repeat (first | (with_reducible first | exact HK.out | apply Kept.alloc | apply Kept.drewN | apply Kept.drew | refine Kept.setCell ?_ (.inl (.inr rfl)) _ | refine Kept.setCell ?_ (.inr GW160.out) _) | exact HK.out)⟩
       ·rw [if_neg c49] at H
        have c49b0 := beq_eq_false_iff_ne.mpr c49
        have c49b1 := bne_iff_ne.mpr c49
        simp only [Option.some.injEq, Prod.mk.injEq] at H
        obtain ⟨rfl, rfl, rfl, rfl⟩ := H
        go_enter Try.func112, Try.ntmps112
        try go_wp2_with (first | ((with_reducible refine gate_dst (N := 3) rfl ?_); refine box_ (N := 3) (cs := #[.int .i64 a1_0, .int .i64 a1_1, .int .i64 a1_2]) (t := 30) ?_; intro gb160 hg w61 hbox hb; have BK160 := Aside0.mk (hbox); have GW160 := Aside0.mk ((by rw [hg]; exact (by first | exact HK.out.1 | exact (show Kept w _ (fun k_ => (P0_2_ k_) ∨ k_ = gb159) from by repeat (first | (with_reducible first | exact HK.out | apply Kept.alloc | apply Kept.drewN | apply Kept.drew | refine Kept.setCell ?_ (.inl (.inr rfl)) _) | exact HK.out)).1) : w.heap.size ≤ gb160)); have GE160 := gz_ w0 hg; have NB159_160 := ne_ hg BK159; have NB160_159 := en_ hg BK159; replace HO0_2 := Aside0.mk (Kd.R_below (ra_ HO0_2) hb); replace BK159 := bb_ BK159 hb; replace HK := Aside0.mk (Kept.below (S := (fun k_ => (P0_2_ k_) ∨ k_ = gb159)) (by repeat (first | (with_reducible first | exact HK.out | apply Kept.alloc | apply Kept.drewN | apply Kept.drew | refine Kept.setCell ?_ (.inl (.inr rfl)) _) | exact HK.out)) hb); replace HB := hb_ w0 hb; clear hb hbox hg))
        replace HO0_2 := Aside0.mk (Kd.R_drew HO0_2.out)
        replace BK159 := Aside0.mk (blk_drew BK159.out)
        replace BK160 := Aside0.mk (blk_drew BK160.out)
        replace HK := Aside0.mk (Kept.drew HK.out)
        replace HB := Aside0.mk (below_drew1 HB.out)
        have p5 : 0 ≤ (a1_1 : Int) := of_decide_eq_true (by first | (with_reducible assumption) | assumption)
        have q5 : (a1_1 : Int) < ((l0_2.length : Int) : Int) := of_decide_eq_true (by first | (with_reducible assumption) | assumption)
        obtain ⟨go5, co5, eo5, gb5, gl5, cl5, HG5⟩ := Kd.R_form HO0_2.out (by omega)
        (first | cases eo5 | (injection eo5 with ea_ en_ ec_; (first | subst ea_ | (injection ea_ with ea_; subst ea_)); subst ec_; clear en_))
        have GB5 := Aside0.mk gb5
        have GG5 := Aside0.mk HG5
        clear gb5 gl5 HG5
        have HMgo5 := Aside0.mk (show (P0_2_ go5 ∨ w.heap.size ≤ go5) from (HO0_2.out.1 _ rfl))
        obtain ⟨ce5, hcl5, hM5, hcc5, hfr5⟩ := Kd.R_elem HO0_2.out z34 (a1_1 : Int) p5 q5
        obtain rfl := k34_openM hM5
        have hx5_0 : World.cell? _ ⟨go5, (a1_1 : Int).toNat * 5, none⟩ = some (.int .i64 ((rd_T34 l0_2 a1_1).f0)) := hcc5 0 _ rfl
        have hx5_1 : World.cell? _ ⟨go5, (a1_1 : Int).toNat * 5 + 1, none⟩ = some (.int .i64 ((rd_T34 l0_2 a1_1).f1)) := hcc5 1 _ rfl
        have hx5_2 : World.cell? _ ⟨go5, (a1_1 : Int).toNat * 5 + 2, none⟩ = some (.int .i64 ((rd_T34 l0_2 a1_1).f2)) := hcc5 2 _ rfl
        have hx5_3 : World.cell? _ ⟨go5, (a1_1 : Int).toNat * 5 + 3, none⟩ = some (.int .i64 ((rd_T34 l0_2 a1_1).f3)) := hcc5 3 _ rfl
        have hx5_4 : World.cell? _ ⟨go5, (a1_1 : Int).toNat * 5 + 4, none⟩ = some (.int .i64 ((rd_T34 l0_2 a1_1).f4)) := hcc5 4 _ rfl
        have hf5_0 : World.frozen? _ ⟨go5, (a1_1 : Int).toNat * 5, none⟩ = false := hfr5 0
        have hf5_1 : World.frozen? _ ⟨go5, (a1_1 : Int).toNat * 5 + 1, none⟩ = false := hfr5 1
        have hf5_2 : World.frozen? _ ⟨go5, (a1_1 : Int).toNat * 5 + 2, none⟩ = false := hfr5 2
        have hf5_3 : World.frozen? _ ⟨go5, (a1_1 : Int).toNat * 5 + 3, none⟩ = false := hfr5 3
        have hf5_4 : World.frozen? _ ⟨go5, (a1_1 : Int).toNat * 5 + 4, none⟩ = false := hfr5 4
        clear hcl5 hcc5 hfr5 hM5
        replace p5 := eq_true p5
        replace q5 := eq_true q5
        refine start_ (n := 8) (S := fun w' => w'.cell? ⟨gb159, 0, none⟩ = some (.int .i64 a0_0) ∧ w'.cell? ⟨gb159, 1, none⟩ = some (.int .i64 a0_1) ∧ w'.cell? ⟨gb159, 2, none⟩ = some (.slice (some ⟨go5, 0, none⟩) l0_2.length co5) ∧ w'.cell? ⟨gb159, 3, none⟩ = some (.int .i64 a0_3) ∧ w'.cell? ⟨gb160, 0, none⟩ = some (.int .i64 a1_0) ∧ w'.cell? ⟨gb160, 1, none⟩ = some (.int .i64 a1_1) ∧ w'.cell? ⟨gb160, 2, none⟩ = some (.int .i64 a1_2)) (ds := []) #[false, false, false, false, false, false, false, false] (by kernel_rfl) rfl rfl ⟨bc_ BK159 0, bc_ BK159 1, bc_ BK159 2, bc_ BK159 3, bc_ BK160 0, bc_ BK160 1, bc_ BK160 2⟩ (fun hHeld => ?_); refine with_tabW impl_Shop_change.tab1 impl_Shop_change.bits1 (fun HT_ HW_ => ?_)
        generalize w61.drew = w62 at HO0_2 BK159 BK160 HK HB GG5 hf5_0 hf5_1 hf5_2 hf5_3 hf5_4 hx5_0 hx5_1 hx5_2 hx5_3 hx5_4 hHeld ⊢
        refine pureA (N := some 5) 0 HT_ ?_
        refine pureA (N := some 6) 1 HT_ ?_
        refine pureA (N := some 7) 2 HT_ ?_
        refine pureA (N := some 9) 4 HT_ ?_
        refine takeA (N := some 8) 3 HT_ HW_ hHeld ?_
        refine takeA (N := some 10) 5 HT_ HW_ hHeld ?_
        refine pureA (N := some 11) 6 HT_ ?_
        refine pureA (N := some 4) 7 HT_ ?_
        refine done_ (done_of HT_.out (by kernel_rfl)) ?_
        have hnb63 := NB159_160.out
        have hnc63 := NB160_159.out
        obtain ⟨hcz64_0, hcz64_1, hcz64_2, hcz64_3, hfz64_0, hfz64_1, hfz64_2, hfz64_3⟩ := bc4_ (w := w62) BK159
        have HX65 := Aside0.mk (show Kd.R k34 34 w62 w0.heap.size (fun k_ => (P0_2_ k_ ∨ w.heap.size ≤ k_)) (.slice (some ⟨go5, 0, none⟩) l0_2.length co5) l0_2 from (ra_ HO0_2))
        obtain ⟨ce65, hcl65, hM65, hcc65, hfr65⟩ := Kd.R_elem HX65.out z34 (a1_1 : Int) (of_decide_eq_true (by first | (with_reducible assumption) | assumption)) (by have h_ : (a1_1 : Int) < ((l0_2.length : Int) : Int) := of_decide_eq_true (by first | (with_reducible assumption) | assumption); first | exact h_ | (have e_ := (Kd.R_reads' HO0_2.out).1; omega) | simpa using h_)
        obtain rfl := k34_openM hM65
        have HP65 := Kd.R_seg HX65.out (a1_1 : Int) (of_decide_eq_true (by first | (with_reducible assumption) | assumption)) (by have h_ : (a1_1 : Int) < ((l0_2.length : Int) : Int) := of_decide_eq_true (by first | (with_reducible assumption) | assumption); first | exact h_ | (have e_ := (Kd.R_reads' HO0_2.out).1; omega) | simpa using h_) (seg := [.int .i64 a0_0]) (j := 4) hcl65 hcc65 (show 5 ≤ 5 from by decide) (x' := (⟨(rd_T34 l0_2 a1_1).f0, (rd_T34 l0_2 a1_1).f1, (rd_T34 l0_2 a1_1).f2, (rd_T34 l0_2 a1_1).f3, a0_0⟩ : S34)) (k34_mkM _ _ _ (⟨(rd_T34 l0_2 a1_1).f0, (rd_T34 l0_2 a1_1).f1, (rd_T34 l0_2 a1_1).f2, (rd_T34 l0_2 a1_1).f3, a0_0⟩ : S34) ) (fun _ hk => hk)
        have hx65_4 := hcc65 4 _ rfl
        (try simp only [show (k34).sz = 5 from rfl, Nat.mul_one, Nat.add_zero] at hx65_4)
        have hf65_4 := hfr65 4
        (try simp only [show (k34).sz = 5 from rfl, Nat.mul_one, Nat.add_zero] at hf65_4)
        clear hcl65 hcc65 hfr65 hM65
        try go_wp2_with (first | ((with_reducible refine gate_store (t := 3) (p := 18) rfl ?_); refine store_event (t := 3) (p := 18) (v := ?vo_w66) (w1 := (w62.setCell ⟨go5, (a1_1 : Int).toNat * 5 + 4, none⟩ (.int .i64 a0_0))) ?hg ?ho ?hn ?hr ?_; (case ho => rfl); (case hg => rfl); (case hn => rfl); (case hr => first | (go_simp; done) | (go_simp; rfl)); intro w66 hw; have hg : w62.grownBy w66 (some go5) := (by rw [hw]; exact HP65.2); have hp_ : Kd.R k34 34 w66 w0.heap.size (fun k_ => (P0_2_ k_ ∨ w.heap.size ≤ k_)) (.slice (some ⟨go5, 0, none⟩) l0_2.length co5) y161 := (by rw [hw, Ny161.out]; exact HP65.1); clear HP65; replace BK159 := Aside0.mk (blk_grown (g := gb159) (o := .cells #[.int .i64 a0_0, .int .i64 a0_1, .slice (some ⟨go5, 0, none⟩) l0_2.length co5, .int .i64 a0_3] 24 (0, 0)) (bk_ BK159) hg (Kd.R_ne HO0_2.out BK159.out (by decide))); replace BK160 := Aside0.mk (blk_grown (g := gb160) (o := .cells #[.int .i64 a1_0, .int .i64 a1_1, .int .i64 a1_2] 30 (0, 0)) (bk_ BK160) hg (Kd.R_ne HO0_2.out BK160.out (by decide))); replace HK := Aside0.mk (Kept.of_grown (S := (fun k_ => (P0_2_ k_) ∨ k_ = gb159)) hg (by repeat (first | (with_reducible first | exact HK.out | apply Kept.alloc | apply Kept.drewN | apply Kept.drew | refine Kept.setCell ?_ (.inl (.inr rfl)) _ | refine Kept.setCell ?_ (.inr GW160.out) _) | exact HK.out)) (fun k_ e_ => Or.imp_left Or.inl ((HO0_2.out.1 k_ e_)))); replace HO0_2 := Aside0.mk (hp_); replace HB := Aside0.mk ((by rw [hw]; exact below_set (HB.out) GB5.out : Below w0.heap.size w0 w66)); clear hg hw hp_; obtain ⟨hcz67_0, hcz67_1, hcz67_2, hfz67_0, hfz67_1, hfz67_2⟩ := bc3_ (w := w66) BK160))
        first | go_end0 | ((try simp only [Exit.inBlock, Exit.then]); refine bodyPost_ret (results_none rfl _ _ _) rfl ?_)
        exact ⟨_, (bk_ BK159), by first | rfl | (simp [errW_none, errW_some] <;> rfl) | (simp [*, errW_none, errW_some] <;> rfl), by (with_reducible repeat (first | apply Kd.R_alloc | apply Kd.R_drewN | apply Kd.R_drew)); exact HO0_2.out, (bw_ w0), by repeat (first | (with_reducible first | exact HK.out | apply Kept.alloc | apply Kept.drewN | apply Kept.drew | refine Kept.setCell ?_ (.inl (.inr rfl)) _ | refine Kept.setCell ?_ (.inr GW160.out) _) | exact HK.out)⟩
  ·rw [if_neg c4] at H
   exact absurd H (by simp)
 ·rw [if_neg c3] at H
  exact absurd H (by simp)

end Go.Proofs.Ytahglcpndiadnaa.PFnExactRunShop
