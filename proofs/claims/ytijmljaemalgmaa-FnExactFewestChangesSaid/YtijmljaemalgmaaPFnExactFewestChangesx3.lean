-- Printed by this session's own program (wip/tool/myprint.py, over the kit's print); Lean checks it.
import Derived.Test.YtijmljaemalgmaaPFnExactFewestChangesx0
import Derived.Test.YtijmljaemalgmaaPFnExactFewestChangesx2
namespace Go.Proofs.Ytijmljaemalgmaa.PFnExactFewestChanges
open Go.RowKit Go.Proofs.YtijmljaemalgmaaW.PrintWords Go.Proofs.YtijmljaemalgmaaW.PrintLast Go.Proofs.YtijmljaemalgmaaW.PrintMore
attribute [local go_sem] max2_int min2_int max_two min_two max_three min_three max_four min_four   -- for this text's walks alone
set_option linter.unusedVariables false
set_option linter.unusedSimpArgs false

/-! ### spec_l4Move: function 152 -/
mutual
def spec_l4Move.j0 : Nat → Int → Int → Int → List Int → Option (Int × Int × List Int)
  | 0, _, _, _, _ => none
  | k + 1, x1, x172000, x172001, x172002 => spec_l4Move.l0 k x1 0 x172000 x172001 x172002
def spec_l4Move.l0 : Nat → Int → Int → Int → Int → List Int → Option (Int × Int × List Int)
  | 0, _, _, _, _, _ => none
  | k + 1, x1, x6, x172000, x172001, x172002 => if x6 < (Int.tmod x1 4) then ((spec_l4Turn.f k x172000 x172001 x172002).bind fun bt177 => (spec_l4Move.l0 k x1 (wrap64 (x6 + 1)) bt177.1 bt177.2.1 bt177.2.2)) else (some (x172000, x172001, x172002))
end
def spec_l4Move.f (k : Nat) (a0_0 : Int) (a0_1 : Int) (l0_2 : List Int) (a1 : Int) : Option (Int × Int × List Int) := (spec_l2Own.f a0_0 a0_1 l0_2).bind fun bt166 => (if a1 ≥ 4 then ((spec_l4Mirror.f k bt166.1 bt166.2.1 bt166.2.2).bind fun bt172 => (spec_l4Move.j0 k a1 bt172.1 bt172.2.1 bt172.2.2)) else (spec_l4Move.j0 k a1 bt166.1 bt166.2.1 bt166.2.2))
theorem spec_l4Move.mono_l : ∀ k, (∀ y0 y1 y2 y3, LeO (spec_l4Move.j0 k y0 y1 y2 y3) (spec_l4Move.j0 (k + 1) y0 y1 y2 y3)) ∧ (∀ y0 y1 y2 y3 y4, LeO (spec_l4Move.l0 k y0 y1 y2 y3 y4) (spec_l4Move.l0 (k + 1) y0 y1 y2 y3 y4))
  | 0 => ⟨fun _ _ _ _ r h => by simp [spec_l4Move.j0] at h, fun _ _ _ _ _ r h => by simp [spec_l4Move.l0] at h⟩
  | k + 1 => by
    obtain ⟨ih0, ih1⟩ := spec_l4Move.mono_l k
    refine ⟨?_, ?_⟩
    · intro y0 y1 y2 y3
      unfold spec_l4Move.j0
      repeat' first
      | (with_reducible exact ih0 _ _ _ _)
      | (with_reducible exact ih1 _ _ _ _ _)
      | (with_reducible exact spec_l4Mirror.mono _ _ _ _)
      | (with_reducible exact spec_l4Turn.mono _ _ _ _)
      | (with_reducible exact LeO.refl _)
      | (with_reducible exact LeO.none _)
      | (with_reducible refine LeO.ite ?_ ?_)
      | (with_reducible refine LeO.bind ?_ (fun _ => ?_))
      | exact ih0 _ _ _ _
      | exact ih1 _ _ _ _ _
      | exact spec_l4Mirror.mono _ _ _ _
      | exact spec_l4Turn.mono _ _ _ _
      | exact LeO.none _
      | refine LeO.ite ?_ ?_
      | refine LeO.bind ?_ (fun _ => ?_)
    · intro y0 y1 y2 y3 y4
      unfold spec_l4Move.l0
      repeat' first
      | (with_reducible exact ih0 _ _ _ _)
      | (with_reducible exact ih1 _ _ _ _ _)
      | (with_reducible exact spec_l4Mirror.mono _ _ _ _)
      | (with_reducible exact spec_l4Turn.mono _ _ _ _)
      | (with_reducible exact LeO.refl _)
      | (with_reducible exact LeO.none _)
      | (with_reducible refine LeO.ite ?_ ?_)
      | (with_reducible refine LeO.bind ?_ (fun _ => ?_))
      | exact ih0 _ _ _ _
      | exact ih1 _ _ _ _ _
      | exact spec_l4Mirror.mono _ _ _ _
      | exact spec_l4Turn.mono _ _ _ _
      | exact LeO.none _
      | refine LeO.ite ?_ ?_
      | refine LeO.bind ?_ (fun _ => ?_)
theorem spec_l4Move.mono : ∀ a0 a1 a2 a3 k, LeO (spec_l4Move.f k a0 a1 a2 a3) (spec_l4Move.f (k + 1) a0 a1 a2 a3) := by
  intro a0 a1 a2 a3 k
  obtain ⟨ih0, ih1⟩ := spec_l4Move.mono_l k
  unfold spec_l4Move.f
  repeat' first
      | (with_reducible exact ih0 _ _ _ _)
      | (with_reducible exact ih1 _ _ _ _ _)
      | (with_reducible exact spec_l4Mirror.mono _ _ _ _)
      | (with_reducible exact spec_l4Turn.mono _ _ _ _)
      | (with_reducible exact LeO.refl _)
      | (with_reducible exact LeO.none _)
      | (with_reducible refine LeO.ite ?_ ?_)
      | (with_reducible refine LeO.bind ?_ (fun _ => ?_))
      | exact ih0 _ _ _ _
      | exact ih1 _ _ _ _ _
      | exact spec_l4Mirror.mono _ _ _ _
      | exact spec_l4Turn.mono _ _ _ _
      | exact LeO.none _
      | refine LeO.ite ?_ ?_
      | refine LeO.bind ?_ (fun _ => ?_)
set_option maxHeartbeats 8000000 in
set_option maxRecDepth 100000 in
theorem spec_l4Move.calls (k : Nat) (a0_0 : Int) (a0_1 : Int) (A0_2 : Option Addr) (c0_2 : Nat) (l0_2 : List Int) (a1 : Int) (r1 : Int) (r2 : Int) (r3 : List Int) (w : World) (hr0_2 : Kd.C (Kd.int .i64) w A0_2 l0_2.length l0_2) (hc0_2 : l0_2.length ≤ c0_2) (h : spec_l4Move.f k a0_0 a0_1 l0_2 a1 = some (r1, r2, r3)) :
  Calls Try.prog 152 #[.agg #[.int .i64 a0_0, .int .i64 a0_1, .slice A0_2 l0_2.length c0_2], .int .i64 a1] w fun e w' => ∃ v2_ : Value, e = .returned (.agg #[.int .i64 r1, .int .i64 r2, v2_]) ∧ Kd.R (Kd.int .i64) 3 w' w.heap.size (fun _ => True) v2_ r3 ∧ Below w.heap.size w w' := by
 have hu26 := Try.underlying26
 have HR0_2 := Aside0.mk hr0_2
 have HC0_2 := Aside0.mk hc0_2
 clear hr0_2 hc0_2
 have HB := Aside0.mk (Below.refl w.heap.size w)
 have H : ((spec_l2Own.f a0_0 a0_1 l0_2).bind fun bt166 => (if a1 ≥ 4 then ((spec_l4Mirror.f k bt166.1 bt166.2.1 bt166.2.2).bind fun bt172 => (spec_l4Move.j0 k a1 bt172.1 bt172.2.1 bt172.2.2)) else (spec_l4Move.j0 k a1 bt166.1 bt166.2.1 bt166.2.2))) = some (r1, r2, r3) := h
 clear h
 replace H := Option.bind_eq_some_iff.mp H
 obtain ⟨⟨t166, t167, t168⟩, A30, H⟩ := H
 replace H : (if a1 ≥ 4 then ((spec_l4Mirror.f k t166 t167 t168).bind fun bt172 => (spec_l4Move.j0 k a1 bt172.1 bt172.2.1 bt172.2.2)) else (spec_l4Move.j0 k a1 t166 t167 t168)) = some (r1, r2, r3) := H
 have A3 := Aside0.mk A30
 clear A30
 have HC4 := Aside0.mk H
 clear H
 go_enter Try.func152, Try.ntmps152
 go_upto_if 10 with (first | ((with_reducible refine gate_dst (N := 2) rfl ?_); refine box_ (N := 2) (cs := #[.int .i64 a0_0, .int .i64 a0_1, .slice A0_2 l0_2.length c0_2]) (t := 26) ?_; intro gb164 hg w5 hbox hb; have BK164 := Aside0.mk (hbox); have GW164 := gz_ w hg; have GE164 := gz_ w hg; replace HB := Aside0.mk (below_step (bw_ w) hb); clear hb hbox hg) | ((with_reducible refine gate_dst (N := 4) rfl ?_); refine box_ (N := 4) (cs := #[.int .i64 0, .int .i64 0, .slice none 0 0]) (t := 26) ?_; intro gb165 hg w6 hbox hb; have n0_ := bb_ BK164 hb; have n1_ := Aside0.mk (below_step (bw_ w) hb); have n2_ := Aside0.mk (hbox); have n3_ := gz_ w hg; have n4_ := gz_ w hg; have n5_ := ne_ hg BK164; have n6_ := en_ hg BK164; clear BK164; clear HB; have BK164 := n0_; have HB := n1_; have BK165 := n2_; have GW165 := n3_; have GE165 := n4_; have NB164_165 := n5_; have NB165_164 := n6_; clear n0_ n1_ n2_ n3_ n4_ n5_ n6_; clear hb hbox hg; have hnb7 := NB164_165.out; have hnc7 := NB165_164.out; obtain ⟨hcz8_0, hcz8_1, hcz8_2, hfz8_0, hfz8_1, hfz8_2⟩ := bc3_ (w := w6) BK164) | ((with_reducible refine gate_callee (f := 135) rfl ?_); refine goesB (some 8) Try.func135 #[.agg #[.int .i64 a0_0, .int .i64 a0_1, .slice A0_2 l0_2.length c0_2]] ?_; (with_reducible refine (spec_l2Own.calls a0_0 a0_1 _ _ l0_2 t166 t167 t168 _ ?side1 ?side2 A3.out).mono ?_); (case side1 => exact cb_ HR0_2 HB); (case side2 => exact HC0_2.out); rintro e w9 ⟨v169, rfl, ho0, hb⟩; refine ⟨_, rfl, ?_⟩; have HO170 := Aside0.mk (Kd.R_lower ho0 (below_size (bw_ w))); replace BK164 := bb_ BK164 hb; replace BK165 := bb_ BK165 hb; replace HB := Aside0.mk (below_step (bw_ w) hb); (try clear hb); (try clear hb2); (try clear hk); (try clear hi); (try clear ho0)) | ((with_reducible refine gate_dst (N := 5) rfl ?_); refine box_ (N := 5) (cs := #[.int .i64 0, .int .i64 0, .slice none 0 0]) (t := 26) ?_; intro gb171 hg w10 hbox hb; have n0_ := Aside0.mk (Kd.R_below (ra_ HO170) hb); have n1_ := bb_ BK164 hb; have n2_ := bb_ BK165 hb; have n3_ := Aside0.mk (below_step (bw_ w) hb); have n4_ := Aside0.mk (hbox); have n5_ := gz_ w hg; have n6_ := gz_ w hg; have n7_ := ne_ hg BK164; have n8_ := en_ hg BK164; have n9_ := ne_ hg BK165; have n10_ := en_ hg BK165; clear HO170; clear BK164; clear BK165; clear HB; have HO170 := n0_; have BK164 := n1_; have BK165 := n2_; have HB := n3_; have BK171 := n4_; have GW171 := n5_; have GE171 := n6_; have NB164_171 := n7_; have NB171_164 := n8_; have NB165_171 := n9_; have NB171_165 := n10_; clear n0_ n1_ n2_ n3_ n4_ n5_ n6_ n7_ n8_ n9_ n10_; clear hb hbox hg; have hnb11 := NB171_164.out; have hnc11 := NB164_171.out; have hnb12 := NB171_165.out; have hnc12 := NB165_171.out; obtain ⟨hcz13_0, hcz13_1, hcz13_2, hfz13_0, hfz13_1, hfz13_2⟩ := bc3_ (w := w10) BK171; obtain ⟨Ao14, co14, eo14⟩ := Kd.R_slice HO170.out; subst eo14))
 (try simp only [Act.put, List.setIfInBounds_toArray, List.set_cons_zero, List.set_cons_succ])
 go_cut [] (fun wc => ∃ (kq : Nat) (x172000_3 : Int) (x172001_3 : Int) (x172002_3 : List Int) (u172002 : Value), Aside0 (spec_l4Move.j0 kq a1 x172000_3 x172001_3 x172002_3 = some (r1, r2, r3)) ∧ Aside0 (kq ≤ k) ∧ Aside0 (Kd.R (Kd.int .i64) 3 wc w.heap.size (fun _ => True) u172002 x172002_3) ∧ Aside0 (wc.heap[gb164]? = some (.cells #[.int .i64 a0_0, .int .i64 a0_1, (.slice A0_2 l0_2.length c0_2)] 26 (0, 0))) ∧ Aside0 (wc.heap[gb165]? = some (.cells #[.int .i64 0, .int .i64 0, (.slice none 0 0)] 26 (0, 0))) ∧ Aside0 (wc.heap[gb171]? = some (.cells #[.int .i64 x172000_3, .int .i64 x172001_3, u172002] 26 (0, 0))) ∧ Aside0 (Below w.heap.size w wc))
 case first =>
  have H := HC4.out
  clear HC4
  by_cases c15 : a1 ≥ 4
  ·rw [if_pos c15] at H
   have c15b0 : decide (4 ≤ a1) = true := decide_eq_true c15
   clear c15
   (first | rw [c15b0] | (simp only [i64_w, i32_w]; rw [c15b0]) | skip)
   replace H := Option.bind_eq_some_iff.mp H
   obtain ⟨⟨t172, t173, t174⟩, A160, H⟩ := H
   replace H : (spec_l4Move.j0 k a1 t172 t173 t174) = some (r1, r2, r3) := H
   have A16 := Aside0.mk A160
   clear A160
   have H' := Aside0.mk H
   clear H
   have hnb17 := NB171_164.out
   have hnc17 := NB164_171.out
   have hnb18 := NB171_165.out
   have hnc18 := NB165_171.out
   obtain ⟨hcz19_0, hcz19_1, hcz19_2, hfz19_0, hfz19_1, hfz19_2⟩ := bc3_ (w := w10) BK171
   go_wp2_with (first | ((with_reducible refine gate_callee (f := 161) rfl ?_); refine goesB (some 12) Try.func161 #[.agg #[.int .i64 t166, .int .i64 t167, .slice Ao14 t168.length co14]] ?_; (with_reducible refine (spec_l4Mirror.calls k t166 t167 _ _ t168 t172 t173 t174 _ ?side1 ?side2 A16.out).mono ?_); (case side1 => refine (Kd.R_reads' (e := 3) (base := w.heap.size) (ok := fun k_ => True) (n := t168.length) (c := co14) ?_).2.2; exact (by exact rf_ (Kd.R_types HO170.out BK171.out (by decide)) (fun _ h_ => h_.1))); (case side2 => exact (Kd.R_reads' HO170.out).2.1); rintro e w20 ⟨v175, rfl, ho0, hb⟩; refine ⟨_, rfl, ?_⟩; have n0_ := Aside0.mk (Kd.R_elder' (by exact rf_ (Kd.R_types HO170.out BK171.out (by decide)) (fun _ h_ => h_.1)) (Kd.R_base ho0) hb); have n1_ := Aside0.mk (Kd.R_lower (Kd.R_new' ho0 (Kd.R_lt (by exact rf_ (Kd.R_types HO170.out BK171.out (by decide)) (fun _ h_ => h_.1)))) (below_size (bw_ w))); have n2_ := bb_ BK164 hb; have n3_ := bb_ BK165 hb; have n4_ := Aside0.mk (blk_below (g := gb171) (o := .cells #[.int .i64 t166, .int .i64 t167, .slice Ao14 t168.length co14] 26 (0, 0)) (bq_ BK171) hb); have n5_ := Aside0.mk (below_step (bw_ w) hb); clear HO170; clear BK164; clear BK165; clear BK171; clear HB; have HO170 := n0_; have HO176 := n1_; have BK164 := n2_; have BK165 := n3_; have BK171 := n4_; have HB := n5_; clear n0_ n1_ n2_ n3_ n4_ n5_; (try clear hb); (try clear hb2); (try clear hk); (try clear hi); (try clear ho0); obtain ⟨hcz21_0, hcz21_1, hcz21_2, hfz21_0, hfz21_1, hfz21_2⟩ := bc3_ (w := w20) BK171; obtain ⟨Ao22, co22, eo22⟩ := Kd.R_slice HO176.out; subst eo22))
   go_meet
   case rel => exact ⟨_, (t172), (t173), (t174), (.slice Ao22 t174.length co22), H', ⟨by first | omega | exact Nat.le_refl _⟩, ⟨by exact rf_ (Kd.R_types HO176.out BK171.out (by decide)) (fun _ hk => trivial)⟩, ⟨bk_ BK164⟩, ⟨bk_ BK165⟩, ⟨bq_ BK171⟩, ⟨(bw_ w)⟩⟩
  ·rw [if_neg c15] at H
   have c15b0 : decide (4 ≤ a1) = false := decide_eq_false c15
   clear c15
   (first | rw [c15b0] | (simp only [i64_w, i32_w]; rw [c15b0]) | skip)
   have H' := Aside0.mk H
   clear H
   go_wp2
   go_meet
   case rel => exact ⟨_, (t166), (t167), (t168), (.slice Ao14 t168.length co14), H', ⟨by first | omega | exact Nat.le_refl _⟩, ⟨by exact rf_ (Kd.R_types HO170.out BK171.out (by decide)) (fun _ hk => trivial)⟩, ⟨bk_ BK164⟩, ⟨bk_ BK165⟩, ⟨bq_ BK171⟩, ⟨(bw_ w)⟩⟩
 case rest =>
  clear HC4
  try clear c1
  try clear p2
  try clear c7
  try clear c11
  try clear c12
  try clear c13
  try clear c15
  try clear c15b0
  try clear c16
  try clear c17
  try clear c18
  try clear hcz13_0
  try clear hcz13_1
  try clear hcz13_2
  try clear hcz19_0
  try clear hcz19_1
  try clear hcz19_2
  try clear hcz21_0
  try clear hcz21_1
  try clear hcz21_2
  try clear hcz8_0
  try clear hcz8_1
  try clear hcz8_2
  try clear hfz13_0
  try clear hfz13_1
  try clear hfz13_2
  try clear hfz19_0
  try clear hfz19_1
  try clear hfz19_2
  try clear hfz21_0
  try clear hfz21_1
  try clear hfz21_2
  try clear hfz8_0
  try clear hfz8_1
  try clear hfz8_2
  obtain ⟨kq, x172000_3, x172001_3, x172002_3, u172002, HA, HJ3, HO_172002, BK164, BK165, BK171, HB⟩ := hcut
  cases kq with
  | zero => exact absurd HA.out (by simp [spec_l4Move.j0])
  | succ kj3 =>
   have H := HA.out
   clear HA
   simp only [spec_l4Move.j0] at H
   have H' := Aside0.mk H
   clear H
   go_wp2
   go_loopg [6] kj3 (fun kq v6 w' => ∃ (x6_2 : Int) (x172000_2 : Int) (x172001_2 : Int) (x172002_2 : List Int) (u172002 : Value), v6 = .int .i64 x6_2 ∧ Aside0 (spec_l4Move.l0 kq a1 x6_2 x172000_2 x172001_2 x172002_2 = some (r1, r2, r3)) ∧ Aside0 (kq ≤ kj3) ∧ Aside0 (Kd.R (Kd.int .i64) 3 w' w.heap.size (fun _ => True) u172002 x172002_2) ∧ Aside0 (w'.heap[gb164]? = some (.cells #[.int .i64 a0_0, .int .i64 a0_1, (.slice A0_2 l0_2.length c0_2)] 26 (0, 0))) ∧ Aside0 (w'.heap[gb165]? = some (.cells #[.int .i64 0, .int .i64 0, (.slice none 0 0)] 26 (0, 0))) ∧ Aside0 (w'.heap[gb171]? = some (.cells #[.int .i64 x172000_2, .int .i64 x172001_2, u172002] 26 (0, 0))) ∧ Aside0 (Below w.heap.size w w'))
   case atStart => exact ⟨(0), (x172000_3), (x172001_3), (x172002_3), (u172002), (by first | rfl | (simp; done) | (simp [*]; done)), H', ⟨Nat.le_refl _⟩, ⟨ra_ HO_172002⟩, ⟨bk_ BK164⟩, ⟨bk_ BK165⟩, ⟨bk_ BK171⟩, ⟨(bw_ w)⟩⟩
   case round =>
    clear H'
    try clear c1
    try clear p2
    try clear c7
    try clear c11
    try clear c12
    try clear c13
    try clear c15
    try clear c15b0
    try clear c16
    try clear c17
    try clear c18
    try clear hcz13_0
    try clear hcz13_1
    try clear hcz13_2
    try clear hcz19_0
    try clear hcz19_1
    try clear hcz19_2
    try clear hcz21_0
    try clear hcz21_1
    try clear hcz21_2
    try clear hcz8_0
    try clear hcz8_1
    try clear hcz8_2
    try clear hfz13_0
    try clear hfz13_1
    try clear hfz13_2
    try clear hfz19_0
    try clear hfz19_1
    try clear hfz19_2
    try clear hfz21_0
    try clear hfz21_1
    try clear hfz21_2
    try clear hfz8_0
    try clear hfz8_1
    try clear hfz8_2
    try clear p2
    obtain ⟨x6_2, x172000_2, x172001_2, x172002_2, u172002, rfl, HA, HK2, HO_172002, BK164, BK165, BK171, HB⟩ := hrel
    cases gk with
    | zero => exact absurd HA.out (by simp [spec_l4Move.l0])
    | succ k2 =>
     have H := HA.out
     clear HA
     simp only [spec_l4Move.l0] at H
     by_cases c23 : x6_2 < (Int.tmod a1 4)
     ·rw [if_pos c23] at H
      have c23b0 : decide (x6_2 < (Int.tmod a1 4)) = true := decide_eq_true c23
      clear c23
      replace H := Option.bind_eq_some_iff.mp H
      obtain ⟨⟨t177, t178, t179⟩, A240, H⟩ := H
      replace H : (spec_l4Move.l0 k2 a1 (wrap64 (x6_2 + 1)) t177 t178 t179) = some (r1, r2, r3) := H
      have A24 := Aside0.mk A240
      clear A240
      have H' := Aside0.mk H
      clear H
      have hnb25 := NB171_164.out
      have hnc25 := NB164_171.out
      have hnb26 := NB171_165.out
      have hnc26 := NB165_171.out
      obtain ⟨hcz27_0, hcz27_1, hcz27_2, hfz27_0, hfz27_1, hfz27_2⟩ := bc3_ (w := wr) BK171
      obtain ⟨Ao28, co28, eo28⟩ := Kd.R_slice HO_172002.out
      subst eo28
      go_wp2_with (first | ((with_reducible refine gate_callee (f := 160) rfl ?_); refine goesB (some 20) Try.func160 #[.agg #[.int .i64 x172000_2, .int .i64 x172001_2, .slice Ao28 x172002_2.length co28]] ?_; (with_reducible refine (spec_l4Turn.calls k2 x172000_2 x172001_2 _ _ x172002_2 t177 t178 t179 _ ?side1 ?side2 A24.out).mono ?_); (case side1 => exact co_ (Kd.R_reads' HO_172002.out).2.2); (case side2 => exact (Kd.R_reads' HO_172002.out).2.1); rintro e w29 ⟨v180, rfl, ho0, hb⟩; refine ⟨_, rfl, ?_⟩; have n0_ := Aside0.mk (Kd.R_elder' (ra_ HO_172002) (Kd.R_base ho0) hb); have n1_ := Aside0.mk (Kd.R_lower (Kd.R_new' ho0 (Kd.R_lt (ra_ HO_172002))) (below_size (bw_ w))); have n2_ := bb_ BK164 hb; have n3_ := bb_ BK165 hb; have n4_ := bb_ BK171 hb; have n5_ := Aside0.mk (below_step (bw_ w) hb); clear HO_172002; clear BK164; clear BK165; clear BK171; clear HB; have HO_172002 := n0_; have HO181 := n1_; have BK164 := n2_; have BK165 := n3_; have BK171 := n4_; have HB := n5_; clear n0_ n1_ n2_ n3_ n4_ n5_; (try clear hb); (try clear hb2); (try clear hk); (try clear hi); (try clear ho0); obtain ⟨hcz30_0, hcz30_1, hcz30_2, hfz30_0, hfz30_1, hfz30_2⟩ := bc3_ (w := w29) BK171; obtain ⟨Ao31, co31, eo31⟩ := Kd.R_slice HO181.out; subst eo31))
      go_roundg k2
      case measure => have := HJ3.out; have := HK2.out; omega
      case rel => exact ⟨(wrap64 (x6_2 + 1)), (t177), (t178), (t179), (.slice Ao31 t179.length co31), (by first | rfl | (simp; done) | (simp [*]; done)), H', ⟨by have := HJ3.out; have := HK2.out; omega⟩, ⟨by exact rf_ (Kd.R_types HO181.out BK171.out (by decide)) (fun _ hk => trivial)⟩, ⟨bk_ BK164⟩, ⟨bk_ BK165⟩, ⟨bq_ BK171⟩, ⟨(bw_ w)⟩⟩
     ·rw [if_neg c23] at H
      have c23b0 : decide (x6_2 < (Int.tmod a1 4)) = false := decide_eq_false c23
      clear c23
      simp only [Option.some.injEq, Prod.mk.injEq] at H
      obtain ⟨rfl, rfl, rfl⟩ := H
      have hnb32 := NB171_164.out
      have hnc32 := NB164_171.out
      have hnb33 := NB171_165.out
      have hnc33 := NB165_171.out
      obtain ⟨hcz34_0, hcz34_1, hcz34_2, hfz34_0, hfz34_1, hfz34_2⟩ := bc3_ (w := wr) BK171
      have hnb35 := NB165_164.out
      have hnc35 := NB164_165.out
      obtain ⟨hcz36_0, hcz36_1, hcz36_2, hfz36_0, hfz36_1, hfz36_2⟩ := bc3_ (w := wr) BK165
      obtain ⟨Ao37, co37, eo37⟩ := Kd.R_slice HO_172002.out
      subst eo37
      go_wp2
      refine bodyPost_ret (results_cell_row rfl _ _ gb165 26 #[.int .i64 x172000_2, .int .i64 x172001_2, .slice Ao37 x172002_2.length co37] (0, 0) _ rfl (bq_ BK165) Try.underlying26 rfl (by kernel_rfl)) rfl ?_
      exact ⟨_, by first | rfl | (simp [errW_none, errW_some] <;> rfl) | (simp [*, errW_none, errW_some] <;> rfl), by exact rf_ (Kd.R_types HO_172002.out BK165.out (by decide)) (fun _ hk => trivial), (bw_ w)⟩

/-! ### spec_l4Places: function 235 -/
mutual
def spec_l4Places.l0 : Nat → Int → Int → List Int → Int → Int → List Int → Option (List Int)
  | 0, _, _, _, _, _, _ => none
  | k + 1, x1, x6, x13, x183000, x183001, x183002 => if x6 < (x183002.length : Int) then (if 0 ≤ (x183002.length : Int) then (if ((x183002.length : Int) : Int).toNat ≤ 35184372088832 then ((some (List.replicate ((x183002.length : Int) : Int).toNat 0 : List Int)).bind fun y186 => (if 0 ≤ x6 then (if x6 < (y186.length : Int) then ((spec_l4Move.f k x183000 x183001 (y186.set (x6 : Int).toNat 1) x1).bind fun bt191 => (spec_l4Places.l1 k x1 x6 0 x13 x183000 x183001 x183002 bt191.1 bt191.2.1 bt191.2.2)) else (none)) else (none))) else (none)) else (none)) else (some x13)
def spec_l4Places.l1 : Nat → Int → Int → Int → List Int → Int → Int → List Int → Int → Int → List Int → Option (List Int)
  | 0, _, _, _, _, _, _, _, _, _, _ => none
  | k + 1, x1, x6, x9, x13, x183000, x183001, x183002, x197000, x197001, x197002 => if x9 < (x197002.length : Int) then (if 0 ≤ x9 then (if (rd x197002 x9) = 1 then (if 0 ≤ x6 then (if x6 < (x13.length : Int) then (spec_l4Places.l1 k x1 x6 (wrap64 (x9 + 1)) (x13.set (x6 : Int).toNat x9) x183000 x183001 x183002 x197000 x197001 x197002) else (none)) else (none)) else (spec_l4Places.l1 k x1 x6 (wrap64 (x9 + 1)) x13 x183000 x183001 x183002 x197000 x197001 x197002)) else (none)) else (spec_l4Places.l0 k x1 (wrap64 (x6 + 1)) x13 x183000 x183001 x183002)
end
def spec_l4Places.f (k : Nat) (a0_0 : Int) (a0_1 : Int) (l0_2 : List Int) (a1 : Int) : Option (List Int) := if 0 ≤ (l0_2.length : Int) then (if ((l0_2.length : Int) : Int).toNat ≤ 35184372088832 then (spec_l4Places.l0 k a1 0 (List.replicate ((l0_2.length : Int) : Int).toNat 0) a0_0 a0_1 l0_2) else (none)) else (none)
theorem spec_l4Places.mono_l : ∀ k, (∀ y0 y1 y2 y3 y4 y5, LeO (spec_l4Places.l0 k y0 y1 y2 y3 y4 y5) (spec_l4Places.l0 (k + 1) y0 y1 y2 y3 y4 y5)) ∧ (∀ y0 y1 y2 y3 y4 y5 y6 y7 y8 y9, LeO (spec_l4Places.l1 k y0 y1 y2 y3 y4 y5 y6 y7 y8 y9) (spec_l4Places.l1 (k + 1) y0 y1 y2 y3 y4 y5 y6 y7 y8 y9))
  | 0 => ⟨fun _ _ _ _ _ _ r h => by simp [spec_l4Places.l0] at h, fun _ _ _ _ _ _ _ _ _ _ r h => by simp [spec_l4Places.l1] at h⟩
  | k + 1 => by
    obtain ⟨ih0, ih1⟩ := spec_l4Places.mono_l k
    refine ⟨?_, ?_⟩
    · intro y0 y1 y2 y3 y4 y5
      unfold spec_l4Places.l0
      repeat' first
      | (with_reducible exact ih0 _ _ _ _ _ _)
      | (with_reducible exact ih1 _ _ _ _ _ _ _ _ _ _)
      | (with_reducible exact spec_l4Move.mono _ _ _ _ _)
      | (with_reducible exact LeO.refl _)
      | (with_reducible exact LeO.none _)
      | (with_reducible refine LeO.ite ?_ ?_)
      | (with_reducible refine LeO.bind ?_ (fun _ => ?_))
      | exact ih0 _ _ _ _ _ _
      | exact ih1 _ _ _ _ _ _ _ _ _ _
      | exact spec_l4Move.mono _ _ _ _ _
      | exact LeO.none _
      | refine LeO.ite ?_ ?_
      | refine LeO.bind ?_ (fun _ => ?_)
    · intro y0 y1 y2 y3 y4 y5 y6 y7 y8 y9
      unfold spec_l4Places.l1
      repeat' first
      | (with_reducible exact ih0 _ _ _ _ _ _)
      | (with_reducible exact ih1 _ _ _ _ _ _ _ _ _ _)
      | (with_reducible exact spec_l4Move.mono _ _ _ _ _)
      | (with_reducible exact LeO.refl _)
      | (with_reducible exact LeO.none _)
      | (with_reducible refine LeO.ite ?_ ?_)
      | (with_reducible refine LeO.bind ?_ (fun _ => ?_))
      | exact ih0 _ _ _ _ _ _
      | exact ih1 _ _ _ _ _ _ _ _ _ _
      | exact spec_l4Move.mono _ _ _ _ _
      | exact LeO.none _
      | refine LeO.ite ?_ ?_
      | refine LeO.bind ?_ (fun _ => ?_)
theorem spec_l4Places.mono : ∀ a0 a1 a2 a3 k, LeO (spec_l4Places.f k a0 a1 a2 a3) (spec_l4Places.f (k + 1) a0 a1 a2 a3) := by
  intro a0 a1 a2 a3 k
  obtain ⟨ih0, ih1⟩ := spec_l4Places.mono_l k
  unfold spec_l4Places.f
  repeat' first
      | (with_reducible exact ih0 _ _ _ _ _ _)
      | (with_reducible exact ih1 _ _ _ _ _ _ _ _ _ _)
      | (with_reducible exact spec_l4Move.mono _ _ _ _ _)
      | (with_reducible exact LeO.refl _)
      | (with_reducible exact LeO.none _)
      | (with_reducible refine LeO.ite ?_ ?_)
      | (with_reducible refine LeO.bind ?_ (fun _ => ?_))
      | exact ih0 _ _ _ _ _ _
      | exact ih1 _ _ _ _ _ _ _ _ _ _
      | exact spec_l4Move.mono _ _ _ _ _
      | exact LeO.none _
      | refine LeO.ite ?_ ?_
      | refine LeO.bind ?_ (fun _ => ?_)
def spec_l4Places.T5 : Bool × List (List Nat × List Nat) := (true, [([], []), ([0], [0]), ([], []), ([2], [2]), ([], []), ([4], [4]), ([5], [5]), ([6, 6], [6]), ([1, 3, 7], [1, 3, 7]), ([], []), ([9, 8, 0, 1, 2, 3, 4, 5, 6, 7, 8, 9], [8, 9])])
def spec_l4Places.B5 : List Nat := [0, 1, 0, 4, 0, 16, 48, 112, 255, 0, 1023]
theorem spec_l4Places.tab5 : rtab .any (opsOf Try.f235 5) = spec_l4Places.T5 := by kernel_rfl
theorem spec_l4Places.bits5 : waitsOk spec_l4Places.T5.2 spec_l4Places.B5 = true := by kernel_rfl
set_option maxHeartbeats 8000000 in
set_option maxRecDepth 100000 in
theorem spec_l4Places.calls (k : Nat) (a0_0 : Int) (a0_1 : Int) (A0_2 : Option Addr) (c0_2 : Nat) (l0_2 : List Int) (a1 : Int) (r : List Int) (w : World) (hr0_2 : Kd.C (Kd.int .i64) w A0_2 l0_2.length l0_2) (hc0_2 : l0_2.length ≤ c0_2) (h : spec_l4Places.f k a0_0 a0_1 l0_2 a1 = some r) :
  Calls Try.prog 235 #[.agg #[.int .i64 a0_0, .int .i64 a0_1, .slice A0_2 l0_2.length c0_2], .int .i64 a1] w fun e w' => ∃ v0_ : Value, e = .returned (v0_) ∧ Kd.R (Kd.int .i64) 3 w' w.heap.size (fun _ => True) v0_ r ∧ Below w.heap.size w w' := by
 have hu26 := Try.underlying26
 have HR0_2 := Aside0.mk hr0_2
 have HC0_2 := Aside0.mk hc0_2
 clear hr0_2 hc0_2
 have HB := Aside0.mk (Below.refl w.heap.size w)
 have H : (if 0 ≤ (l0_2.length : Int) then (if ((l0_2.length : Int) : Int).toNat ≤ 35184372088832 then (spec_l4Places.l0 k a1 0 (List.replicate ((l0_2.length : Int) : Int).toNat 0) a0_0 a0_1 l0_2) else (none)) else (none)) = some r := h
 clear h
 by_cases c3 : 0 ≤ (l0_2.length : Int)
 ·rw [if_pos c3] at H
  have c3b0 := eq_true c3
  have c3b1 : decide (0 ≤ (l0_2.length : Int)) = true := decide_eq_true c3
  clear c3
  by_cases c4 : ((l0_2.length : Int) : Int).toNat ≤ 35184372088832
  ·rw [if_pos c4] at H
   have c4b0 := eq_true c4
   have c4b1 : decide (((l0_2.length : Int) : Int).toNat ≤ 35184372088832) = true := decide_eq_true c4
   clear c4
   obtain ⟨y183, hy183⟩ : ∃ y_ : List Int, y_ = (List.replicate ((l0_2.length : Int) : Int).toNat 0) := ⟨_, rfl⟩
   replace H : (spec_l4Places.l0 k a1 0 y183 a0_0 a0_1 l0_2) = some r := by first | (rw [hy183]; with_reducible exact H) | (have H2_ := (Option.bind_some _ _).symm.trans H; rw [hy183]; with_reducible exact H2_) | (have H2_ := (Option.bind_some _ _).symm.trans H; with_reducible exact H2_) | with_reducible exact H | (rw [hy183]; exact H) | exact H
   have Ny183 := Aside0.mk hy183
   clear hy183
   have H' := Aside0.mk H
   clear H
   go_enter Try.func235, Try.ntmps235
   go_wp2_with (first | ((with_reducible refine gate_dst (N := 2) rfl ?_); refine box_ (N := 2) (cs := #[.int .i64 a0_0, .int .i64 a0_1, .slice A0_2 l0_2.length c0_2]) (t := 26) ?_; intro gb182 hg w5 hbox hb; have BK182 := Aside0.mk (hbox); have GW182 := gz_ w hg; have GE182 := gz_ w hg; replace HB := Aside0.mk (below_step (bw_ w) hb); clear hb hbox hg; obtain ⟨hcz6_0, hcz6_1, hcz6_2, hfz6_0, hfz6_1, hfz6_2⟩ := bc3_ (w := w5) BK182) | ((with_reducible refine gate_dst (N := 13) rfl ?_); refine Kd.R_make (Kd.int .i64) _ 3 rfl (N := 13) rfl 22 _ _ rfl (l0_2.length : Int) rfl rfl Try.underlying22 (.int .i64 0) 8 info3 rfl (by decide) (by omega) 0 (ok := fun _ => True) (okp := fun _ => True) rfl (fun _ hk => hk) trivial (of_decide_eq_true (by first | (with_reducible assumption) | assumption)) (Nat.le_trans (Nat.mul_le_mul_right _ (of_decide_eq_true (by first | (with_reducible assumption) | assumption) : (l0_2.length : Int).toNat ≤ 35184372088832)) (by omega)) (Below.refl _ _) (Nat.le_refl _) ?_; intro v184 w7 ho8 hb hg_ hnew_; clear hg_ hnew_; (first | rw [← Ny183.out] at ho8 | (simp only [Int.reduceToNat] at ho8; rw [← Ny183.out] at ho8)); have HO185 := Aside0.mk (Kd.R_lower ho8 (below_size (bw_ w))); replace BK182 := bb_ BK182 hb; replace HB := Aside0.mk (below_step (bw_ w) hb); clear hb ho8))
   go_loopg [6] k (fun kq v6 w' => ∃ (x6_1 : Int) (x13_1 : List Int), v6 = .int .i64 x6_1 ∧ Aside0 (spec_l4Places.l0 kq a1 x6_1 x13_1 a0_0 a0_1 l0_2 = some r) ∧ Aside0 (kq ≤ k) ∧ Aside0 (Kd.R (Kd.int .i64) 3 w' w.heap.size (fun _ => True) v184 x13_1) ∧ Aside0 (w'.heap[gb182]? = some (.cells #[.int .i64 a0_0, .int .i64 a0_1, (.slice A0_2 l0_2.length c0_2)] 26 (0, 0))) ∧ Aside0 (Below w.heap.size w w'))
   case atStart => exact ⟨(0), (y183), (by first | rfl | (simp; done) | (simp [*]; done)), H', ⟨Nat.le_refl _⟩, ⟨ra_ HO185⟩, ⟨bk_ BK182⟩, ⟨(bw_ w)⟩⟩
   case round =>
    clear H'
    try clear c2
    try clear p2
    try clear c3
    try clear c3b0
    try clear c3b1
    try clear c4
    try clear c4b0
    try clear c4b1
    try clear hcz6_0
    try clear hcz6_1
    try clear hcz6_2
    try clear hfz6_0
    try clear hfz6_1
    try clear hfz6_2
    obtain ⟨x6_1, x13_1, rfl, HA, HK1, HO_13, BK182, HB⟩ := hrel
    cases gk with
    | zero => exact absurd HA.out (by simp [spec_l4Places.l0])
    | succ k1 =>
     have H := HA.out
     clear HA
     simp only [spec_l4Places.l0] at H
     by_cases c9 : x6_1 < (l0_2.length : Int)
     ·rw [if_pos c9] at H
      have c9b0 : decide (x6_1 < (l0_2.length : Int)) = true := decide_eq_true c9
      clear c9
      by_cases c10 : 0 ≤ (l0_2.length : Int)
      ·rw [if_pos c10] at H
       have c10b0 := eq_true c10
       have c10b1 : decide (0 ≤ (l0_2.length : Int)) = true := decide_eq_true c10
       clear c10
       by_cases c11 : ((l0_2.length : Int) : Int).toNat ≤ 35184372088832
       ·rw [if_pos c11] at H
        have c11b0 := eq_true c11
        have c11b1 : decide (((l0_2.length : Int) : Int).toNat ≤ 35184372088832) = true := decide_eq_true c11
        clear c11
        obtain ⟨y186, hy186⟩ : ∃ y_ : List Int, y_ = (List.replicate ((l0_2.length : Int) : Int).toNat 0) := ⟨_, rfl⟩
        replace H : (if 0 ≤ x6_1 then (if x6_1 < (y186.length : Int) then ((spec_l4Move.f k1 a0_0 a0_1 (y186.set (x6_1 : Int).toNat 1) a1).bind fun bt191 => (spec_l4Places.l1 k1 a1 x6_1 0 x13_1 a0_0 a0_1 l0_2 bt191.1 bt191.2.1 bt191.2.2)) else (none)) else (none)) = some r := by first | (rw [hy186]; with_reducible exact H) | (have H2_ := (Option.bind_some _ _).symm.trans H; rw [hy186]; with_reducible exact H2_) | (have H2_ := (Option.bind_some _ _).symm.trans H; with_reducible exact H2_) | with_reducible exact H | (rw [hy186]; exact H) | exact H
        have Ny186 := Aside0.mk hy186
        clear hy186
        by_cases c12 : 0 ≤ x6_1
        ·rw [if_pos c12] at H
         have c12b0 : decide (0 ≤ x6_1) = true := decide_eq_true c12
         clear c12
         by_cases c13 : x6_1 < (y186.length : Int)
         ·rw [if_pos c13] at H
          have c13b0 : decide (x6_1 < (y186.length : Int)) = true := decide_eq_true c13
          clear c13
          obtain ⟨y190, hy190⟩ : ∃ y_ : List Int, y_ = (y186.set (x6_1 : Int).toNat 1) := ⟨_, rfl⟩
          replace H : ((spec_l4Move.f k1 a0_0 a0_1 y190 a1).bind fun bt191 => (spec_l4Places.l1 k1 a1 x6_1 0 x13_1 a0_0 a0_1 l0_2 bt191.1 bt191.2.1 bt191.2.2)) = some r := by first | (rw [hy190]; with_reducible exact H) | (have H2_ := (Option.bind_some _ _).symm.trans H; rw [hy190]; with_reducible exact H2_) | (have H2_ := (Option.bind_some _ _).symm.trans H; with_reducible exact H2_) | with_reducible exact H | (rw [hy190]; exact H) | exact H
          have Ny190 := Aside0.mk hy190
          clear hy190
          replace H := Option.bind_eq_some_iff.mp H
          obtain ⟨⟨t191, t192, t193⟩, A150, H⟩ := H
          replace H : (spec_l4Places.l1 k1 a1 x6_1 0 x13_1 a0_0 a0_1 l0_2 t191 t192 t193) = some r := H
          have A15 := Aside0.mk A150
          clear A150
          have H' := Aside0.mk H
          clear H
          obtain ⟨hcz16_0, hcz16_1, hcz16_2, hfz16_0, hfz16_1, hfz16_2⟩ := bc3_ (w := wr) BK182
          try go_wp2
          replace HO_13 := Aside0.mk (Kd.R_drew HO_13.out)
          replace BK182 := Aside0.mk (blk_drew BK182.out)
          replace HB := Aside0.mk (below_drew1 HB.out)
          refine start_ (n := 11) (S := fun w' => w'.cell? ⟨gb182, 0, none⟩ = some (.int .i64 a0_0) ∧ w'.cell? ⟨gb182, 1, none⟩ = some (.int .i64 a0_1) ∧ w'.cell? ⟨gb182, 2, none⟩ = some (.slice A0_2 l0_2.length c0_2)) (ds := []) #[false, false, false, false, false, false, false, false, false, false, false] (by kernel_rfl) rfl rfl ⟨bc_ BK182 0, bc_ BK182 1, bc_ BK182 2⟩ (fun hHeld => ?_); refine with_tabW spec_l4Places.tab5 spec_l4Places.bits5 (fun HT_ HW_ => ?_)
          generalize wr.drew = w17 at HO_13 BK182 HB hHeld ⊢
          refine pureA (N := some 21) 0 HT_ ?_
          refine pureA (N := some 23) 2 HT_ ?_
          refine pureA (N := some 25) 4 HT_ ?_
          refine takeA (N := some 22) 1 HT_ HW_ hHeld ?_
          refine takeA (N := some 24) 3 HT_ HW_ hHeld ?_
          refine takeA (N := some 26) 5 HT_ HW_ hHeld ?_
          refine pureA (N := some 27) 6 HT_ ?_
          refine join_ (σ := Value × Nat) 1 #[true, true, true, true, true, true, true, true, true, true, false] (fun s_ => [(28, s_.1), (7, .pointer (some ⟨s_.2, 0, none⟩)), (29, .agg #[.int .i64 a0_0, .int .i64 a0_1, s_.1])]) (fun s_ w' => (w'.cell? ⟨gb182, 0, none⟩ = some (.int .i64 a0_0) ∧ w'.cell? ⟨gb182, 1, none⟩ = some (.int .i64 a0_1) ∧ w'.cell? ⟨gb182, 2, none⟩ = some (.slice A0_2 l0_2.length c0_2)) ∧ (Kd.R (Kd.int .i64) 3 w' w.heap.size (fun k_ => some k_ ≠ (v184 : Value).ownBlock) s_.1 y186) ∧ (Kd.R (Kd.int .i64) 3 w' w.heap.size (fun k_ => some k_ ≠ (s_.1 : Value).ownBlock) v184 x13_1) ∧ (w'.heap[gb182]? = some (.cells #[.int .i64 a0_0, .int .i64 a0_1, .slice A0_2 l0_2.length c0_2] 26 (0, 0))) ∧ (w'.heap[s_.2]? = some (.cells #[.int .i64 0, .int .i64 0, .slice none 0 0] 26 (0, 0))) ∧ (w.heap.size ≤ s_.2) ∧ (w.heap.size ≤ s_.2) ∧ (gb182 ≠ s_.2) ∧ (s_.2 ≠ gb182) ∧ (Below w.heap.size w w')) ?_ ?_
          rotate_left
          ·intro hCont
           refine twoA (Ni := some 28) (Nj := some 7) 7 9 HT_ (fun K hK => ?_) (fun K hK => ?_)
           ·skip
            refine Kd.R_make_step (Kd.int .i64) _ 3 (by rfl) (N := 28) rfl 22 _ _ rfl (l0_2.length : Int) rfl rfl Try.underlying22 (.int .i64 0) 8 info3 rfl (by decide) (by omega) 0 (ok := fun _ => True) (okp := fun _ => True) rfl (fun _ hk => hk) trivial (of_decide_eq_true (by first | (with_reducible assumption) | assumption)) (Nat.le_trans (Nat.mul_le_mul_right _ (of_decide_eq_true (by first | (with_reducible assumption) | assumption) : (l0_2.length : Int).toNat ≤ 35184372088832)) (by omega)) (Below.refl _ _) (Nat.le_refl _) ?_
            intro v187 w18 ho19 hb hg_ hnew_
            clear hg_ hnew_
            (first | rw [← Ny186.out] at ho19 | (simp only [Int.reduceToNat] at ho19; rw [← Ny186.out] at ho19))
            have n0_ := Aside0.mk (Kd.R_elder' (ra_ HO_13) (Kd.R_base ho19) hb)
            have n1_ := Aside0.mk (Kd.R_lower (Kd.R_new' ho19 (Kd.R_lt (ra_ HO_13))) (below_size (bw_ w)))
            have n2_ := bb_ BK182 hb
            have n3_ := Aside0.mk (below_step (bw_ w) hb)
            clear HO_13
            clear BK182
            clear HB
            have HO_13 := n0_
            have HO188 := n1_
            have BK182 := n2_
            have HB := n3_
            clear n0_ n1_ n2_ n3_
            clear hb ho19
            obtain ⟨Ao20, co20, eo20⟩ := Kd.R_slice HO188.out
            (first | subst eo20 | (injection eo20 with f1_ f2_ f3_; have f4_ := f1_.symm; have f5_ := f3_.symm; clear f1_ f2_ f3_; subst f4_; subst f5_))
            refine hK.out _ _ ⟨bc_ BK182 0, bc_ BK182 1, bc_ BK182 2⟩ (fun hHeld => ?_)
            clear hK K
            refine normA (N := some 28) ?_
            refine pureA (N := some 29) 8 HT_ ?_
            refine oneA (N := some 7) 9 HT_ (fun K hK => ?_)
            refine box_step ?hg (N := 7) ?hd (cs := #[.int .i64 0, .int .i64 0, .slice none 0 0]) (t := 26) ?hr ?_; (case hd => rfl); (case hg => rfl); (case hr => first | (go_simp; done) | (go_simp; rfl))
            intro gb189 hg w21 hbox hb
            have n0_ := Aside0.mk (Kd.R_below (ra_ HO_13) hb)
            have n1_ := Aside0.mk (Kd.R_below (ra_ HO188) hb)
            have n2_ := bb_ BK182 hb
            have n3_ := Aside0.mk (below_step (bw_ w) hb)
            have n4_ := Aside0.mk (hbox)
            have n5_ := gz_ w hg
            have n6_ := gz_ w hg
            have n7_ := ne_ hg BK182
            have n8_ := en_ hg BK182
            clear HO_13
            clear HO188
            clear BK182
            clear HB
            have HO_13 := n0_
            have HO188 := n1_
            have BK182 := n2_
            have HB := n3_
            have BK189 := n4_
            have GW189 := n5_
            have GE189 := n6_
            have NB182_189 := n7_
            have NB189_182 := n8_
            clear n0_ n1_ n2_ n3_ n4_ n5_ n6_ n7_ n8_
            clear hb hbox hg
            refine hK.out _ _ ⟨bc_ BK182 0, bc_ BK182 1, bc_ BK182 2⟩ (fun hHeld => ?_)
            clear hK K
            refine normA (N := some 7) ?_
            exact norm_ (by simp only [putAll, Act.put, List.setIfInBounds_toArray, List.set_cons_zero, List.set_cons_succ]) (hCont (.slice Ao20 y186.length co20, gb189) _ ⟨hHeld, (by exact rf_ HO188.out (fun _ hk => hk.2)), (by exact rf_ HO_13.out (fun _ hk => hk.2)), (bk_ BK182), (bk_ BK189), GW189.out, GE189.out, NB182_189.out, NB189_182.out, (bw_ w)⟩)
           ·skip
            refine box_step ?hg (N := 7) ?hd (cs := #[.int .i64 0, .int .i64 0, .slice none 0 0]) (t := 26) ?hr ?_; (case hd => rfl); (case hg => rfl); (case hr => first | (go_simp; done) | (go_simp; rfl))
            intro gb189 hg w18 hbox hb
            have n0_ := Aside0.mk (Kd.R_below (ra_ HO_13) hb)
            have n1_ := bb_ BK182 hb
            have n2_ := Aside0.mk (below_step (bw_ w) hb)
            have n3_ := Aside0.mk (hbox)
            have n4_ := gz_ w hg
            have n5_ := gz_ w hg
            have n6_ := ne_ hg BK182
            have n7_ := en_ hg BK182
            clear HO_13
            clear BK182
            clear HB
            have HO_13 := n0_
            have BK182 := n1_
            have HB := n2_
            have BK189 := n3_
            have GW189 := n4_
            have GE189 := n5_
            have NB182_189 := n6_
            have NB189_182 := n7_
            clear n0_ n1_ n2_ n3_ n4_ n5_ n6_ n7_
            clear hb hbox hg
            refine hK.out _ _ ⟨bc_ BK182 0, bc_ BK182 1, bc_ BK182 2⟩ (fun hHeld => ?_)
            clear hK K
            refine normA (N := some 7) ?_
            refine oneA (N := some 28) 7 HT_ (fun K hK => ?_)
            refine Kd.R_make_step (Kd.int .i64) _ 3 (by rfl) (N := 28) rfl 22 _ _ rfl (l0_2.length : Int) rfl rfl Try.underlying22 (.int .i64 0) 8 info3 rfl (by decide) (by omega) 0 (ok := fun _ => True) (okp := fun _ => True) rfl (fun _ hk => hk) trivial (of_decide_eq_true (by first | (with_reducible assumption) | assumption)) (Nat.le_trans (Nat.mul_le_mul_right _ (of_decide_eq_true (by first | (with_reducible assumption) | assumption) : (l0_2.length : Int).toNat ≤ 35184372088832)) (by omega)) (Below.refl _ _) (Nat.le_refl _) ?_
            intro v187 w19 ho20 hb hg_ hnew_
            clear hg_ hnew_
            (first | rw [← Ny186.out] at ho20 | (simp only [Int.reduceToNat] at ho20; rw [← Ny186.out] at ho20))
            have n0_ := Aside0.mk (Kd.R_elder' (ra_ HO_13) (Kd.R_base ho20) hb)
            have n1_ := Aside0.mk (Kd.R_lower (Kd.R_new' ho20 (Kd.R_lt (ra_ HO_13))) (below_size (bw_ w)))
            have n2_ := bb_ BK182 hb
            have n3_ := bb_ BK189 hb
            have n4_ := Aside0.mk (below_step (bw_ w) hb)
            clear HO_13
            clear BK182
            clear BK189
            clear HB
            have HO_13 := n0_
            have HO188 := n1_
            have BK182 := n2_
            have BK189 := n3_
            have HB := n4_
            clear n0_ n1_ n2_ n3_ n4_
            clear hb ho20
            obtain ⟨Ao21, co21, eo21⟩ := Kd.R_slice HO188.out
            (first | subst eo21 | (injection eo21 with f1_ f2_ f3_; have f4_ := f1_.symm; have f5_ := f3_.symm; clear f1_ f2_ f3_; subst f4_; subst f5_))
            refine hK.out _ _ ⟨bc_ BK182 0, bc_ BK182 1, bc_ BK182 2⟩ (fun hHeld => ?_)
            clear hK K
            refine normA (N := some 28) ?_
            refine pureA (N := some 29) 8 HT_ ?_
            exact norm_ (by simp only [putAll, Act.put, List.setIfInBounds_toArray, List.set_cons_zero, List.set_cons_succ]) (hCont (.slice Ao21 y186.length co21, gb189) _ ⟨hHeld, (by exact rf_ HO188.out (fun _ hk => hk.2)), (by exact rf_ HO_13.out (fun _ hk => hk.2)), (bk_ BK182), (bk_ BK189), GW189.out, GE189.out, NB182_189.out, NB189_182.out, (bw_ w)⟩)
          rintro ⟨v187, gb189⟩ w22 ⟨hS_, h0_, h1_, h2_, h3_, h4_, h5_, h6_, h7_, h8_⟩
          have n0_ : Aside0 (Kd.R (Kd.int .i64) 3 w22 w.heap.size (fun k_ => some k_ ≠ (v184 : Value).ownBlock) v187 y186) := ⟨h0_⟩
          have n1_ : Aside0 (Kd.R (Kd.int .i64) 3 w22 w.heap.size (fun k_ => some k_ ≠ (v187 : Value).ownBlock) v184 x13_1) := ⟨h1_⟩
          have n2_ : Aside0 (w22.heap[gb182]? = some (.cells #[.int .i64 a0_0, .int .i64 a0_1, .slice A0_2 l0_2.length c0_2] 26 (0, 0))) := ⟨h2_⟩
          have n3_ : Aside0 (w22.heap[gb189]? = some (.cells #[.int .i64 0, .int .i64 0, .slice none 0 0] 26 (0, 0))) := ⟨h3_⟩
          have n4_ : Aside0 (w.heap.size ≤ gb189) := ⟨h4_⟩
          have n5_ : Aside0 (w.heap.size ≤ gb189) := ⟨h5_⟩
          have n6_ : Aside0 (gb182 ≠ gb189) := ⟨h6_⟩
          have n7_ : Aside0 (gb189 ≠ gb182) := ⟨h7_⟩
          have n8_ : Aside0 (Below w.heap.size w w22) := ⟨h8_⟩
          clear HO_13
          clear BK182
          clear HB
          clear h0_ h1_ h2_ h3_ h4_ h5_ h6_ h7_ h8_
          have HO188 := n0_
          have HO_13 := n1_
          have BK182 := n2_
          have BK189 := n3_
          have GW189 := n4_
          have GE189 := n5_
          have NB182_189 := n6_
          have NB189_182 := n7_
          have HB := n8_
          clear n0_ n1_ n2_ n3_ n4_ n5_ n6_ n7_ n8_
          have hHeld : w22.cell? ⟨gb182, 0, none⟩ = some (.int .i64 a0_0) ∧ w22.cell? ⟨gb182, 1, none⟩ = some (.int .i64 a0_1) ∧ w22.cell? ⟨gb182, 2, none⟩ = some (.slice A0_2 l0_2.length c0_2) := hS_
          obtain ⟨Ao23, co23, eo23⟩ := Kd.R_slice HO188.out
          (first | subst eo23 | (injection eo23 with f1_ f2_ f3_; have f4_ := f1_.symm; have f5_ := f3_.symm; clear f1_ f2_ f3_; subst f4_; subst f5_))
          refine norm_ (a' := ?_) ?_ ?_
          rotate_left
          ·simp only [putAll, Act.put, List.setIfInBounds_toArray, List.set_cons_zero, List.set_cons_succ]
           rfl
          refine oneA (N := none) 10 HT_ (fun K hK => ?_)
          have hs24 : w22.cell? ⟨gb189, 0, none⟩ = some (.int .i64 0) := bc_ BK189 0
          have hfs24 := blk_frozen BK189.out 0
          have hns24_0 := NB182_189.out
          have hms24_0 := NB189_182.out
          have hs25 : w22.cell? ⟨gb189, 1, none⟩ = some (.int .i64 0) := bc_ BK189 1
          have hfs25 := blk_frozen BK189.out 1
          have hns25_0 := NB182_189.out
          have hms25_0 := NB189_182.out
          have hs26 : w22.cell? ⟨gb189, 2, none⟩ = some (.slice none 0 0) := bc_ BK189 2
          have hfs26 := blk_frozen BK189.out 2
          have hns26_0 := NB182_189.out
          have hms26_0 := NB189_182.out
          refine skip_ (w1 := ?_) (by rfl) rfl ?_ ?_
          rotate_left
          ·go_simp
           rfl
          refine hK.out _ _ ⟨((cn_ NB182_189).trans (((cn_ NB182_189).trans (((cn_ NB182_189).trans (hHeld.1)))))), ((cn_ NB182_189).trans (((cn_ NB182_189).trans (((cn_ NB182_189).trans (hHeld.2.1)))))), ((cn_ NB182_189).trans (((cn_ NB182_189).trans (((cn_ NB182_189).trans (hHeld.2.2))))))⟩ (fun hHeld => ?_)
          clear hK K
          refine done_ (done_of HT_.out (by kernel_rfl)) ?_
          have n0_ : Aside0 (Kd.R (Kd.int .i64) 3 (((w22.setCell ⟨gb189, 0, none⟩ (.int .i64 a0_0)).setCell ⟨gb189, 1, none⟩ (.int .i64 a0_1)).setCell ⟨gb189, 2, none⟩ (.slice Ao23 y186.length co23)) w.heap.size (fun k_ => some k_ ≠ (.slice Ao23 y186.length co23 : Value).ownBlock) v184 x13_1) := ⟨by exact rf_ (Kd.R_types HO_13.out BK189.out (by decide)) (fun _ hk => hk.1)⟩
          have n1_ : Aside0 (Kd.R (Kd.int .i64) 3 (((w22.setCell ⟨gb189, 0, none⟩ (.int .i64 a0_0)).setCell ⟨gb189, 1, none⟩ (.int .i64 a0_1)).setCell ⟨gb189, 2, none⟩ (.slice Ao23 y186.length co23)) w.heap.size (fun k_ => some k_ ≠ (v184 : Value).ownBlock) (.slice Ao23 y186.length co23) y186) := ⟨by exact rf_ (Kd.R_types HO188.out BK189.out (by decide)) (fun _ hk => hk.1)⟩
          have n2_ : Aside0 ((((w22.setCell ⟨gb189, 0, none⟩ (.int .i64 a0_0)).setCell ⟨gb189, 1, none⟩ (.int .i64 a0_1)).setCell ⟨gb189, 2, none⟩ (.slice Ao23 y186.length co23)).heap[gb182]? = some (.cells #[.int .i64 a0_0, .int .i64 a0_1, .slice A0_2 l0_2.length c0_2] 26 (0, 0))) := ⟨bk_ BK182⟩
          have n3_ : Aside0 ((((w22.setCell ⟨gb189, 0, none⟩ (.int .i64 a0_0)).setCell ⟨gb189, 1, none⟩ (.int .i64 a0_1)).setCell ⟨gb189, 2, none⟩ (.slice Ao23 y186.length co23)).heap[gb189]? = some (.cells #[.int .i64 a0_0, .int .i64 a0_1, .slice Ao23 y186.length co23] 26 (0, 0))) := ⟨bq_ BK189⟩
          have n4_ : Aside0 (Below w.heap.size w (((w22.setCell ⟨gb189, 0, none⟩ (.int .i64 a0_0)).setCell ⟨gb189, 1, none⟩ (.int .i64 a0_1)).setCell ⟨gb189, 2, none⟩ (.slice Ao23 y186.length co23))) := ⟨(bw_ w)⟩
          (try clear HO_13)
          (try clear HO188)
          (try clear BK182)
          (try clear BK189)
          (try clear HB)
          generalize (((w22.setCell ⟨gb189, 0, none⟩ (.int .i64 a0_0)).setCell ⟨gb189, 1, none⟩ (.int .i64 a0_1)).setCell ⟨gb189, 2, none⟩ (.slice Ao23 y186.length co23)) = w27 at n0_ n1_ n2_ n3_ n4_ ⊢
          have HO_13 := n0_
          have HO188 := n1_
          have BK182 := n2_
          have BK189 := n3_
          have HB := n4_
          clear n0_ n1_ n2_ n3_ n4_
          have hnb28 := NB189_182.out
          have hnc28 := NB182_189.out
          obtain ⟨hcz29_0, hcz29_1, hcz29_2, hfz29_0, hfz29_1, hfz29_2⟩ := bc3_ (w := w27) BK189
          have p14 : 0 ≤ (x6_1 : Int) := of_decide_eq_true (by first | (with_reducible assumption) | assumption)
          have q14 : (x6_1 : Int) < ((y186.length : Int) : Int) := of_decide_eq_true (by first | (with_reducible assumption) | assumption)
          obtain ⟨go14, co14, eo14, gb14, gl14, cl14, HG14⟩ := Kd.R_form HO188.out (by omega)
          (first | cases eo14 | (injection eo14 with ea_ en_ ec_; (first | subst ea_ | (injection ea_ with ea_; subst ea_)); subst ec_; clear en_))
          have GB14 := Aside0.mk gb14
          have GG14 := Aside0.mk HG14
          clear gb14 gl14 HG14
          obtain ⟨hx14_0, hf14_0⟩ := Kd.R_celln 0 HO188.out (x6_1 : Int) p14 q14
          replace p14 := eq_true p14
          replace q14 := eq_true q14
          obtain ⟨hy30_, hz30_⟩ := Kd.R_celln 0 HO188.out (x6_1 : Int) (of_decide_eq_true (by first | (with_reducible assumption) | assumption)) (of_decide_eq_true (by first | (with_reducible assumption) | assumption))
          have HP30 := Kd.R_putg HO188.out (x6_1 : Int) 1
          try go_wp2_with (first | ((with_reducible refine gate_store (t := 3) (p := 33) rfl ?_); refine store_event (t := 3) (p := 33) (v := ?vo_w31) (w1 := (w27.setCell ⟨go14, (x6_1 : Int).toNat, none⟩ (.int .i64 1))) ?hg ?ho ?hn ?hr ?_; (case ho => rfl); (case hg => rfl); (case hn => rfl); (case hr => first | (go_simp; done) | (go_simp; rfl)); intro w31 hw; have hg : w27.grownBy w31 (some go14) := (by rw [hw]; exact HP30.2); have hp_ : Kd.R (Kd.int .i64) 3 w31 w.heap.size (fun k_ => some k_ ≠ (v184 : Value).ownBlock) (.slice (some ⟨go14, 0, none⟩) y186.length co23) y190 := (by rw [hw, Ny190.out]; exact HP30.1); clear HP30; have n0_ := Aside0.mk (Kd.R_after (v := (.slice (some ⟨go14, 0, none⟩) y186.length co23)) (v1 := (.slice (some ⟨go14, 0, none⟩) y186.length co23)) (ok := (fun _ => True)) (by exact rf_ HO_13.out (fun _ hk => ⟨trivial, hk⟩)) hg (.inl rfl)); have n1_ := Aside0.mk (blk_grown (g := gb182) (o := .cells #[.int .i64 a0_0, .int .i64 a0_1, .slice A0_2 l0_2.length c0_2] 26 (0, 0)) (bk_ BK182) hg (Kd.R_ne HO188.out BK182.out (by decide))); have n2_ := Aside0.mk (hp_); have n3_ := Aside0.mk (blk_grown (g := gb189) (o := .cells #[.int .i64 a0_0, .int .i64 a0_1, .slice (some ⟨go14, 0, none⟩) y186.length co23] 26 (0, 0)) (bk_ BK189) hg (Kd.R_ne HO188.out BK189.out (by decide))); have n4_ := Aside0.mk ((by rw [hw]; exact below_set (HB.out) GB14.out : Below w.heap.size w w31)); clear HO_13; clear BK182; clear HO188; clear BK189; clear HB; have HO_13 := n0_; have BK182 := n1_; have HO188 := n2_; have BK189 := n3_; have HB := n4_; clear n0_ n1_ n2_ n3_ n4_; clear hg hw hp_; obtain ⟨hcz32_0, hcz32_1, hcz32_2, hfz32_0, hfz32_1, hfz32_2⟩ := bc3_ (w := w31) BK189) | ((with_reducible refine gate_callee (f := 152) rfl ?_); refine goesL_ (some 36) rfl rfl Try.func152 (by kernel_rfl) rfl #[.agg #[.int .i64 a0_0, .int .i64 a0_1, .slice (some ⟨go14, 0, none⟩) y190.length co23], .int .i64 a1] rfl (by (try simp only [List.map_toArray, List.map_cons, List.map_nil]); first | done | (rw [show y190.length = y186.length from (Kd.R_reads' HO188.out).1.symm] <;> rfl) | rfl | (simp only [List.length_drop, List.length_take]; rfl)) ?_; (with_reducible refine (spec_l4Move.calls k1 a0_0 a0_1 _ _ y190 a1 t191 t192 t193 _ ?side1 ?side2 A15.out).mono ?_); (case side1 => exact co_ (Kd.R_reads' HO188.out).2.2); (case side2 => rw [show y190.length = y186.length from (Kd.R_reads' HO188.out).1.symm]; exact (Kd.R_reads' HO188.out).2.1); rintro e w33 ⟨v194, rfl, ho0, hb⟩; refine ⟨_, rfl, ?_⟩; have n0_ := Aside0.mk (Kd.R_elder' (ra_ HO_13) (Kd.R_base ho0) hb); have n1_ := Aside0.mk (Kd.R_elder' (ra_ HO188) (Kd.R_base ho0) hb); have n2_ := Aside0.mk (Kd.R_lower (Kd.R_new' (Kd.R_new' ho0 (Kd.R_lt (ra_ HO_13))) (Kd.R_lt (ra_ HO188))) (below_size (bw_ w))); have n3_ := bb_ BK182 hb; have n4_ := bb_ BK189 hb; have n5_ := Aside0.mk (below_step (bw_ w) hb); clear HO_13; clear HO188; clear BK182; clear BK189; clear HB; have HO_13 := n0_; have HO188 := n1_; have HO195 := n2_; have BK182 := n3_; have BK189 := n4_; have HB := n5_; clear n0_ n1_ n2_ n3_ n4_ n5_; (try clear hb); (try clear hb2); (try clear hk); (try clear hi); (try clear ho0)) | ((with_reducible refine gate_dst (N := 8) rfl ?_); refine box_ (N := 8) (cs := #[.int .i64 0, .int .i64 0, .slice none 0 0]) (t := 26) ?_; intro gb196 hg w34 hbox hb; have n0_ := Aside0.mk (Kd.R_below (ra_ HO_13) hb); have n1_ := Aside0.mk (Kd.R_below (ra_ HO188) hb); have n2_ := Aside0.mk (Kd.R_below (ra_ HO195) hb); have n3_ := bb_ BK182 hb; have n4_ := bb_ BK189 hb; have n5_ := Aside0.mk (below_step (bw_ w) hb); have n6_ := Aside0.mk (hbox); have n7_ := gz_ w hg; have n8_ := gz_ w hg; have n9_ := ne_ hg BK182; have n10_ := en_ hg BK182; have n11_ := ne_ hg BK189; have n12_ := en_ hg BK189; clear HO_13; clear HO188; clear HO195; clear BK182; clear BK189; clear HB; have HO_13 := n0_; have HO188 := n1_; have HO195 := n2_; have BK182 := n3_; have BK189 := n4_; have HB := n5_; have BK196 := n6_; have GW196 := n7_; have GE196 := n8_; have NB182_196 := n9_; have NB196_182 := n10_; have NB189_196 := n11_; have NB196_189 := n12_; clear n0_ n1_ n2_ n3_ n4_ n5_ n6_ n7_ n8_ n9_ n10_ n11_ n12_; clear hb hbox hg; have hnb35 := NB196_182.out; have hnc35 := NB182_196.out; have hnb36 := NB196_189.out; have hnc36 := NB189_196.out; obtain ⟨hcz37_0, hcz37_1, hcz37_2, hfz37_0, hfz37_1, hfz37_2⟩ := bc3_ (w := w34) BK196; obtain ⟨Ao38, co38, eo38⟩ := Kd.R_slice HO195.out; subst eo38))
          go_loopg [9] k1 (fun kq v9 w' => ∃ (x9_2 : Int) (x13_2 : List Int), v9 = .int .i64 x9_2 ∧ Aside0 (spec_l4Places.l1 kq a1 x6_1 x9_2 x13_2 a0_0 a0_1 l0_2 t191 t192 t193 = some r) ∧ Aside0 (kq ≤ k1) ∧ Aside0 (Kd.R (Kd.int .i64) 3 w' w.heap.size (fun k_ => some k_ ≠ ((.slice (some ⟨go14, 0, none⟩) y186.length co23) : Value).ownBlock ∧ some k_ ≠ ((.slice Ao38 t193.length co38) : Value).ownBlock) v184 x13_2) ∧ Aside0 (Kd.R (Kd.int .i64) 3 w' w.heap.size (fun k_ => some k_ ≠ (v184 : Value).ownBlock ∧ some k_ ≠ ((.slice Ao38 t193.length co38) : Value).ownBlock) (.slice (some ⟨go14, 0, none⟩) y186.length co23) y190) ∧ Aside0 (Kd.R (Kd.int .i64) 3 w' w.heap.size (fun k_ => some k_ ≠ (v184 : Value).ownBlock ∧ some k_ ≠ ((.slice (some ⟨go14, 0, none⟩) y186.length co23) : Value).ownBlock) (.slice Ao38 t193.length co38) t193) ∧ Aside0 (w'.heap[gb182]? = some (.cells #[.int .i64 a0_0, .int .i64 a0_1, (.slice A0_2 l0_2.length c0_2)] 26 (0, 0))) ∧ Aside0 (w'.heap[gb189]? = some (.cells #[.int .i64 a0_0, .int .i64 a0_1, (.slice (some ⟨go14, 0, none⟩) y186.length co23)] 26 (0, 0))) ∧ Aside0 (w'.heap[gb196]? = some (.cells #[.int .i64 t191, .int .i64 t192, (.slice Ao38 t193.length co38)] 26 (0, 0))) ∧ Aside0 (Below w.heap.size w w'))
          case atStart => exact ⟨(0), (x13_1), (by first | rfl | (simp; done) | (simp [*]; done)), H', ⟨Nat.le_refl _⟩, ⟨by exact rf_ (Kd.R_types HO_13.out BK196.out (by decide)) (fun _ hk => ⟨hk.1.1.2, hk.1.2⟩)⟩, ⟨by exact rf_ (Kd.R_types HO188.out BK196.out (by decide)) (fun _ hk => ⟨hk.1.1, hk.1.2⟩)⟩, ⟨by exact rf_ (Kd.R_types HO195.out BK196.out (by decide)) (fun _ hk => ⟨hk.1.1.2, hk.1.2⟩)⟩, ⟨bk_ BK182⟩, ⟨bk_ BK189⟩, ⟨bq_ BK196⟩, ⟨(bw_ w)⟩⟩
          case round =>
           clear H'
           try clear c1
           try clear p1
           try clear q1
           try clear hx1
           try clear c2
           try clear p2
           try clear c3
           try clear c3b0
           try clear c3b1
           try clear c4
           try clear c4b0
           try clear c4b1
           try clear c9
           try clear c9b0
           try clear c10
           try clear c10b0
           try clear c10b1
           try clear c11
           try clear c11b0
           try clear c11b1
           try clear c12
           try clear c12b0
           try clear c13
           try clear c13b0
           try clear p14
           try clear q14
           try clear hx14
           try clear hf14
           try clear c15
           try clear c23
           try clear c28
           try clear c35
           try clear c36
           try clear hcz16_0
           try clear hcz16_1
           try clear hcz16_2
           try clear hcz29_0
           try clear hcz29_1
           try clear hcz29_2
           try clear hcz32_0
           try clear hcz32_1
           try clear hcz32_2
           try clear hcz37_0
           try clear hcz37_1
           try clear hcz37_2
           try clear hcz6_0
           try clear hcz6_1
           try clear hcz6_2
           try clear hfz16_0
           try clear hfz16_1
           try clear hfz16_2
           try clear hfz29_0
           try clear hfz29_1
           try clear hfz29_2
           try clear hfz32_0
           try clear hfz32_1
           try clear hfz32_2
           try clear hfz37_0
           try clear hfz37_1
           try clear hfz37_2
           try clear hfz6_0
           try clear hfz6_1
           try clear hfz6_2
           try clear hx14_0
           try clear p14
           try clear p2
           try clear q14
           obtain ⟨x9_2, x13_2, rfl, HA, HK2, HO_13, HO_190002, HO_197002, BK182, BK189, BK196, HB⟩ := hrel
           have hl190002_2 := (Kd.R_reads' HO_190002.out).1
           rw [hl190002_2] at HO_190002
           (try simp only [hl190002_2])
           (try simp only [hl190002_2] at BK182)
           (try simp only [hl190002_2] at BK189)
           (try simp only [hl190002_2] at BK196)
           (try simp only [hl190002_2] at HO_13)
           (try simp only [hl190002_2] at HO_197002)
           cases gk with
           | zero => exact absurd HA.out (by simp [spec_l4Places.l1])
           | succ k2 =>
            have H := HA.out
            clear HA
            simp only [spec_l4Places.l1] at H
            by_cases c39 : x9_2 < (t193.length : Int)
            ·rw [if_pos c39] at H
             have c39b0 : decide (x9_2 < (t193.length : Int)) = true := decide_eq_true c39
             (try simp only [hl190002_2] at c39b0)
             clear c39
             by_cases c40 : 0 ≤ x9_2
             ·rw [if_pos c40] at H
              have c40b0 : decide (0 ≤ x9_2) = true := decide_eq_true c40
              clear c40
              by_cases c41 : (rd t193 x9_2) = 1
              ·rw [if_pos c41] at H
               have c41b0 : ((rd t193 x9_2) == 1) = true := beq_iff_eq.mpr c41
               have c41b1 : ((rd t193 x9_2) != 1) = false := bne_eq_false_iff_eq.mpr c41
               clear c41
               by_cases c42 : 0 ≤ x6_1
               ·rw [if_pos c42] at H
                have c42b0 : decide (0 ≤ x6_1) = true := decide_eq_true c42
                clear c42
                by_cases c43 : x6_1 < (x13_2.length : Int)
                ·rw [if_pos c43] at H
                 have c43b0 : decide (x6_1 < (x13_2.length : Int)) = true := decide_eq_true c43
                 (try simp only [hl190002_2] at c43b0)
                 clear c43
                 obtain ⟨y198, hy198⟩ : ∃ y_ : List Int, y_ = (x13_2.set (x6_1 : Int).toNat x9_2) := ⟨_, rfl⟩
                 replace H : (spec_l4Places.l1 k2 a1 x6_1 (wrap64 (x9_2 + 1)) y198 a0_0 a0_1 l0_2 t191 t192 t193) = some r := by first | (rw [hy198]; with_reducible exact H) | (have H2_ := (Option.bind_some _ _).symm.trans H; rw [hy198]; with_reducible exact H2_) | (have H2_ := (Option.bind_some _ _).symm.trans H; with_reducible exact H2_) | with_reducible exact H | (rw [hy198]; exact H) | exact H
                 have Ny198 := Aside0.mk hy198
                 clear hy198
                 have H' := Aside0.mk H
                 clear H
                 have hnb45 := NB196_182.out
                 have hnc45 := NB182_196.out
                 have hnb46 := NB196_189.out
                 have hnc46 := NB189_196.out
                 obtain ⟨hcz47_0, hcz47_1, hcz47_2, hfz47_0, hfz47_1, hfz47_2⟩ := bc3_ (w := wr) BK196
                 have p197 : 0 ≤ (x9_2 : Int) := of_decide_eq_true (by first | (with_reducible assumption) | assumption)
                 have q197 : x9_2 < (t193.length : Int) := of_decide_eq_true (by first | (with_reducible assumption) | assumption)
                 obtain ⟨ad197, e197, hx197_0⟩ := Kd.at_int (Kd.R_reads' HO_197002.out).2.2 x9_2 p197 q197
                 cases e197
                 replace p197 := eq_true p197
                 replace q197 := eq_true q197
                 have p44 : 0 ≤ (x6_1 : Int) := of_decide_eq_true (by first | (with_reducible assumption) | assumption)
                 have q44 : (x6_1 : Int) < ((x13_2.length : Int) : Int) := of_decide_eq_true (by first | (with_reducible assumption) | assumption)
                 obtain ⟨go44, co44, eo44, gb44, gl44, cl44, HG44⟩ := Kd.R_form HO_13.out (by omega)
                 (first | cases eo44 | (injection eo44 with ea_ en_ ec_; (first | subst ea_ | (injection ea_ with ea_; subst ea_)); subst ec_; clear en_))
                 have GB44 := Aside0.mk gb44
                 have GG44 := Aside0.mk HG44
                 clear gb44 gl44 HG44
                 obtain ⟨hx44_0, hf44_0⟩ := Kd.R_celln 0 HO_13.out (x6_1 : Int) p44 q44
                 replace p44 := eq_true p44
                 replace q44 := eq_true q44
                 have HP48 := Kd.R_putg HO_13.out (x6_1 : Int) x9_2
                 go_wp2_with (first | ((with_reducible refine gate_store (t := 3) (p := 53) rfl ?_); refine store_event (t := 3) (p := 53) (v := ?vo_w49) (w1 := (wr.setCell ⟨go44, (x6_1 : Int).toNat, none⟩ (.int .i64 x9_2))) ?hg ?ho ?hn ?hr ?_; (case ho => rfl); (case hg => rfl); (case hn => rfl); (case hr => first | (go_simp; done) | (go_simp; rfl)); intro w49 hw; have hg : wr.grownBy w49 (some go44) := (by rw [hw]; exact HP48.2); have hp_ : Kd.R (Kd.int .i64) 3 w49 w.heap.size (fun k_ => some k_ ≠ (.slice (some ⟨go14, 0, none⟩) y190.length co23 : Value).ownBlock ∧ some k_ ≠ (.slice (some ad197) t193.length co38 : Value).ownBlock) (.slice (some ⟨go44, 0, none⟩) x13_2.length co44) y198 := (by rw [hw, Ny198.out]; exact HP48.1); clear HP48; have n0_ := Aside0.mk (hp_); have n1_ := Aside0.mk (Kd.R_after (v := (.slice (some ⟨go44, 0, none⟩) x13_2.length co44)) (v1 := (.slice (some ⟨go44, 0, none⟩) x13_2.length co44)) (ok := (fun k_ => some k_ ≠ (.slice (some ad197) t193.length co38 : Value).ownBlock)) (by exact rf_ HO_190002.out (fun _ hk => ⟨hk.2, hk.1⟩)) hg (.inl rfl)); have n2_ := Aside0.mk (Kd.R_after (v := (.slice (some ⟨go44, 0, none⟩) x13_2.length co44)) (v1 := (.slice (some ⟨go44, 0, none⟩) x13_2.length co44)) (ok := (fun k_ => some k_ ≠ (.slice (some ⟨go14, 0, none⟩) y190.length co23 : Value).ownBlock)) (by exact rf_ HO_197002.out (fun _ hk => ⟨hk.2, hk.1⟩)) hg (.inl rfl)); have n3_ := Aside0.mk (blk_grown (g := gb182) (o := .cells #[.int .i64 a0_0, .int .i64 a0_1, .slice A0_2 l0_2.length c0_2] 26 (0, 0)) (bk_ BK182) hg (Kd.R_ne HO_13.out BK182.out (by decide))); have n4_ := Aside0.mk (blk_grown (g := gb189) (o := .cells #[.int .i64 a0_0, .int .i64 a0_1, .slice (some ⟨go14, 0, none⟩) y190.length co23] 26 (0, 0)) (bk_ BK189) hg (Kd.R_ne HO_13.out BK189.out (by decide))); have n5_ := Aside0.mk (blk_grown (g := gb196) (o := .cells #[.int .i64 t191, .int .i64 t192, .slice (some ad197) t193.length co38] 26 (0, 0)) (bk_ BK196) hg (Kd.R_ne HO_13.out BK196.out (by decide))); have n6_ := Aside0.mk ((by rw [hw]; exact below_set (HB.out) GB44.out : Below w.heap.size w w49)); clear HO_13; clear HO_190002; clear HO_197002; clear BK182; clear BK189; clear BK196; clear HB; have HO_13 := n0_; have HO_190002 := n1_; have HO_197002 := n2_; have BK182 := n3_; have BK189 := n4_; have BK196 := n5_; have HB := n6_; clear n0_ n1_ n2_ n3_ n4_ n5_ n6_; clear hg hw hp_))
                 (try simp only [← hl190002_2])
                 go_roundg k2
                 case measure => have := HK1.out; have := HK2.out; omega
                 case rel => exact ⟨(wrap64 (x9_2 + 1)), (y198), (by first | rfl | (simp; done) | (simp [*]; done)), H', ⟨by have := HK1.out; have := HK2.out; omega⟩, ⟨by (try simp only [hl190002_2]); (with_reducible repeat (first | apply Kd.R_alloc | apply Kd.R_drewN | apply Kd.R_drew)); exact HO_13.out⟩, ⟨by (try simp only [hl190002_2]); (with_reducible repeat (first | apply Kd.R_alloc | apply Kd.R_drewN | apply Kd.R_drew)); exact Kd.R_mono HO_190002.out (fun _ hk => ⟨hk.2, hk.1⟩)⟩, ⟨by (try simp only [hl190002_2]); (with_reducible repeat (first | apply Kd.R_alloc | apply Kd.R_drewN | apply Kd.R_drew)); exact Kd.R_mono HO_197002.out (fun _ hk => ⟨hk.2, hk.1⟩)⟩, ⟨by (try simp only [hl190002_2]); (with_reducible repeat (first | refine blk_drewN ?_ _ | refine blk_drew ?_ | refine blk_alloc ?_ _)); exact BK182.out⟩, ⟨by (try simp only [hl190002_2]); (with_reducible repeat (first | refine blk_drewN ?_ _ | refine blk_drew ?_ | refine blk_alloc ?_ _)); exact BK189.out⟩, ⟨by (try simp only [hl190002_2]); (with_reducible repeat (first | refine blk_drewN ?_ _ | refine blk_drew ?_ | refine blk_alloc ?_ _)); exact BK196.out⟩, ⟨(bw_ w)⟩⟩
                ·rw [if_neg c43] at H
                 exact absurd H (by simp)
               ·rw [if_neg c42] at H
                exact absurd H (by simp)
              ·rw [if_neg c41] at H
               have c41b0 : ((rd t193 x9_2) == 1) = false := beq_eq_false_iff_ne.mpr c41
               have c41b1 : ((rd t193 x9_2) != 1) = true := bne_iff_ne.mpr c41
               have H' := Aside0.mk H
               clear H
               have hnb50 := NB196_182.out
               have hnc50 := NB182_196.out
               have hnb51 := NB196_189.out
               have hnc51 := NB189_196.out
               obtain ⟨hcz52_0, hcz52_1, hcz52_2, hfz52_0, hfz52_1, hfz52_2⟩ := bc3_ (w := wr) BK196
               have p197 : 0 ≤ (x9_2 : Int) := of_decide_eq_true (by first | (with_reducible assumption) | assumption)
               have q197 : x9_2 < (t193.length : Int) := of_decide_eq_true (by first | (with_reducible assumption) | assumption)
               obtain ⟨ad197, e197, hx197_0⟩ := Kd.at_int (Kd.R_reads' HO_197002.out).2.2 x9_2 p197 q197
               cases e197
               replace p197 := eq_true p197
               replace q197 := eq_true q197
               go_wp2
               (try simp only [← hl190002_2])
               go_roundg k2
               case measure => have := HK1.out; have := HK2.out; omega
               case rel => exact ⟨(wrap64 (x9_2 + 1)), (x13_2), (by first | rfl | (simp; done) | (simp [*]; done)), H', ⟨by have := HK1.out; have := HK2.out; omega⟩, ⟨by (try simp only [hl190002_2]); (with_reducible repeat (first | apply Kd.R_alloc | apply Kd.R_drewN | apply Kd.R_drew)); exact HO_13.out⟩, ⟨by (try simp only [hl190002_2]); (with_reducible repeat (first | apply Kd.R_alloc | apply Kd.R_drewN | apply Kd.R_drew)); exact HO_190002.out⟩, ⟨by (try simp only [hl190002_2]); (with_reducible repeat (first | apply Kd.R_alloc | apply Kd.R_drewN | apply Kd.R_drew)); exact HO_197002.out⟩, ⟨by (try simp only [hl190002_2]); (with_reducible repeat (first | refine blk_drewN ?_ _ | refine blk_drew ?_ | refine blk_alloc ?_ _)); exact BK182.out⟩, ⟨by (try simp only [hl190002_2]); (with_reducible repeat (first | refine blk_drewN ?_ _ | refine blk_drew ?_ | refine blk_alloc ?_ _)); exact BK189.out⟩, ⟨by (try simp only [hl190002_2]); (with_reducible repeat (first | refine blk_drewN ?_ _ | refine blk_drew ?_ | refine blk_alloc ?_ _)); exact BK196.out⟩, ⟨(bw_ w)⟩⟩
             ·rw [if_neg c40] at H
              exact absurd H (by simp)
            ·rw [if_neg c39] at H
             have c39b0 : decide (x9_2 < (t193.length : Int)) = false := decide_eq_false c39
             (try simp only [hl190002_2] at c39b0)
             clear c39
             have H' := Aside0.mk H
             clear H
             have hnb53 := NB196_182.out
             have hnc53 := NB182_196.out
             have hnb54 := NB196_189.out
             have hnc54 := NB189_196.out
             obtain ⟨hcz55_0, hcz55_1, hcz55_2, hfz55_0, hfz55_1, hfz55_2⟩ := bc3_ (w := wr) BK196
             go_wp2
             (try simp only [← hl190002_2])
             go_roundg k2
             case measure => have := HK1.out; have := HK2.out; omega
             case rel => exact ⟨(wrap64 (x6_1 + 1)), (x13_2), (by first | rfl | (simp; done) | (simp [*]; done)), H', ⟨by have := HK1.out; have := HK2.out; omega⟩, ⟨by (try simp only [hl190002_2]); (with_reducible repeat (first | apply Kd.R_alloc | apply Kd.R_drewN | apply Kd.R_drew)); exact Kd.R_mono HO_13.out (fun _ hk => trivial)⟩, ⟨by (try simp only [hl190002_2]); (with_reducible repeat (first | refine blk_drewN ?_ _ | refine blk_drew ?_ | refine blk_alloc ?_ _)); exact BK182.out⟩, ⟨(bw_ w)⟩⟩
         ·rw [if_neg c13] at H
          exact absurd H (by simp)
        ·rw [if_neg c12] at H
         exact absurd H (by simp)
       ·rw [if_neg c11] at H
        exact absurd H (by simp)
      ·rw [if_neg c10] at H
       exact absurd H (by simp)
     ·rw [if_neg c9] at H
      have c9b0 : decide (x6_1 < (l0_2.length : Int)) = false := decide_eq_false c9
      clear c9
      obtain rfl := Option.some.inj H
      obtain ⟨hcz56_0, hcz56_1, hcz56_2, hfz56_0, hfz56_1, hfz56_2⟩ := bc3_ (w := wr) BK182
      go_wp2
      go_ret
      exact ⟨_, by first | rfl | (simp [errW_none, errW_some] <;> rfl) | (simp [*, errW_none, errW_some] <;> rfl), by (with_reducible repeat (first | apply Kd.R_alloc | apply Kd.R_drewN | apply Kd.R_drew)); exact HO_13.out, (bw_ w)⟩
  ·rw [if_neg c4] at H
   exact absurd H (by simp)
 ·rw [if_neg c3] at H
  exact absurd H (by simp)

end Go.Proofs.Ytijmljaemalgmaa.PFnExactFewestChanges
