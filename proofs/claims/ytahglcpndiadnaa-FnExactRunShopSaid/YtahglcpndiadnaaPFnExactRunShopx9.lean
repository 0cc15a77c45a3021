-- Printed by this session's own program (wip/tool/myprint.py, over the kit's print); Lean checks it.
import Derived.Test.YtahglcpndiadnaaPFnExactRunShopx0
import Derived.Test.YtahglcpndiadnaaPFnExactRunShopx6
import Derived.Test.YtahglcpndiadnaaPFnExactRunShopx7
import Derived.Test.YtahglcpndiadnaaPFnExactRunShopx8
namespace Go.Proofs.Ytahglcpndiadnaa.PFnExactRunShop
open Go.RowKit Go.Proofs.YtahglcpndiadnaaW.PrintWords Go.Proofs.YtahglcpndiadnaaW.PrintLast Go.Proofs.YtahglcpndiadnaaW.PrintMore
attribute [local go_sem] max2_int min2_int max_two min_two max_three min_three max_four min_four   -- for this text's walks alone
set_option linter.unusedVariables false
set_option linter.unusedSimpArgs false

/-! ### spec_RunShop: function 12 -/
mutual
def spec_RunShop.j0 : Nat → List (S30) → Bool → Int → Int → List (S34) → Int → Option (Int × Int × (List (S34)) × Int × Int × Bool)
  | 0, _, _, _, _, _, _ => none
  | k + 1, x1, x19, x286000, x286001, x286002, x286003 => if x19 = true then (some (0, 0, ([] : List (S34)), 0, 0, false)) else ((spec_l25Own.f x286000 x286001 x286002 x286003).bind fun bt288 => (spec_RunShop.l0 k x1 0 0 bt288.1 bt288.2.1 bt288.2.2.1 bt288.2.2.2))
def spec_RunShop.l0 : Nat → List (S30) → Int → Int → Int → Int → List (S34) → Int → Option (Int × Int × (List (S34)) × Int × Int × Bool)
  | 0, _, _, _, _, _, _, _ => none
  | k + 1, x1, x8, x9, x295000, x295001, x295002, x295003 => if x9 < (x1.length : Int) then (if 0 ≤ x9 then ((spec_l25Step.f x295000 x295001 x295002 x295003 ((rd_T30 x1 x9).f0) ((rd_T30 x1 x9).f1) ((rd_T30 x1 x9).f2)).bind fun t296 => (if t296 = true then ((spec_l25Make.f k x295000 x295001 x295002 x295003 ((rd_T30 x1 x9).f0) ((rd_T30 x1 x9).f1) ((rd_T30 x1 x9).f2)).bind fun bt298 => (if bt298.2.2.2.2 = true then (spec_RunShop.l0 k x1 (wrap64 (x8 + 1)) (wrap64 (x9 + 1)) bt298.1 bt298.2.1 bt298.2.2.1 bt298.2.2.2.1) else (spec_RunShop.l0 k x1 x8 (wrap64 (x9 + 1)) x295000 x295001 x295002 x295003))) else (spec_RunShop.l0 k x1 x8 (wrap64 (x9 + 1)) x295000 x295001 x295002 x295003))) else (none)) else (some (x295000, x295001, x295002, x295003, x8, true))
end
def spec_RunShop.f (k : Nat) (a0_0 : Int) (a0_1 : Int) (l0_2 : List (S34)) (a0_3 : Int) (l1 : List (S30)) : Option (Int × Int × (List (S34)) × Int × Int × Bool) := (spec_l25Good.f k a0_0 a0_1 l0_2 a0_3).bind fun t287 => (if t287 = true then (spec_RunShop.j0 k l1 (decide ((l1.length : Int) > 40)) a0_0 a0_1 l0_2 a0_3) else (spec_RunShop.j0 k l1 true a0_0 a0_1 l0_2 a0_3))
theorem spec_RunShop.mono_l : ∀ k, (∀ y0 y1 y2 y3 y4 y5, LeO (spec_RunShop.j0 k y0 y1 y2 y3 y4 y5) (spec_RunShop.j0 (k + 1) y0 y1 y2 y3 y4 y5)) ∧ (∀ y0 y1 y2 y3 y4 y5 y6, LeO (spec_RunShop.l0 k y0 y1 y2 y3 y4 y5 y6) (spec_RunShop.l0 (k + 1) y0 y1 y2 y3 y4 y5 y6))
  | 0 => ⟨fun _ _ _ _ _ _ r h => by simp [spec_RunShop.j0] at h, fun _ _ _ _ _ _ _ r h => by simp [spec_RunShop.l0] at h⟩
  | k + 1 => by
    obtain ⟨ih0, ih1⟩ := spec_RunShop.mono_l k
    refine ⟨?_, ?_⟩
    · intro y0 y1 y2 y3 y4 y5
      unfold spec_RunShop.j0
      repeat' first
      | (with_reducible exact ih0 _ _ _ _ _ _)
      | (with_reducible exact ih1 _ _ _ _ _ _ _)
      | (with_reducible exact spec_l25Good.mono _ _ _ _ _)
      | (with_reducible exact spec_l25Make.mono _ _ _ _ _ _ _ _)
      | (with_reducible exact LeO.refl _)
      | (with_reducible exact LeO.none _)
      | (with_reducible refine LeO.ite ?_ ?_)
      | (with_reducible refine LeO.bind ?_ (fun _ => ?_))
      | exact ih0 _ _ _ _ _ _
      | exact ih1 _ _ _ _ _ _ _
      | exact spec_l25Good.mono _ _ _ _ _
      | exact spec_l25Make.mono _ _ _ _ _ _ _ _
      | exact LeO.none _
      | refine LeO.ite ?_ ?_
      | refine LeO.bind ?_ (fun _ => ?_)
    · intro y0 y1 y2 y3 y4 y5 y6
      unfold spec_RunShop.l0
      repeat' first
      | (with_reducible exact ih0 _ _ _ _ _ _)
      | (with_reducible exact ih1 _ _ _ _ _ _ _)
      | (with_reducible exact spec_l25Good.mono _ _ _ _ _)
      | (with_reducible exact spec_l25Make.mono _ _ _ _ _ _ _ _)
      | (with_reducible exact LeO.refl _)
      | (with_reducible exact LeO.none _)
      | (with_reducible refine LeO.ite ?_ ?_)
      | (with_reducible refine LeO.bind ?_ (fun _ => ?_))
      | exact ih0 _ _ _ _ _ _
      | exact ih1 _ _ _ _ _ _ _
      | exact spec_l25Good.mono _ _ _ _ _
      | exact spec_l25Make.mono _ _ _ _ _ _ _ _
      | exact LeO.none _
      | refine LeO.ite ?_ ?_
      | refine LeO.bind ?_ (fun _ => ?_)
theorem spec_RunShop.mono : ∀ a0 a1 a2 a3 a4 k, LeO (spec_RunShop.f k a0 a1 a2 a3 a4) (spec_RunShop.f (k + 1) a0 a1 a2 a3 a4) := by
  intro a0 a1 a2 a3 a4 k
  obtain ⟨ih0, ih1⟩ := spec_RunShop.mono_l k
  unfold spec_RunShop.f
  repeat' first
      | (with_reducible exact ih0 _ _ _ _ _ _)
      | (with_reducible exact ih1 _ _ _ _ _ _ _)
      | (with_reducible exact spec_l25Good.mono _ _ _ _ _)
      | (with_reducible exact spec_l25Make.mono _ _ _ _ _ _ _ _)
      | (with_reducible exact LeO.refl _)
      | (with_reducible exact LeO.none _)
      | (with_reducible refine LeO.ite ?_ ?_)
      | (with_reducible refine LeO.bind ?_ (fun _ => ?_))
      | exact ih0 _ _ _ _ _ _
      | exact ih1 _ _ _ _ _ _ _
      | exact spec_l25Good.mono _ _ _ _ _
      | exact spec_l25Make.mono _ _ _ _ _ _ _ _
      | exact LeO.none _
      | refine LeO.ite ?_ ?_
      | refine LeO.bind ?_ (fun _ => ?_)
def spec_RunShop.T8 : Bool × List (List Nat × List Nat) := (true, [([], []), ([], []), ([], []), ([1, 2], [1, 2]), ([3], [3]), ([0, 4], [0, 4]), ([5], [5]), ([6], [6]), ([6], [6]), ([], []), ([9, 7, 5, 0, 1, 2, 3, 4, 5, 6, 7, 9], [7, 9]), ([8, 10, 0, 1, 2, 3, 4, 5, 6, 7, 8, 9, 10], [8])])
def spec_RunShop.B8 : List Nat := [0, 0, 0, 6, 14, 31, 63, 127, 127, 0, 767, 2047]
theorem spec_RunShop.tab8 : rtab .any (opsOf Try.f12 8) = spec_RunShop.T8 := by kernel_rfl
theorem spec_RunShop.bits8 : waitsOk spec_RunShop.T8.2 spec_RunShop.B8 = true := by kernel_rfl
set_option maxHeartbeats 8000000 in
set_option maxRecDepth 100000 in
theorem spec_RunShop.calls (k : Nat) (a0_0 : Int) (a0_1 : Int) (A0_2 : Option Addr) (c0_2 : Nat) (l0_2 : List (S34)) (a0_3 : Int) (A1 : Option Addr) (c1 : Nat) (l1 : List (S30)) (r1 : Int) (r2 : Int) (r3 : List (S34)) (r4 : Int) (r5 : Int) (r6 : Bool) (w : World) (hr0_2 : Kd.C k34 w A0_2 l0_2.length l0_2) (hc0_2 : l0_2.length ≤ c0_2) (hr1 : Kd.C k30 w A1 l1.length l1) (hc1 : l1.length ≤ c1) (h : spec_RunShop.f k a0_0 a0_1 l0_2 a0_3 l1 = some (r1, r2, r3, r4, r5, r6)) :
  Calls Try.prog 12 #[.agg #[.int .i64 a0_0, .int .i64 a0_1, .slice A0_2 l0_2.length c0_2, .int .i64 a0_3], .slice A1 l1.length c1] w fun e w' => ∃ v2_ : Value, e = .returned (.tuple #[.agg #[.int .i64 r1, .int .i64 r2, v2_, .int .i64 r4], .int .i64 r5, .bool r6]) ∧ Kd.R k34 34 w' w.heap.size (fun _ => True) v2_ r3 ∧ Below w.heap.size w w' := by
 have hu24 := Try.underlying24
 have hu30 := Try.underlying30
 have HR0_2 := Aside0.mk hr0_2
 have HC0_2 := Aside0.mk hc0_2
 clear hr0_2 hc0_2
 have HR1 := Aside0.mk hr1
 have HC1 := Aside0.mk hc1
 clear hr1 hc1
 have HB := Aside0.mk (Below.refl w.heap.size w)
 have H : ((spec_l25Good.f k a0_0 a0_1 l0_2 a0_3).bind fun t287 => (if t287 = true then (spec_RunShop.j0 k l1 (decide ((l1.length : Int) > 40)) a0_0 a0_1 l0_2 a0_3) else (spec_RunShop.j0 k l1 true a0_0 a0_1 l0_2 a0_3))) = some (r1, r2, r3, r4, r5, r6) := h
 clear h
 have HC3 := Aside0.mk H
 clear H
 go_enter Try.func12, Try.ntmps12
 go_upto_region 1 with (first | ((with_reducible refine gate_dst (N := 2) rfl ?_); refine box_ (N := 2) (cs := #[.int .i64 a0_0, .int .i64 a0_1, .slice A0_2 l0_2.length c0_2, .int .i64 a0_3]) (t := 24) ?_; intro gb285 hg w4 hbox hb; have BK285 := Aside0.mk (hbox); have GW285 := gz_ w hg; have GE285 := gz_ w hg; replace HB := hb_ w hb; clear hb hbox hg) | ((with_reducible refine gate_dst (N := 4) rfl ?_); refine box_ (N := 4) (cs := #[.int .i64 0, .int .i64 0, .slice none 0 0, .int .i64 0]) (t := 24) ?_; intro gb286 hg w5 hbox hb; have BK286 := Aside0.mk (hbox); have GW286 := gz_ w hg; have GE286 := gz_ w hg; have NB285_286 := ne_ hg BK285; have NB286_285 := en_ hg BK285; replace BK285 := bb_ BK285 hb; replace HB := hb_ w hb; clear hb hbox hg))
 (try simp only [Act.put, List.setIfInBounds_toArray, List.set_cons_zero, List.set_cons_succ])
 go_cut [19] (fun v19 wc => ∃ (kq : Nat) (x19_2 : Bool), v19 = .bool x19_2 ∧ Aside0 (spec_RunShop.j0 kq l1 x19_2 a0_0 a0_1 l0_2 a0_3 = some (r1, r2, r3, r4, r5, r6)) ∧ Aside0 (kq ≤ k) ∧ Aside0 (wc.heap[gb285]? = some (.cells #[.int .i64 a0_0, .int .i64 a0_1, (.slice A0_2 l0_2.length c0_2), .int .i64 a0_3] 24 (0, 0))) ∧ Aside0 (wc.heap[gb286]? = some (.cells #[.int .i64 0, .int .i64 0, (.slice none 0 0), .int .i64 0] 24 (0, 0))) ∧ Aside0 (Below w.heap.size w wc))
 case first =>
  have H := HC3.out
  clear HC3
  replace H := Option.bind_eq_some_iff.mp H
  obtain ⟨t287, A60, H⟩ := H
  (try dsimp only at H)
  have A6 := Aside0.mk A60
  clear A60
  by_cases c7 : t287 = true
  ·subst c7
   rw [if_pos rfl] at H
   have H' := Aside0.mk H
   clear H
   have hnb8 := NB285_286.out
   have hnc8 := NB286_285.out
   obtain ⟨hcz9_0, hcz9_1, hcz9_2, hcz9_3, hfz9_0, hfz9_1, hfz9_2, hfz9_3⟩ := bc4_ (w := w5) BK285
   go_wp2_with (first | ((with_reducible refine gate_callee (f := 63) rfl ?_); refine goesB (some 13) Try.func63 #[.agg #[.int .i64 a0_0, .int .i64 a0_1, .slice A0_2 l0_2.length c0_2, .int .i64 a0_3]] ?_; (with_reducible refine (spec_l25Good.calls k a0_0 a0_1 _ _ l0_2 a0_3 true _ ?side1 ?side2 A6.out).mono ?_); (case side1 => exact cb_ HR0_2 HB); (case side2 => exact HC0_2.out); rintro e w10 ⟨rfl, hb⟩; refine ⟨_, rfl, ?_⟩; replace BK285 := bb_ BK285 hb; replace BK286 := bb_ BK286 hb; replace HB := hb_ w hb; clear hb))
   go_meet
   case rel => exact ⟨_, (decide ((l1.length : Int) > 40)), (by first | rfl | (simp; done) | (simp [*]; done)), H', ⟨by first | omega | exact Nat.le_refl _⟩, ⟨bk_ BK285⟩, ⟨bk_ BK286⟩, ⟨(bw_ w)⟩⟩
  ·replace c7 := Bool.eq_false_iff.mpr c7
   subst c7
   rw [if_neg (show ¬ (false = true) by decide)] at H
   have H' := Aside0.mk H
   clear H
   have hnb11 := NB285_286.out
   have hnc11 := NB286_285.out
   obtain ⟨hcz12_0, hcz12_1, hcz12_2, hcz12_3, hfz12_0, hfz12_1, hfz12_2, hfz12_3⟩ := bc4_ (w := w5) BK285
   go_wp2_with (first | ((with_reducible refine gate_callee (f := 63) rfl ?_); refine goesB (some 13) Try.func63 #[.agg #[.int .i64 a0_0, .int .i64 a0_1, .slice A0_2 l0_2.length c0_2, .int .i64 a0_3]] ?_; (with_reducible refine (spec_l25Good.calls k a0_0 a0_1 _ _ l0_2 a0_3 false _ ?side1 ?side2 A6.out).mono ?_); (case side1 => exact cb_ HR0_2 HB); (case side2 => exact HC0_2.out); rintro e w13 ⟨rfl, hb⟩; refine ⟨_, rfl, ?_⟩; replace BK285 := bb_ BK285 hb; replace BK286 := bb_ BK286 hb; replace HB := hb_ w hb; clear hb))
   go_meet
   case rel => exact ⟨_, (true), (by first | rfl | (simp; done) | (simp [*]; done)), H', ⟨by first | omega | exact Nat.le_refl _⟩, ⟨bk_ BK285⟩, ⟨bk_ BK286⟩, ⟨(bw_ w)⟩⟩
 case rest =>
  clear HC3
  try clear c1
  try clear p2
  try clear c6
  try clear c7
  try clear c8
  try clear c11
  try clear c12
  try clear hcz12_0 hcz12_1 hcz12_2 hcz12_3
  try clear hcz9_0 hcz9_1 hcz9_2 hcz9_3
  try clear hfz12_0 hfz12_1 hfz12_2 hfz12_3
  try clear hfz9_0 hfz9_1 hfz9_2 hfz9_3
  obtain ⟨kq, x19_2, rfl, HA, HJ2, BK285, BK286, HB⟩ := hcut
  cases kq with
  | zero => exact absurd HA.out (by simp [spec_RunShop.j0])
  | succ kj2 =>
   have H := HA.out
   clear HA
   simp only [spec_RunShop.j0] at H
   by_cases c14 : x19_2 = true
   ·subst c14
    rw [if_pos rfl] at H
    simp only [Option.some.injEq, Prod.mk.injEq] at H
    obtain ⟨rfl, rfl, rfl, rfl, rfl, rfl⟩ := H
    have hnb15 := NB286_285.out
    have hnc15 := NB285_286.out
    obtain ⟨hcz16_0, hcz16_1, hcz16_2, hcz16_3, hfz16_0, hfz16_1, hfz16_2, hfz16_3⟩ := bc4_ (w := wc) BK286
    go_wp2
    refine bodyPost_ret (results_ctt rfl _ _ gb286 24 #[.int .i64 0, .int .i64 0, .slice none 0 0, .int .i64 0] (0, 0) _ rfl (bq_ BK286) Try.underlying24 rfl (by kernel_rfl)) rfl ?_
    exact ⟨_, by first | rfl | (simp [errW_none, errW_some] <;> rfl) | (simp [*, errW_none, errW_some] <;> rfl), by first | exact Kd.R_nil _ _ _ _ _ | exact Kd.N_nil _ _ _ _ _ | exact Kd.V_nil _ _ _ _ _ | exact Kd.Q_nil _ _ _ _ _ | exact Kd.S_nil _ _ _ _ _, (bw_ w)⟩
   ·replace c14 := Bool.eq_false_iff.mpr c14
    subst c14
    rw [if_neg (show ¬ (false = true) by decide)] at H
    replace H := Option.bind_eq_some_iff.mp H
    obtain ⟨⟨t288, t289, t290, t293⟩, A170, H⟩ := H
    (try dsimp only at H)
    have A17 := Aside0.mk A170
    clear A170
    have H' := Aside0.mk H
    clear H
    have hnb18 := NB285_286.out
    have hnc18 := NB286_285.out
    obtain ⟨hcz19_0, hcz19_1, hcz19_2, hcz19_3, hfz19_0, hfz19_1, hfz19_2, hfz19_3⟩ := bc4_ (w := wc) BK285
    go_wp2_with (first | ((with_reducible refine gate_callee (f := 64) rfl ?_); refine goesB (some 22) Try.func64 #[.agg #[.int .i64 a0_0, .int .i64 a0_1, .slice A0_2 l0_2.length c0_2, .int .i64 a0_3]] ?_; (with_reducible refine (spec_l25Own.calls a0_0 a0_1 _ _ l0_2 a0_3 t288 t289 t290 t293 _ ?side1 ?side2 A17.out).mono ?_); (case side1 => exact cb_ HR0_2 HB); (case side2 => exact HC0_2.out); rintro e w20 ⟨v291, rfl, ho0, hb⟩; refine ⟨_, rfl, ?_⟩; have HO292 := Aside0.mk (Kd.R_lower ho0 (below_size (bw_ w))); replace BK285 := bb_ BK285 hb; replace BK286 := bb_ BK286 hb; replace HB := hb_ w hb; (try clear hb); (try clear hb2); (try clear hk); (try clear hi); (try clear ho0)) | ((with_reducible refine gate_dst (N := 7) rfl ?_); refine box_ (N := 7) (cs := #[.int .i64 0, .int .i64 0, .slice none 0 0, .int .i64 0]) (t := 24) ?_; intro gb294 hg w21 hbox hb; have BK294 := Aside0.mk (hbox); have GW294 := gz_ w hg; have GE294 := gz_ w hg; have NB285_294 := ne_ hg BK285; have NB294_285 := en_ hg BK285; have NB286_294 := ne_ hg BK286; have NB294_286 := en_ hg BK286; replace HO292 := Aside0.mk (Kd.R_below (ra_ HO292) hb); replace BK285 := bb_ BK285 hb; replace BK286 := bb_ BK286 hb; replace HB := hb_ w hb; clear hb hbox hg; have hnb22 := NB294_285.out; have hnc22 := NB285_294.out; have hnb23 := NB294_286.out; have hnc23 := NB286_294.out; obtain ⟨hcz24_0, hcz24_1, hcz24_2, hcz24_3, hfz24_0, hfz24_1, hfz24_2, hfz24_3⟩ := bc4_ (w := w21) BK294; obtain ⟨Ao25, co25, eo25⟩ := Kd.R_slice HO292.out; subst eo25))
    go_loopg [8, 9] kj2 (fun kq v8 v9 w' => ∃ (x8_2 : Int) (x9_2 : Int) (x295000_2 : Int) (x295001_2 : Int) (x295002_2 : List (S34)) (x295003_2 : Int) (u295002 : Value), v8 = .int .i64 x8_2 ∧ v9 = .int .i64 x9_2 ∧ Aside0 (spec_RunShop.l0 kq l1 x8_2 x9_2 x295000_2 x295001_2 x295002_2 x295003_2 = some (r1, r2, r3, r4, r5, r6)) ∧ Aside0 (kq ≤ kj2) ∧ Aside0 (Kd.R k34 34 w' w.heap.size (fun _ => True) u295002 x295002_2) ∧ Aside0 (w'.heap[gb285]? = some (.cells #[.int .i64 a0_0, .int .i64 a0_1, (.slice A0_2 l0_2.length c0_2), .int .i64 a0_3] 24 (0, 0))) ∧ Aside0 (w'.heap[gb286]? = some (.cells #[.int .i64 0, .int .i64 0, (.slice none 0 0), .int .i64 0] 24 (0, 0))) ∧ Aside0 (w'.heap[gb294]? = some (.cells #[.int .i64 x295000_2, .int .i64 x295001_2, u295002, .int .i64 x295003_2] 24 (0, 0))) ∧ Aside0 (Below w.heap.size w w'))
    case atStart => exact ⟨(0), (0), (t288), (t289), (t290), (t293), (.slice Ao25 t290.length co25), (by first | rfl | (simp; done) | (simp [*]; done)), (by first | rfl | (simp; done) | (simp [*]; done)), H', ⟨Nat.le_refl _⟩, ⟨by exact rf_ (Kd.R_types HO292.out BK294.out (by decide)) (fun _ hk => trivial)⟩, ⟨bk_ BK285⟩, ⟨bk_ BK286⟩, ⟨bq_ BK294⟩, ⟨(bw_ w)⟩⟩
    case round =>
     clear H'
     try clear c1
     try clear c2
     try clear p2
     try clear c6
     try clear c7
     try clear c8
     try clear c11
     try clear c12
     try clear c14
     try clear c15
     try clear c18
     try clear c22
     try clear c23
     try clear hcz12_0 hcz12_1 hcz12_2 hcz12_3
     try clear hcz16_0 hcz16_1 hcz16_2 hcz16_3
     try clear hcz19_0 hcz19_1 hcz19_2 hcz19_3
     try clear hcz24_0 hcz24_1 hcz24_2 hcz24_3
     try clear hcz9_0 hcz9_1 hcz9_2 hcz9_3
     try clear hfz12_0 hfz12_1 hfz12_2 hfz12_3
     try clear hfz16_0 hfz16_1 hfz16_2 hfz16_3
     try clear hfz19_0 hfz19_1 hfz19_2 hfz19_3
     try clear hfz24_0 hfz24_1 hfz24_2 hfz24_3
     try clear hfz9_0 hfz9_1 hfz9_2 hfz9_3
     try clear p2
     obtain ⟨x8_2, x9_2, x295000_2, x295001_2, x295002_2, x295003_2, u295002, rfl, rfl, HA, HK2, HO_295002, BK285, BK286, BK294, HB⟩ := hrel
     cases gk with
     | zero => exact absurd HA.out (by simp [spec_RunShop.l0])
     | succ k2 =>
      have H := HA.out
      clear HA
      simp only [spec_RunShop.l0] at H
      by_cases c26 : x9_2 < (l1.length : Int)
      ·rw [if_pos c26] at H
       have c26b0 := decide_eq_true c26
       clear c26
       by_cases c27 : 0 ≤ x9_2
       ·rw [if_pos c27] at H
        have c27b0 := decide_eq_true c27
        clear c27
        replace H := Option.bind_eq_some_iff.mp H
        obtain ⟨t296, A280, H⟩ := H
        (try dsimp only at H)
        have A28 := Aside0.mk A280
        clear A280
        by_cases c29 : t296 = true
        ·subst c29
         rw [if_pos rfl] at H
         replace H := Option.bind_eq_some_iff.mp H
         obtain ⟨⟨t298, t299, t300, t303, t304⟩, A300, H⟩ := H
         (try dsimp only at H)
         have A30 := Aside0.mk A300
         clear A300
         by_cases c31 : t304 = true
         ·subst c31
          rw [if_pos rfl] at H
          have H' := Aside0.mk H
          clear H
          try go_wp2
          replace HO_295002 := Aside0.mk (Kd.R_drew HO_295002.out)
          replace BK285 := Aside0.mk (blk_drew BK285.out)
          replace BK286 := Aside0.mk (blk_drew BK286.out)
          replace BK294 := Aside0.mk (blk_drew BK294.out)
          replace HB := Aside0.mk (below_drew1 HB.out)
          have p295 : 0 ≤ (x9_2 : Int) := of_decide_eq_true (by first | (with_reducible assumption) | assumption)
          have q295 : x9_2 < (l1.length : Int) := of_decide_eq_true (by first | (with_reducible assumption) | assumption)
          obtain ⟨ad295, e295, hx295_0, hx295_1, hx295_2⟩ := at_T30 HR1.out x9_2 p295 q295
          have hw295_2 := hx295_2
          have hw295_1 := hx295_1
          have hw295_0 := hx295_0
          cases e295
          replace hx295_0 := (HB.out.cell (World.block_lt_of_cell? w _ hx295_0)).trans hx295_0
          replace hx295_1 := (HB.out.cell (World.block_lt_of_cell? w _ hx295_1)).trans hx295_1
          replace hx295_2 := (HB.out.cell (World.block_lt_of_cell? w _ hx295_2)).trans hx295_2
          replace p295 := eq_true p295
          replace q295 := eq_true q295
          obtain ⟨Ao33, co33, eo33⟩ := Kd.R_slice HO_295002.out
          (first | subst eo33 | (injection eo33 with f1_ f2_ f3_; have f4_ := f1_.symm; have f5_ := f3_.symm; clear f1_ f2_ f3_; subst f4_; subst f5_))
          refine start_ (n := 7) (S := fun w' => w'.cell? ⟨gb294, 0, none⟩ = some (.int .i64 x295000_2) ∧ w'.cell? ⟨gb294, 1, none⟩ = some (.int .i64 x295001_2) ∧ w'.cell? ⟨gb294, 2, none⟩ = some (.slice Ao33 x295002_2.length co33) ∧ w'.cell? ⟨gb294, 3, none⟩ = some (.int .i64 x295003_2) ∧ w'.cell? (ad295.add ((x9_2).toNat * 3)) = some (.int .i64 ((rd_T30 l1 x9_2).f0)) ∧ w'.cell? ⟨(ad295.add ((x9_2).toNat * 3)).block, (ad295.add ((x9_2).toNat * 3)).off + 1, none⟩ = some (.int .i64 ((rd_T30 l1 x9_2).f1)) ∧ w'.cell? ⟨(ad295.add ((x9_2).toNat * 3)).block, (ad295.add ((x9_2).toNat * 3)).off + 2, none⟩ = some (.int .i64 ((rd_T30 l1 x9_2).f2))) (ds := []) #[false, false, false, false, false, false, false] (by kernel_rfl) rfl rfl ⟨bc_ BK294 0, bc_ BK294 1, bc_ BK294 2, bc_ BK294 3, (bh_ HB hw295_0 :), (bh_ HB hw295_1 :), (bh_ HB hw295_2 :)⟩ (fun hHeld => ?_)
          generalize wr.drew = w32 at HO_295002 BK285 BK286 BK294 HB hx295_0 hx295_1 hx295_2 hHeld ⊢
          refine pureK (N := some 30) 1 ?_
          refine pureK (N := some 31) 2 ?_
          refine pureK (N := some 32) 3 ?_
          refine take_ (i := 0) (N := some 29) (v := ?_) (a' := ?_) #[true, true, true, true, false, false, false] rfl rfl (by kernel_rfl) (fun _ _ _ h => h) (Or.inl ⟨by rfl, ?_⟩) hHeld ?_ ?_
          rotate_left
          ·rintro w' ⟨s0, s1, s2, s3, s4, s5, s6⟩
           go_simp
           with_reducible rfl
          rotate_left
          ·simp only [Act.put, List.setIfInBounds_toArray, List.set_cons_zero, List.set_cons_succ, i64_w, i32_w]
           rfl
          refine take_ (i := 4) (N := some 33) (v := ?_) (a' := ?_) #[true, true, true, true, true, false, false] rfl rfl (by kernel_rfl) (fun _ _ _ h => h) (Or.inl ⟨by rfl, ?_⟩) hHeld ?_ ?_
          rotate_left
          ·rintro w' ⟨s0, s1, s2, s3, s4, s5, s6⟩
           go_simp
           with_reducible rfl
          rotate_left
          ·simp only [Act.put, List.setIfInBounds_toArray, List.set_cons_zero, List.set_cons_succ, i64_w, i32_w]
           rfl
          refine one_ (i := 5) (N := some 34) #[true, true, true, true, true, true, false] rfl rfl (by kernel_rfl) (by decide) (fun K hK => ?_)
          refine goesA Try.func65 #[.agg #[.int .i64 x295000_2, .int .i64 x295001_2, .slice Ao33 x295002_2.length co33, .int .i64 x295003_2], .agg #[.int .i64 ((rd_T30 l1 x9_2).f0), .int .i64 ((rd_T30 l1 x9_2).f1), .int .i64 ((rd_T30 l1 x9_2).f2)]] ?_
          with_reducible refine (spec_l25Step.calls x295000_2 x295001_2 _ _ x295002_2 x295003_2 ((rd_T30 l1 x9_2).f0) ((rd_T30 l1 x9_2).f1) ((rd_T30 l1 x9_2).f2) true _ ?side1 ?side2 A28.out).mono ?_
          (case side1 => exact co_ (Kd.R_reads' HO_295002.out).2.2)
          (case side2 => exact (Kd.R_reads' HO_295002.out).2.1)
          rintro e w34 ⟨rfl, hb⟩
          refine ⟨_, rfl, ?_⟩
          replace HO_295002 := Aside0.mk (Kd.R_below (ra_ HO_295002) hb)
          replace BK285 := bb_ BK285 hb
          replace BK286 := bb_ BK286 hb
          replace BK294 := bb_ BK294 hb
          replace HB := hb_ w hb
          clear hb
          refine hK.out _ _ ⟨bc_ BK294 0, bc_ BK294 1, bc_ BK294 2, bc_ BK294 3, (bh_ HB hw295_0 :), (bh_ HB hw295_1 :), (bh_ HB hw295_2 :)⟩ (fun hHeld => ?_)
          clear hK K
          refine normA (N := some 34) ?_
          refine pureK (N := some 35) 6 ?_
          refine done_ (by kernel_rfl) ?_
          try go_wp2
          replace HO_295002 := Aside0.mk (Kd.R_drew HO_295002.out)
          replace BK285 := Aside0.mk (blk_drew BK285.out)
          replace BK286 := Aside0.mk (blk_drew BK286.out)
          replace BK294 := Aside0.mk (blk_drew BK294.out)
          replace HB := Aside0.mk (below_drew1 HB.out)
          have p297 : 0 ≤ (x9_2 : Int) := of_decide_eq_true (by first | (with_reducible assumption) | assumption)
          have q297 : x9_2 < (l1.length : Int) := of_decide_eq_true (by first | (with_reducible assumption) | assumption)
          obtain ⟨ad297, e297, hx297_0, hx297_1, hx297_2⟩ := at_T30 HR1.out x9_2 p297 q297
          have hw297_2 := hx297_2
          have hw297_1 := hx297_1
          have hw297_0 := hx297_0
          obtain rfl : ad295 = ad297 := (by injection e297)
          replace hx297_0 := (HB.out.cell (World.block_lt_of_cell? w _ hx297_0)).trans hx297_0
          replace hx297_1 := (HB.out.cell (World.block_lt_of_cell? w _ hx297_1)).trans hx297_1
          replace hx297_2 := (HB.out.cell (World.block_lt_of_cell? w _ hx297_2)).trans hx297_2
          replace p297 := eq_true p297
          replace q297 := eq_true q297
          refine start_ (n := 12) (S := fun w' => w'.cell? ⟨gb294, 0, none⟩ = some (.int .i64 x295000_2) ∧ w'.cell? ⟨gb294, 1, none⟩ = some (.int .i64 x295001_2) ∧ w'.cell? ⟨gb294, 2, none⟩ = some (.slice Ao33 x295002_2.length co33) ∧ w'.cell? ⟨gb294, 3, none⟩ = some (.int .i64 x295003_2) ∧ w'.cell? (ad295.add ((x9_2).toNat * 3)) = some (.int .i64 ((rd_T30 l1 x9_2).f0)) ∧ w'.cell? ⟨(ad295.add ((x9_2).toNat * 3)).block, (ad295.add ((x9_2).toNat * 3)).off + 1, none⟩ = some (.int .i64 ((rd_T30 l1 x9_2).f1)) ∧ w'.cell? ⟨(ad295.add ((x9_2).toNat * 3)).block, (ad295.add ((x9_2).toNat * 3)).off + 2, none⟩ = some (.int .i64 ((rd_T30 l1 x9_2).f2))) (ds := []) #[false, false, false, false, false, false, false, false, false, false, false, false] (by kernel_rfl) rfl rfl ⟨bc_ BK294 0, bc_ BK294 1, bc_ BK294 2, bc_ BK294 3, (bh_ HB hw297_0 :), (bh_ HB hw297_1 :), (bh_ HB hw297_2 :)⟩ (fun hHeld => ?_); refine with_tabW spec_RunShop.tab8 spec_RunShop.bits8 (fun HT_ HW_ => ?_)
          generalize w34.drew = w35 at HO_295002 BK285 BK286 BK294 HB hx297_0 hx297_1 hx297_2 hHeld ⊢
          refine pureA (N := some 38) 1 HT_ ?_
          refine pureA (N := some 39) 2 HT_ ?_
          refine pureA (N := some 40) 3 HT_ ?_
          refine takeA (N := some 37) 0 HT_ HW_ hHeld ?_
          refine takeA (N := some 41) 4 HT_ HW_ hHeld ?_
          refine join_ (σ := Value × Nat) 2 #[true, true, true, true, true, true, true, true, true, true, false, false] (fun s_ => [(42, .tuple #[.agg #[.int .i64 t298, .int .i64 t299, s_.1, .int .i64 t303], .bool true]), (10, .pointer (some ⟨s_.2, 0, none⟩)), (36, .tuple #[.agg #[.int .i64 t298, .int .i64 t299, s_.1, .int .i64 t303], .bool true]), (43, .agg #[.int .i64 t298, .int .i64 t299, s_.1, .int .i64 t303]), (44, .bool true)]) (fun s_ w' => (w'.cell? ⟨gb294, 0, none⟩ = some (.int .i64 x295000_2) ∧ w'.cell? ⟨gb294, 1, none⟩ = some (.int .i64 x295001_2) ∧ w'.cell? ⟨gb294, 2, none⟩ = some (.slice Ao33 x295002_2.length co33) ∧ w'.cell? ⟨gb294, 3, none⟩ = some (.int .i64 x295003_2) ∧ w'.cell? (ad295.add ((x9_2).toNat * 3)) = some (.int .i64 ((rd_T30 l1 x9_2).f0)) ∧ w'.cell? ⟨(ad295.add ((x9_2).toNat * 3)).block, (ad295.add ((x9_2).toNat * 3)).off + 1, none⟩ = some (.int .i64 ((rd_T30 l1 x9_2).f1)) ∧ w'.cell? ⟨(ad295.add ((x9_2).toNat * 3)).block, (ad295.add ((x9_2).toNat * 3)).off + 2, none⟩ = some (.int .i64 ((rd_T30 l1 x9_2).f2))) ∧ (Kd.R k34 34 w' w.heap.size (fun k_ => some k_ ≠ (.slice Ao33 x295002_2.length co33 : Value).ownBlock) s_.1 t300) ∧ (Kd.R k34 34 w' w.heap.size (fun k_ => some k_ ≠ (s_.1 : Value).ownBlock) (.slice Ao33 x295002_2.length co33) x295002_2) ∧ (w'.heap[gb285]? = some (.cells #[.int .i64 a0_0, .int .i64 a0_1, .slice A0_2 l0_2.length c0_2, .int .i64 a0_3] 24 (0, 0))) ∧ (w'.heap[gb286]? = some (.cells #[.int .i64 0, .int .i64 0, .slice none 0 0, .int .i64 0] 24 (0, 0))) ∧ (w'.heap[gb294]? = some (.cells #[.int .i64 x295000_2, .int .i64 x295001_2, .slice Ao33 x295002_2.length co33, .int .i64 x295003_2] 24 (0, 0))) ∧ (w'.heap[s_.2]? = some (.cells #[.int .i64 0, .int .i64 0, .slice none 0 0, .int .i64 0] 24 (0, 0))) ∧ (w.heap.size ≤ s_.2) ∧ (w.heap.size ≤ s_.2) ∧ (gb285 ≠ s_.2) ∧ (s_.2 ≠ gb285) ∧ (gb286 ≠ s_.2) ∧ (s_.2 ≠ gb286) ∧ (gb294 ≠ s_.2) ∧ (s_.2 ≠ gb294) ∧ (Below w.heap.size w w')) ?_ ?_
          rotate_left
          ·intro hCont
           refine twoA (Ni := some 42) (Nj := some 10) 5 9 HT_ (fun K hK => ?_) (fun K hK => ?_)
           ·skip
            refine goesA Try.func66 #[.agg #[.int .i64 x295000_2, .int .i64 x295001_2, .slice Ao33 x295002_2.length co33, .int .i64 x295003_2], .agg #[.int .i64 ((rd_T30 l1 x9_2).f0), .int .i64 ((rd_T30 l1 x9_2).f1), .int .i64 ((rd_T30 l1 x9_2).f2)]] ?_
            with_reducible refine (spec_l25Make.calls k2 x295000_2 x295001_2 _ _ x295002_2 x295003_2 ((rd_T30 l1 x9_2).f0) ((rd_T30 l1 x9_2).f1) ((rd_T30 l1 x9_2).f2) t298 t299 t300 t303 true _ ?side1 ?side2 A30.out).mono ?_
            (case side1 => exact co_ (Kd.R_reads' HO_295002.out).2.2)
            (case side2 => exact (Kd.R_reads' HO_295002.out).2.1)
            rintro e w36 ⟨v301, rfl, ho0, hb⟩
            refine ⟨_, rfl, ?_⟩
            have HO302 := Aside0.mk (Kd.R_lower (Kd.R_new' ho0 (Kd.R_lt (ra_ HO_295002))) (below_size (bw_ w)))
            replace HO_295002 := Aside0.mk (Kd.R_elder' (ra_ HO_295002) (Kd.R_base ho0) hb)
            replace BK285 := bb_ BK285 hb
            replace BK286 := bb_ BK286 hb
            replace BK294 := bb_ BK294 hb
            replace HB := hb_ w hb
            (try clear hb)
            (try clear hb2)
            (try clear hk)
            (try clear hi)
            (try clear ho0)
            refine hK.out _ _ ⟨bc_ BK294 0, bc_ BK294 1, bc_ BK294 2, bc_ BK294 3, (bh_ HB hw297_0 :), (bh_ HB hw297_1 :), (bh_ HB hw297_2 :)⟩ (fun hHeld => ?_)
            clear hK K
            refine normA (N := some 42) ?_
            refine pureA (N := some 36) 6 HT_ ?_
            refine pureA (N := some 43) 7 HT_ ?_
            refine pureA (N := some 44) 8 HT_ ?_
            refine oneA (N := some 10) 9 HT_ (fun K hK => ?_)
            refine box_step ?hg (N := 10) ?hd (cs := #[.int .i64 0, .int .i64 0, .slice none 0 0, .int .i64 0]) (t := 24) ?hr ?_; (case hd => rfl); (case hg => rfl); (case hr => first | (go_simp; done) | (go_simp; rfl))
            intro gb305 hg w37 hbox hb
            have BK305 := Aside0.mk (hbox)
            have GW305 := gz_ w hg
            have GE305 := gz_ w hg
            have NB285_305 := ne_ hg BK285
            have NB305_285 := en_ hg BK285
            have NB286_305 := ne_ hg BK286
            have NB305_286 := en_ hg BK286
            have NB294_305 := ne_ hg BK294
            have NB305_294 := en_ hg BK294
            replace HO_295002 := Aside0.mk (Kd.R_below (ra_ HO_295002) hb)
            replace HO302 := Aside0.mk (Kd.R_below (ra_ HO302) hb)
            replace BK285 := bb_ BK285 hb
            replace BK286 := bb_ BK286 hb
            replace BK294 := bb_ BK294 hb
            replace HB := hb_ w hb
            clear hb hbox hg
            refine hK.out _ _ ⟨bc_ BK294 0, bc_ BK294 1, bc_ BK294 2, bc_ BK294 3, (bh_ HB hw297_0 :), (bh_ HB hw297_1 :), (bh_ HB hw297_2 :)⟩ (fun hHeld => ?_)
            clear hK K
            refine normA (N := some 10) ?_
            exact norm_ (by simp only [putAll, Act.put, List.setIfInBounds_toArray, List.set_cons_zero, List.set_cons_succ]) (hCont (v301, gb305) _ ⟨hHeld, (by exact rf_ HO302.out (fun _ hk => hk.2)), (by exact rf_ HO_295002.out (fun _ hk => hk.2)), (bk_ BK285), (bk_ BK286), (bk_ BK294), (bk_ BK305), GW305.out, GE305.out, NB285_305.out, NB305_285.out, NB286_305.out, NB305_286.out, NB294_305.out, NB305_294.out, (bw_ w)⟩)
           ·skip
            refine box_step ?hg (N := 10) ?hd (cs := #[.int .i64 0, .int .i64 0, .slice none 0 0, .int .i64 0]) (t := 24) ?hr ?_; (case hd => rfl); (case hg => rfl); (case hr => first | (go_simp; done) | (go_simp; rfl))
            intro gb305 hg w36 hbox hb
            have BK305 := Aside0.mk (hbox)
            have GW305 := gz_ w hg
            have GE305 := gz_ w hg
            have NB285_305 := ne_ hg BK285
            have NB305_285 := en_ hg BK285
            have NB286_305 := ne_ hg BK286
            have NB305_286 := en_ hg BK286
            have NB294_305 := ne_ hg BK294
            have NB305_294 := en_ hg BK294
            replace HO_295002 := Aside0.mk (Kd.R_below (ra_ HO_295002) hb)
            replace BK285 := bb_ BK285 hb
            replace BK286 := bb_ BK286 hb
            replace BK294 := bb_ BK294 hb
            replace HB := hb_ w hb
            clear hb hbox hg
            refine hK.out _ _ ⟨bc_ BK294 0, bc_ BK294 1, bc_ BK294 2, bc_ BK294 3, (bh_ HB hw297_0 :), (bh_ HB hw297_1 :), (bh_ HB hw297_2 :)⟩ (fun hHeld => ?_)
            clear hK K
            refine normA (N := some 10) ?_
            refine oneA (N := some 42) 5 HT_ (fun K hK => ?_)
            refine goesA Try.func66 #[.agg #[.int .i64 x295000_2, .int .i64 x295001_2, .slice Ao33 x295002_2.length co33, .int .i64 x295003_2], .agg #[.int .i64 ((rd_T30 l1 x9_2).f0), .int .i64 ((rd_T30 l1 x9_2).f1), .int .i64 ((rd_T30 l1 x9_2).f2)]] ?_
            with_reducible refine (spec_l25Make.calls k2 x295000_2 x295001_2 _ _ x295002_2 x295003_2 ((rd_T30 l1 x9_2).f0) ((rd_T30 l1 x9_2).f1) ((rd_T30 l1 x9_2).f2) t298 t299 t300 t303 true _ ?side1 ?side2 A30.out).mono ?_
            (case side1 => exact co_ (Kd.R_reads' HO_295002.out).2.2)
            (case side2 => exact (Kd.R_reads' HO_295002.out).2.1)
            rintro e w37 ⟨v301, rfl, ho0, hb⟩
            refine ⟨_, rfl, ?_⟩
            have HO302 := Aside0.mk (Kd.R_lower (Kd.R_new' ho0 (Kd.R_lt (ra_ HO_295002))) (below_size (bw_ w)))
            replace HO_295002 := Aside0.mk (Kd.R_elder' (ra_ HO_295002) (Kd.R_base ho0) hb)
            replace BK285 := bb_ BK285 hb
            replace BK286 := bb_ BK286 hb
            replace BK294 := bb_ BK294 hb
            replace BK305 := bb_ BK305 hb
            replace HB := hb_ w hb
            (try clear hb)
            (try clear hb2)
            (try clear hk)
            (try clear hi)
            (try clear ho0)
            refine hK.out _ _ ⟨bc_ BK294 0, bc_ BK294 1, bc_ BK294 2, bc_ BK294 3, (bh_ HB hw297_0 :), (bh_ HB hw297_1 :), (bh_ HB hw297_2 :)⟩ (fun hHeld => ?_)
            clear hK K
            refine normA (N := some 42) ?_
            refine pureA (N := some 36) 6 HT_ ?_
            refine pureA (N := some 43) 7 HT_ ?_
            refine pureA (N := some 44) 8 HT_ ?_
            exact norm_ (by simp only [putAll, Act.put, List.setIfInBounds_toArray, List.set_cons_zero, List.set_cons_succ]) (hCont (v301, gb305) _ ⟨hHeld, (by exact rf_ HO302.out (fun _ hk => hk.2)), (by exact rf_ HO_295002.out (fun _ hk => hk.2)), (bk_ BK285), (bk_ BK286), (bk_ BK294), (bk_ BK305), GW305.out, GE305.out, NB285_305.out, NB305_285.out, NB286_305.out, NB305_286.out, NB294_305.out, NB305_294.out, (bw_ w)⟩)
          rintro ⟨v301, gb305⟩ w38 ⟨hS_, h0_, h1_, h2_, h3_, h4_, h5_, h6_, h7_, h8_, h9_, h10_, h11_, h12_, h13_, h14_⟩
          have n0_ : Aside0 (Kd.R k34 34 w38 w.heap.size (fun k_ => some k_ ≠ (.slice Ao33 x295002_2.length co33 : Value).ownBlock) v301 t300) := ⟨h0_⟩
          have n1_ : Aside0 (Kd.R k34 34 w38 w.heap.size (fun k_ => some k_ ≠ (v301 : Value).ownBlock) (.slice Ao33 x295002_2.length co33) x295002_2) := ⟨h1_⟩
          have n2_ : Aside0 (w38.heap[gb285]? = some (.cells #[.int .i64 a0_0, .int .i64 a0_1, .slice A0_2 l0_2.length c0_2, .int .i64 a0_3] 24 (0, 0))) := ⟨h2_⟩
          have n3_ : Aside0 (w38.heap[gb286]? = some (.cells #[.int .i64 0, .int .i64 0, .slice none 0 0, .int .i64 0] 24 (0, 0))) := ⟨h3_⟩
          have n4_ : Aside0 (w38.heap[gb294]? = some (.cells #[.int .i64 x295000_2, .int .i64 x295001_2, .slice Ao33 x295002_2.length co33, .int .i64 x295003_2] 24 (0, 0))) := ⟨h4_⟩
          have n5_ : Aside0 (w38.heap[gb305]? = some (.cells #[.int .i64 0, .int .i64 0, .slice none 0 0, .int .i64 0] 24 (0, 0))) := ⟨h5_⟩
          have n6_ : Aside0 (w.heap.size ≤ gb305) := ⟨h6_⟩
          have n7_ : Aside0 (w.heap.size ≤ gb305) := ⟨h7_⟩
          have n8_ : Aside0 (gb285 ≠ gb305) := ⟨h8_⟩
          have n9_ : Aside0 (gb305 ≠ gb285) := ⟨h9_⟩
          have n10_ : Aside0 (gb286 ≠ gb305) := ⟨h10_⟩
          have n11_ : Aside0 (gb305 ≠ gb286) := ⟨h11_⟩
          have n12_ : Aside0 (gb294 ≠ gb305) := ⟨h12_⟩
          have n13_ : Aside0 (gb305 ≠ gb294) := ⟨h13_⟩
          have n14_ : Aside0 (Below w.heap.size w w38) := ⟨h14_⟩
          clear HO_295002
          clear BK285
          clear BK286
          clear BK294
          clear HB
          clear h0_ h1_ h2_ h3_ h4_ h5_ h6_ h7_ h8_ h9_ h10_ h11_ h12_ h13_ h14_
          have HO302 := n0_
          have HO_295002 := n1_
          have BK285 := n2_
          have BK286 := n3_
          have BK294 := n4_
          have BK305 := n5_
          have GW305 := n6_
          have GE305 := n7_
          have NB285_305 := n8_
          have NB305_285 := n9_
          have NB286_305 := n10_
          have NB305_286 := n11_
          have NB294_305 := n12_
          have NB305_294 := n13_
          have HB := n14_
          clear n0_ n1_ n2_ n3_ n4_ n5_ n6_ n7_ n8_ n9_ n10_ n11_ n12_ n13_ n14_
          have hHeld : w38.cell? ⟨gb294, 0, none⟩ = some (.int .i64 x295000_2) ∧ w38.cell? ⟨gb294, 1, none⟩ = some (.int .i64 x295001_2) ∧ w38.cell? ⟨gb294, 2, none⟩ = some (.slice Ao33 x295002_2.length co33) ∧ w38.cell? ⟨gb294, 3, none⟩ = some (.int .i64 x295003_2) ∧ w38.cell? (ad295.add ((x9_2).toNat * 3)) = some (.int .i64 ((rd_T30 l1 x9_2).f0)) ∧ w38.cell? ⟨(ad295.add ((x9_2).toNat * 3)).block, (ad295.add ((x9_2).toNat * 3)).off + 1, none⟩ = some (.int .i64 ((rd_T30 l1 x9_2).f1)) ∧ w38.cell? ⟨(ad295.add ((x9_2).toNat * 3)).block, (ad295.add ((x9_2).toNat * 3)).off + 2, none⟩ = some (.int .i64 ((rd_T30 l1 x9_2).f2)) := hS_
          obtain ⟨Ao41, co41, eo41⟩ := Kd.R_slice HO302.out
          (first | subst eo41 | (injection eo41 with f1_ f2_ f3_; have f4_ := f1_.symm; have f5_ := f3_.symm; clear f1_ f2_ f3_; subst f4_; subst f5_))
          refine norm_ (a' := ?_) ?_ ?_
          rotate_left
          ·simp only [putAll, Act.put, List.setIfInBounds_toArray, List.set_cons_zero, List.set_cons_succ]
           rfl
          refine oneA (N := none) 10 HT_ (fun K hK => ?_)
          have hs39 : w38.cell? ⟨gb305, 0, none⟩ = some (.int .i64 0) := bc_ BK305 0
          have hfs39 := blk_frozen BK305.out 0
          have hns39_0 := NB285_305.out
          have hns39_1 := NB286_305.out
          have hns39_2 := NB294_305.out
          have hms39_0 := NB305_285.out
          have hms39_1 := NB305_286.out
          have hms39_2 := NB305_294.out
          have hs40 : w38.cell? ⟨gb305, 1, none⟩ = some (.int .i64 0) := bc_ BK305 1
          have hfs40 := blk_frozen BK305.out 1
          have hns40_0 := NB285_305.out
          have hns40_1 := NB286_305.out
          have hns40_2 := NB294_305.out
          have hms40_0 := NB305_285.out
          have hms40_1 := NB305_286.out
          have hms40_2 := NB305_294.out
          have hs42 : w38.cell? ⟨gb305, 2, none⟩ = some (.slice none 0 0) := bc_ BK305 2
          have hfs42 := blk_frozen BK305.out 2
          have hns42_0 := NB285_305.out
          have hns42_1 := NB286_305.out
          have hns42_2 := NB294_305.out
          have hms42_0 := NB305_285.out
          have hms42_1 := NB305_286.out
          have hms42_2 := NB305_294.out
          have hs43 : w38.cell? ⟨gb305, 3, none⟩ = some (.int .i64 0) := bc_ BK305 3
          have hfs43 := blk_frozen BK305.out 3
          have hns43_0 := NB285_305.out
          have hns43_1 := NB286_305.out
          have hns43_2 := NB294_305.out
          have hms43_0 := NB305_285.out
          have hms43_1 := NB305_286.out
          have hms43_2 := NB305_294.out
          refine skip_ (w1 := ?_) (by rfl) rfl ?_ ?_
          rotate_left
          ·go_simp
           rfl
          refine hK.out _ _ ⟨((cn_ NB294_305).trans (((cn_ NB294_305).trans (((cn_ NB294_305).trans (((cn_ NB294_305).trans (hHeld.1)))))))), ((cn_ NB294_305).trans (((cn_ NB294_305).trans (((cn_ NB294_305).trans (((cn_ NB294_305).trans (hHeld.2.1)))))))), ((cn_ NB294_305).trans (((cn_ NB294_305).trans (((cn_ NB294_305).trans (((cn_ NB294_305).trans (hHeld.2.2.1)))))))), ((cn_ NB294_305).trans (((cn_ NB294_305).trans (((cn_ NB294_305).trans (((cn_ NB294_305).trans (hHeld.2.2.2.1)))))))), ((cf_ hw297_0 GW305).trans (((cf_ hw297_0 GW305).trans (((cf_ hw297_0 GW305).trans (((cf_ hw297_0 GW305).trans (hHeld.2.2.2.2.1)))))))), ((cf_ hw297_1 GW305).trans (((cf_ hw297_1 GW305).trans (((cf_ hw297_1 GW305).trans (((cf_ hw297_1 GW305).trans (hHeld.2.2.2.2.2.1)))))))), ((cf_ hw297_2 GW305).trans (((cf_ hw297_2 GW305).trans (((cf_ hw297_2 GW305).trans (((cf_ hw297_2 GW305).trans (hHeld.2.2.2.2.2.2))))))))⟩ (fun hHeld => ?_)
          clear hK K
          refine pureA (N := some 11) 11 HT_ ?_
          refine done_ (done_of HT_.out (by kernel_rfl)) ?_
          have hnb44 := NB305_285.out
          have hnc44 := NB285_305.out
          have hnb45 := NB305_286.out
          have hnc45 := NB286_305.out
          have hnb46 := NB305_294.out
          have hnc46 := NB294_305.out
          obtain ⟨hcz47_0, hcz47_1, hcz47_2, hcz47_3, hfz47_0, hfz47_1, hfz47_2, hfz47_3⟩ := bc4_ (w := w38) BK305
          have hnb48 := NB294_285.out
          have hnc48 := NB285_294.out
          have hnb49 := NB294_286.out
          have hnc49 := NB286_294.out
          obtain ⟨hcz50_0, hcz50_1, hcz50_2, hcz50_3, hfz50_0, hfz50_1, hfz50_2, hfz50_3⟩ := bc4_ (w := w38) BK294
          try go_wp2_with (first | ((with_reducible refine gate_store (t := 24) (p := 7) rfl ?_); refine store_event (t := 24) (p := 7) (v := ?vo_w51) (w1 := ((((((((w38.setCell ⟨gb305, 0, none⟩ (.int .i64 t298)).setCell ⟨gb305, 1, none⟩ (.int .i64 t299)).setCell ⟨gb305, 2, none⟩ (.slice Ao41 t300.length co41)).setCell ⟨gb305, 3, none⟩ (.int .i64 t303)).setCell ⟨gb294, 0, none⟩ (.int .i64 t298)).setCell ⟨gb294, 1, none⟩ (.int .i64 t299)).setCell ⟨gb294, 2, none⟩ (.slice Ao41 t300.length co41)).setCell ⟨gb294, 3, none⟩ (.int .i64 t303))) ?hg ?ho ?hn ?hr ?_; (case ho => rfl); (case hg => rfl); (case hn => rfl); (case hr => first | (go_simp; done) | (go_simp; rfl)); intro w51 hw; replace HO_295002 : Aside0 (Kd.R k34 34 w51 w.heap.size (fun k_ => some k_ ≠ (.slice Ao41 t300.length co41 : Value).ownBlock) (.slice Ao33 x295002_2.length co33) x295002_2) := ⟨(by rw [hw]; exact (by exact rf_ (Kd.R_types (Kd.R_types HO_295002.out BK305.out (by decide)) BK294.out (by decide)) (fun _ hk => hk.1.1)))⟩; replace HO302 : Aside0 (Kd.R k34 34 w51 w.heap.size (fun k_ => some k_ ≠ (.slice Ao33 x295002_2.length co33 : Value).ownBlock) (.slice Ao41 t300.length co41) t300) := ⟨(by rw [hw]; exact (by exact rf_ (Kd.R_types (Kd.R_types HO302.out BK305.out (by decide)) BK294.out (by decide)) (fun _ hk => hk.1.1)))⟩; replace BK285 := bs_ hw (bk_ BK285); replace BK286 := bs_ hw (bk_ BK286); replace BK294 : Aside0 (w51.heap[gb294]? = some (.cells #[.int .i64 t298, .int .i64 t299, .slice Ao41 t300.length co41, .int .i64 t303] 24 (0, 0))) := bs_ hw (bq_ BK294); replace BK305 : Aside0 (w51.heap[gb305]? = some (.cells #[.int .i64 t298, .int .i64 t299, .slice Ao41 t300.length co41, .int .i64 t303] 24 (0, 0))) := bs_ hw (bq_ BK305); replace HB := bl_ hw (bw_ w); clear hw))
          go_roundg k2
          case measure => have := HJ2.out; have := HK2.out; omega
          case rel => exact ⟨(wrap64 (x8_2 + 1)), (wrap64 (x9_2 + 1)), (t298), (t299), (t300), (t303), (.slice Ao41 t300.length co41), (by first | rfl | (simp; done) | (simp [*]; done)), (by first | rfl | (simp; done) | (simp [*]; done)), H', ⟨by have := HJ2.out; have := HK2.out; omega⟩, ⟨by exact rf_ HO302.out (fun _ hk => trivial)⟩, ⟨bk_ BK285⟩, ⟨bk_ BK286⟩, ⟨bk_ BK294⟩, ⟨(bw_ w)⟩⟩
         ·replace c31 := Bool.eq_false_iff.mpr c31
          subst c31
          rw [if_neg (show ¬ (false = true) by decide)] at H
          have H' := Aside0.mk H
          clear H
          try go_wp2
          replace HO_295002 := Aside0.mk (Kd.R_drew HO_295002.out)
          replace BK285 := Aside0.mk (blk_drew BK285.out)
          replace BK286 := Aside0.mk (blk_drew BK286.out)
          replace BK294 := Aside0.mk (blk_drew BK294.out)
          replace HB := Aside0.mk (below_drew1 HB.out)
          have p295 : 0 ≤ (x9_2 : Int) := of_decide_eq_true (by first | (with_reducible assumption) | assumption)
          have q295 : x9_2 < (l1.length : Int) := of_decide_eq_true (by first | (with_reducible assumption) | assumption)
          obtain ⟨ad295, e295, hx295_0, hx295_1, hx295_2⟩ := at_T30 HR1.out x9_2 p295 q295
          have hw295_2 := hx295_2
          have hw295_1 := hx295_1
          have hw295_0 := hx295_0
          cases e295
          replace hx295_0 := (HB.out.cell (World.block_lt_of_cell? w _ hx295_0)).trans hx295_0
          replace hx295_1 := (HB.out.cell (World.block_lt_of_cell? w _ hx295_1)).trans hx295_1
          replace hx295_2 := (HB.out.cell (World.block_lt_of_cell? w _ hx295_2)).trans hx295_2
          replace p295 := eq_true p295
          replace q295 := eq_true q295
          obtain ⟨Ao53, co53, eo53⟩ := Kd.R_slice HO_295002.out
          (first | subst eo53 | (injection eo53 with f1_ f2_ f3_; have f4_ := f1_.symm; have f5_ := f3_.symm; clear f1_ f2_ f3_; subst f4_; subst f5_))
          refine start_ (n := 7) (S := fun w' => w'.cell? ⟨gb294, 0, none⟩ = some (.int .i64 x295000_2) ∧ w'.cell? ⟨gb294, 1, none⟩ = some (.int .i64 x295001_2) ∧ w'.cell? ⟨gb294, 2, none⟩ = some (.slice Ao53 x295002_2.length co53) ∧ w'.cell? ⟨gb294, 3, none⟩ = some (.int .i64 x295003_2) ∧ w'.cell? (ad295.add ((x9_2).toNat * 3)) = some (.int .i64 ((rd_T30 l1 x9_2).f0)) ∧ w'.cell? ⟨(ad295.add ((x9_2).toNat * 3)).block, (ad295.add ((x9_2).toNat * 3)).off + 1, none⟩ = some (.int .i64 ((rd_T30 l1 x9_2).f1)) ∧ w'.cell? ⟨(ad295.add ((x9_2).toNat * 3)).block, (ad295.add ((x9_2).toNat * 3)).off + 2, none⟩ = some (.int .i64 ((rd_T30 l1 x9_2).f2))) (ds := []) #[false, false, false, false, false, false, false] (by kernel_rfl) rfl rfl ⟨bc_ BK294 0, bc_ BK294 1, bc_ BK294 2, bc_ BK294 3, (bh_ HB hw295_0 :), (bh_ HB hw295_1 :), (bh_ HB hw295_2 :)⟩ (fun hHeld => ?_)
          generalize wr.drew = w52 at HO_295002 BK285 BK286 BK294 HB hx295_0 hx295_1 hx295_2 hHeld ⊢
          refine pureK (N := some 30) 1 ?_
          refine pureK (N := some 31) 2 ?_
          refine pureK (N := some 32) 3 ?_
          refine take_ (i := 0) (N := some 29) (v := ?_) (a' := ?_) #[true, true, true, true, false, false, false] rfl rfl (by kernel_rfl) (fun _ _ _ h => h) (Or.inl ⟨by rfl, ?_⟩) hHeld ?_ ?_
          rotate_left
          ·rintro w' ⟨s0, s1, s2, s3, s4, s5, s6⟩
           go_simp
           with_reducible rfl
          rotate_left
          ·simp only [Act.put, List.setIfInBounds_toArray, List.set_cons_zero, List.set_cons_succ, i64_w, i32_w]
           rfl
          refine take_ (i := 4) (N := some 33) (v := ?_) (a' := ?_) #[true, true, true, true, true, false, false] rfl rfl (by kernel_rfl) (fun _ _ _ h => h) (Or.inl ⟨by rfl, ?_⟩) hHeld ?_ ?_
          rotate_left
          ·rintro w' ⟨s0, s1, s2, s3, s4, s5, s6⟩
           go_simp
           with_reducible rfl
          rotate_left
          ·simp only [Act.put, List.setIfInBounds_toArray, List.set_cons_zero, List.set_cons_succ, i64_w, i32_w]
           rfl
          refine one_ (i := 5) (N := some 34) #[true, true, true, true, true, true, false] rfl rfl (by kernel_rfl) (by decide) (fun K hK => ?_)
          refine goesA Try.func65 #[.agg #[.int .i64 x295000_2, .int .i64 x295001_2, .slice Ao53 x295002_2.length co53, .int .i64 x295003_2], .agg #[.int .i64 ((rd_T30 l1 x9_2).f0), .int .i64 ((rd_T30 l1 x9_2).f1), .int .i64 ((rd_T30 l1 x9_2).f2)]] ?_
          with_reducible refine (spec_l25Step.calls x295000_2 x295001_2 _ _ x295002_2 x295003_2 ((rd_T30 l1 x9_2).f0) ((rd_T30 l1 x9_2).f1) ((rd_T30 l1 x9_2).f2) true _ ?side1 ?side2 A28.out).mono ?_
          (case side1 => exact co_ (Kd.R_reads' HO_295002.out).2.2)
          (case side2 => exact (Kd.R_reads' HO_295002.out).2.1)
          rintro e w54 ⟨rfl, hb⟩
          refine ⟨_, rfl, ?_⟩
          replace HO_295002 := Aside0.mk (Kd.R_below (ra_ HO_295002) hb)
          replace BK285 := bb_ BK285 hb
          replace BK286 := bb_ BK286 hb
          replace BK294 := bb_ BK294 hb
          replace HB := hb_ w hb
          clear hb
          refine hK.out _ _ ⟨bc_ BK294 0, bc_ BK294 1, bc_ BK294 2, bc_ BK294 3, (bh_ HB hw295_0 :), (bh_ HB hw295_1 :), (bh_ HB hw295_2 :)⟩ (fun hHeld => ?_)
          clear hK K
          refine normA (N := some 34) ?_
          refine pureK (N := some 35) 6 ?_
          refine done_ (by kernel_rfl) ?_
          try go_wp2
          replace HO_295002 := Aside0.mk (Kd.R_drew HO_295002.out)
          replace BK285 := Aside0.mk (blk_drew BK285.out)
          replace BK286 := Aside0.mk (blk_drew BK286.out)
          replace BK294 := Aside0.mk (blk_drew BK294.out)
          replace HB := Aside0.mk (below_drew1 HB.out)
          have p297 : 0 ≤ (x9_2 : Int) := of_decide_eq_true (by first | (with_reducible assumption) | assumption)
          have q297 : x9_2 < (l1.length : Int) := of_decide_eq_true (by first | (with_reducible assumption) | assumption)
          obtain ⟨ad297, e297, hx297_0, hx297_1, hx297_2⟩ := at_T30 HR1.out x9_2 p297 q297
          have hw297_2 := hx297_2
          have hw297_1 := hx297_1
          have hw297_0 := hx297_0
          obtain rfl : ad295 = ad297 := (by injection e297)
          replace hx297_0 := (HB.out.cell (World.block_lt_of_cell? w _ hx297_0)).trans hx297_0
          replace hx297_1 := (HB.out.cell (World.block_lt_of_cell? w _ hx297_1)).trans hx297_1
          replace hx297_2 := (HB.out.cell (World.block_lt_of_cell? w _ hx297_2)).trans hx297_2
          replace p297 := eq_true p297
          replace q297 := eq_true q297
          refine start_ (n := 12) (S := fun w' => w'.cell? ⟨gb294, 0, none⟩ = some (.int .i64 x295000_2) ∧ w'.cell? ⟨gb294, 1, none⟩ = some (.int .i64 x295001_2) ∧ w'.cell? ⟨gb294, 2, none⟩ = some (.slice Ao53 x295002_2.length co53) ∧ w'.cell? ⟨gb294, 3, none⟩ = some (.int .i64 x295003_2) ∧ w'.cell? (ad295.add ((x9_2).toNat * 3)) = some (.int .i64 ((rd_T30 l1 x9_2).f0)) ∧ w'.cell? ⟨(ad295.add ((x9_2).toNat * 3)).block, (ad295.add ((x9_2).toNat * 3)).off + 1, none⟩ = some (.int .i64 ((rd_T30 l1 x9_2).f1)) ∧ w'.cell? ⟨(ad295.add ((x9_2).toNat * 3)).block, (ad295.add ((x9_2).toNat * 3)).off + 2, none⟩ = some (.int .i64 ((rd_T30 l1 x9_2).f2))) (ds := []) #[false, false, false, false, false, false, false, false, false, false, false, false] (by kernel_rfl) rfl rfl ⟨bc_ BK294 0, bc_ BK294 1, bc_ BK294 2, bc_ BK294 3, (bh_ HB hw297_0 :), (bh_ HB hw297_1 :), (bh_ HB hw297_2 :)⟩ (fun hHeld => ?_); refine with_tabW spec_RunShop.tab8 spec_RunShop.bits8 (fun HT_ HW_ => ?_)
          generalize w54.drew = w55 at HO_295002 BK285 BK286 BK294 HB hx297_0 hx297_1 hx297_2 hHeld ⊢
          refine pureA (N := some 38) 1 HT_ ?_
          refine pureA (N := some 39) 2 HT_ ?_
          refine pureA (N := some 40) 3 HT_ ?_
          refine takeA (N := some 37) 0 HT_ HW_ hHeld ?_
          refine takeA (N := some 41) 4 HT_ HW_ hHeld ?_
          refine join_ (σ := Value × Nat) 2 #[true, true, true, true, true, true, true, true, true, true, false, false] (fun s_ => [(42, .tuple #[.agg #[.int .i64 t298, .int .i64 t299, s_.1, .int .i64 t303], .bool false]), (10, .pointer (some ⟨s_.2, 0, none⟩)), (36, .tuple #[.agg #[.int .i64 t298, .int .i64 t299, s_.1, .int .i64 t303], .bool false]), (43, .agg #[.int .i64 t298, .int .i64 t299, s_.1, .int .i64 t303]), (44, .bool false)]) (fun s_ w' => (w'.cell? ⟨gb294, 0, none⟩ = some (.int .i64 x295000_2) ∧ w'.cell? ⟨gb294, 1, none⟩ = some (.int .i64 x295001_2) ∧ w'.cell? ⟨gb294, 2, none⟩ = some (.slice Ao53 x295002_2.length co53) ∧ w'.cell? ⟨gb294, 3, none⟩ = some (.int .i64 x295003_2) ∧ w'.cell? (ad295.add ((x9_2).toNat * 3)) = some (.int .i64 ((rd_T30 l1 x9_2).f0)) ∧ w'.cell? ⟨(ad295.add ((x9_2).toNat * 3)).block, (ad295.add ((x9_2).toNat * 3)).off + 1, none⟩ = some (.int .i64 ((rd_T30 l1 x9_2).f1)) ∧ w'.cell? ⟨(ad295.add ((x9_2).toNat * 3)).block, (ad295.add ((x9_2).toNat * 3)).off + 2, none⟩ = some (.int .i64 ((rd_T30 l1 x9_2).f2))) ∧ (Kd.R k34 34 w' w.heap.size (fun k_ => some k_ ≠ (.slice Ao53 x295002_2.length co53 : Value).ownBlock) s_.1 t300) ∧ (Kd.R k34 34 w' w.heap.size (fun k_ => some k_ ≠ (s_.1 : Value).ownBlock) (.slice Ao53 x295002_2.length co53) x295002_2) ∧ (w'.heap[gb285]? = some (.cells #[.int .i64 a0_0, .int .i64 a0_1, .slice A0_2 l0_2.length c0_2, .int .i64 a0_3] 24 (0, 0))) ∧ (w'.heap[gb286]? = some (.cells #[.int .i64 0, .int .i64 0, .slice none 0 0, .int .i64 0] 24 (0, 0))) ∧ (w'.heap[gb294]? = some (.cells #[.int .i64 x295000_2, .int .i64 x295001_2, .slice Ao53 x295002_2.length co53, .int .i64 x295003_2] 24 (0, 0))) ∧ (w'.heap[s_.2]? = some (.cells #[.int .i64 0, .int .i64 0, .slice none 0 0, .int .i64 0] 24 (0, 0))) ∧ (w.heap.size ≤ s_.2) ∧ (w.heap.size ≤ s_.2) ∧ (gb285 ≠ s_.2) ∧ (s_.2 ≠ gb285) ∧ (gb286 ≠ s_.2) ∧ (s_.2 ≠ gb286) ∧ (gb294 ≠ s_.2) ∧ (s_.2 ≠ gb294) ∧ (Below w.heap.size w w')) ?_ ?_
          rotate_left
          ·intro hCont
           refine twoA (Ni := some 42) (Nj := some 10) 5 9 HT_ (fun K hK => ?_) (fun K hK => ?_)
           ·skip
            refine goesA Try.func66 #[.agg #[.int .i64 x295000_2, .int .i64 x295001_2, .slice Ao53 x295002_2.length co53, .int .i64 x295003_2], .agg #[.int .i64 ((rd_T30 l1 x9_2).f0), .int .i64 ((rd_T30 l1 x9_2).f1), .int .i64 ((rd_T30 l1 x9_2).f2)]] ?_
            with_reducible refine (spec_l25Make.calls k2 x295000_2 x295001_2 _ _ x295002_2 x295003_2 ((rd_T30 l1 x9_2).f0) ((rd_T30 l1 x9_2).f1) ((rd_T30 l1 x9_2).f2) t298 t299 t300 t303 false _ ?side1 ?side2 A30.out).mono ?_
            (case side1 => exact co_ (Kd.R_reads' HO_295002.out).2.2)
            (case side2 => exact (Kd.R_reads' HO_295002.out).2.1)
            rintro e w56 ⟨v301, rfl, ho0, hb⟩
            refine ⟨_, rfl, ?_⟩
            have HO302 := Aside0.mk (Kd.R_lower (Kd.R_new' ho0 (Kd.R_lt (ra_ HO_295002))) (below_size (bw_ w)))
            replace HO_295002 := Aside0.mk (Kd.R_elder' (ra_ HO_295002) (Kd.R_base ho0) hb)
            replace BK285 := bb_ BK285 hb
            replace BK286 := bb_ BK286 hb
            replace BK294 := bb_ BK294 hb
            replace HB := hb_ w hb
            (try clear hb)
            (try clear hb2)
            (try clear hk)
            (try clear hi)
            (try clear ho0)
            refine hK.out _ _ ⟨bc_ BK294 0, bc_ BK294 1, bc_ BK294 2, bc_ BK294 3, (bh_ HB hw297_0 :), (bh_ HB hw297_1 :), (bh_ HB hw297_2 :)⟩ (fun hHeld => ?_)
            clear hK K
            refine normA (N := some 42) ?_
            refine pureA (N := some 36) 6 HT_ ?_
            refine pureA (N := some 43) 7 HT_ ?_
            refine pureA (N := some 44) 8 HT_ ?_
            refine oneA (N := some 10) 9 HT_ (fun K hK => ?_)
            refine box_step ?hg (N := 10) ?hd (cs := #[.int .i64 0, .int .i64 0, .slice none 0 0, .int .i64 0]) (t := 24) ?hr ?_; (case hd => rfl); (case hg => rfl); (case hr => first | (go_simp; done) | (go_simp; rfl))
            intro gb305 hg w57 hbox hb
            have BK305 := Aside0.mk (hbox)
            have GW305 := gz_ w hg
            have GE305 := gz_ w hg
            have NB285_305 := ne_ hg BK285
            have NB305_285 := en_ hg BK285
            have NB286_305 := ne_ hg BK286
            have NB305_286 := en_ hg BK286
            have NB294_305 := ne_ hg BK294
            have NB305_294 := en_ hg BK294
            replace HO_295002 := Aside0.mk (Kd.R_below (ra_ HO_295002) hb)
            replace HO302 := Aside0.mk (Kd.R_below (ra_ HO302) hb)
            replace BK285 := bb_ BK285 hb
            replace BK286 := bb_ BK286 hb
            replace BK294 := bb_ BK294 hb
            replace HB := hb_ w hb
            clear hb hbox hg
            refine hK.out _ _ ⟨bc_ BK294 0, bc_ BK294 1, bc_ BK294 2, bc_ BK294 3, (bh_ HB hw297_0 :), (bh_ HB hw297_1 :), (bh_ HB hw297_2 :)⟩ (fun hHeld => ?_)
            clear hK K
            refine normA (N := some 10) ?_
            exact norm_ (by simp only [putAll, Act.put, List.setIfInBounds_toArray, List.set_cons_zero, List.set_cons_succ]) (hCont (v301, gb305) _ ⟨hHeld, (by exact rf_ HO302.out (fun _ hk => hk.2)), (by exact rf_ HO_295002.out (fun _ hk => hk.2)), (bk_ BK285), (bk_ BK286), (bk_ BK294), (bk_ BK305), GW305.out, GE305.out, NB285_305.out, NB305_285.out, NB286_305.out, NB305_286.out, NB294_305.out, NB305_294.out, (bw_ w)⟩)
           ·skip
            refine box_step ?hg (N := 10) ?hd (cs := #[.int .i64 0, .int .i64 0, .slice none 0 0, .int .i64 0]) (t := 24) ?hr ?_; (case hd => rfl); (case hg => rfl); (case hr => first | (go_simp; done) | (go_simp; rfl))
            intro gb305 hg w56 hbox hb
            have BK305 := Aside0.mk (hbox)
            have GW305 := gz_ w hg
            have GE305 := gz_ w hg
            have NB285_305 := ne_ hg BK285
            have NB305_285 := en_ hg BK285
            have NB286_305 := ne_ hg BK286
            have NB305_286 := en_ hg BK286
            have NB294_305 := ne_ hg BK294
            have NB305_294 := en_ hg BK294
            replace HO_295002 := Aside0.mk (Kd.R_below (ra_ HO_295002) hb)
            replace BK285 := bb_ BK285 hb
            replace BK286 := bb_ BK286 hb
            replace BK294 := bb_ BK294 hb
            replace HB := hb_ w hb
            clear hb hbox hg
            refine hK.out _ _ ⟨bc_ BK294 0, bc_ BK294 1, bc_ BK294 2, bc_ BK294 3, (bh_ HB hw297_0 :), (bh_ HB hw297_1 :), (bh_ HB hw297_2 :)⟩ (fun hHeld => ?_)
            clear hK K
            refine normA (N := some 10) ?_
            refine oneA (N := some 42) 5 HT_ (fun K hK => ?_)
            refine goesA Try.func66 #[.agg #[.int .i64 x295000_2, .int .i64 x295001_2, .slice Ao53 x295002_2.length co53, .int .i64 x295003_2], .agg #[.int .i64 ((rd_T30 l1 x9_2).f0), .int .i64 ((rd_T30 l1 x9_2).f1), .int .i64 ((rd_T30 l1 x9_2).f2)]] ?_
            with_reducible refine (spec_l25Make.calls k2 x295000_2 x295001_2 _ _ x295002_2 x295003_2 ((rd_T30 l1 x9_2).f0) ((rd_T30 l1 x9_2).f1) ((rd_T30 l1 x9_2).f2) t298 t299 t300 t303 false _ ?side1 ?side2 A30.out).mono ?_
            (case side1 => exact co_ (Kd.R_reads' HO_295002.out).2.2)
            (case side2 => exact (Kd.R_reads' HO_295002.out).2.1)
            rintro e w57 ⟨v301, rfl, ho0, hb⟩
            refine ⟨_, rfl, ?_⟩
            have HO302 := Aside0.mk (Kd.R_lower (Kd.R_new' ho0 (Kd.R_lt (ra_ HO_295002))) (below_size (bw_ w)))
            replace HO_295002 := Aside0.mk (Kd.R_elder' (ra_ HO_295002) (Kd.R_base ho0) hb)
            replace BK285 := bb_ BK285 hb
            replace BK286 := bb_ BK286 hb
            replace BK294 := bb_ BK294 hb
            replace BK305 := bb_ BK305 hb
            replace HB := hb_ w hb
            (try clear hb)
            (try clear hb2)
            (try clear hk)
            (try clear hi)
            (try clear ho0)
            refine hK.out _ _ ⟨bc_ BK294 0, bc_ BK294 1, bc_ BK294 2, bc_ BK294 3, (bh_ HB hw297_0 :), (bh_ HB hw297_1 :), (bh_ HB hw297_2 :)⟩ (fun hHeld => ?_)
            clear hK K
            refine normA (N := some 42) ?_
            refine pureA (N := some 36) 6 HT_ ?_
            refine pureA (N := some 43) 7 HT_ ?_
            refine pureA (N := some 44) 8 HT_ ?_
            exact norm_ (by simp only [putAll, Act.put, List.setIfInBounds_toArray, List.set_cons_zero, List.set_cons_succ]) (hCont (v301, gb305) _ ⟨hHeld, (by exact rf_ HO302.out (fun _ hk => hk.2)), (by exact rf_ HO_295002.out (fun _ hk => hk.2)), (bk_ BK285), (bk_ BK286), (bk_ BK294), (bk_ BK305), GW305.out, GE305.out, NB285_305.out, NB305_285.out, NB286_305.out, NB305_286.out, NB294_305.out, NB305_294.out, (bw_ w)⟩)
          rintro ⟨v301, gb305⟩ w58 ⟨hS_, h0_, h1_, h2_, h3_, h4_, h5_, h6_, h7_, h8_, h9_, h10_, h11_, h12_, h13_, h14_⟩
          have n0_ : Aside0 (Kd.R k34 34 w58 w.heap.size (fun k_ => some k_ ≠ (.slice Ao53 x295002_2.length co53 : Value).ownBlock) v301 t300) := ⟨h0_⟩
          have n1_ : Aside0 (Kd.R k34 34 w58 w.heap.size (fun k_ => some k_ ≠ (v301 : Value).ownBlock) (.slice Ao53 x295002_2.length co53) x295002_2) := ⟨h1_⟩
          have n2_ : Aside0 (w58.heap[gb285]? = some (.cells #[.int .i64 a0_0, .int .i64 a0_1, .slice A0_2 l0_2.length c0_2, .int .i64 a0_3] 24 (0, 0))) := ⟨h2_⟩
          have n3_ : Aside0 (w58.heap[gb286]? = some (.cells #[.int .i64 0, .int .i64 0, .slice none 0 0, .int .i64 0] 24 (0, 0))) := ⟨h3_⟩
          have n4_ : Aside0 (w58.heap[gb294]? = some (.cells #[.int .i64 x295000_2, .int .i64 x295001_2, .slice Ao53 x295002_2.length co53, .int .i64 x295003_2] 24 (0, 0))) := ⟨h4_⟩
          have n5_ : Aside0 (w58.heap[gb305]? = some (.cells #[.int .i64 0, .int .i64 0, .slice none 0 0, .int .i64 0] 24 (0, 0))) := ⟨h5_⟩
          have n6_ : Aside0 (w.heap.size ≤ gb305) := ⟨h6_⟩
          have n7_ : Aside0 (w.heap.size ≤ gb305) := ⟨h7_⟩
          have n8_ : Aside0 (gb285 ≠ gb305) := ⟨h8_⟩
          have n9_ : Aside0 (gb305 ≠ gb285) := ⟨h9_⟩
          have n10_ : Aside0 (gb286 ≠ gb305) := ⟨h10_⟩
          have n11_ : Aside0 (gb305 ≠ gb286) := ⟨h11_⟩
          have n12_ : Aside0 (gb294 ≠ gb305) := ⟨h12_⟩
          have n13_ : Aside0 (gb305 ≠ gb294) := ⟨h13_⟩
          have n14_ : Aside0 (Below w.heap.size w w58) := ⟨h14_⟩
          clear HO_295002
          clear BK285
          clear BK286
          clear BK294
          clear HB
          clear h0_ h1_ h2_ h3_ h4_ h5_ h6_ h7_ h8_ h9_ h10_ h11_ h12_ h13_ h14_
          have HO302 := n0_
          have HO_295002 := n1_
          have BK285 := n2_
          have BK286 := n3_
          have BK294 := n4_
          have BK305 := n5_
          have GW305 := n6_
          have GE305 := n7_
          have NB285_305 := n8_
          have NB305_285 := n9_
          have NB286_305 := n10_
          have NB305_286 := n11_
          have NB294_305 := n12_
          have NB305_294 := n13_
          have HB := n14_
          clear n0_ n1_ n2_ n3_ n4_ n5_ n6_ n7_ n8_ n9_ n10_ n11_ n12_ n13_ n14_
          have hHeld : w58.cell? ⟨gb294, 0, none⟩ = some (.int .i64 x295000_2) ∧ w58.cell? ⟨gb294, 1, none⟩ = some (.int .i64 x295001_2) ∧ w58.cell? ⟨gb294, 2, none⟩ = some (.slice Ao53 x295002_2.length co53) ∧ w58.cell? ⟨gb294, 3, none⟩ = some (.int .i64 x295003_2) ∧ w58.cell? (ad295.add ((x9_2).toNat * 3)) = some (.int .i64 ((rd_T30 l1 x9_2).f0)) ∧ w58.cell? ⟨(ad295.add ((x9_2).toNat * 3)).block, (ad295.add ((x9_2).toNat * 3)).off + 1, none⟩ = some (.int .i64 ((rd_T30 l1 x9_2).f1)) ∧ w58.cell? ⟨(ad295.add ((x9_2).toNat * 3)).block, (ad295.add ((x9_2).toNat * 3)).off + 2, none⟩ = some (.int .i64 ((rd_T30 l1 x9_2).f2)) := hS_
          obtain ⟨Ao61, co61, eo61⟩ := Kd.R_slice HO302.out
          (first | subst eo61 | (injection eo61 with f1_ f2_ f3_; have f4_ := f1_.symm; have f5_ := f3_.symm; clear f1_ f2_ f3_; subst f4_; subst f5_))
          refine norm_ (a' := ?_) ?_ ?_
          rotate_left
          ·simp only [putAll, Act.put, List.setIfInBounds_toArray, List.set_cons_zero, List.set_cons_succ]
           rfl
          refine oneA (N := none) 10 HT_ (fun K hK => ?_)
          have hs59 : w58.cell? ⟨gb305, 0, none⟩ = some (.int .i64 0) := bc_ BK305 0
          have hfs59 := blk_frozen BK305.out 0
          have hns59_0 := NB285_305.out
          have hns59_1 := NB286_305.out
          have hns59_2 := NB294_305.out
          have hms59_0 := NB305_285.out
          have hms59_1 := NB305_286.out
          have hms59_2 := NB305_294.out
          have hs60 : w58.cell? ⟨gb305, 1, none⟩ = some (.int .i64 0) := bc_ BK305 1
          have hfs60 := blk_frozen BK305.out 1
          have hns60_0 := NB285_305.out
          have hns60_1 := NB286_305.out
          have hns60_2 := NB294_305.out
          have hms60_0 := NB305_285.out
          have hms60_1 := NB305_286.out
          have hms60_2 := NB305_294.out
          have hs62 : w58.cell? ⟨gb305, 2, none⟩ = some (.slice none 0 0) := bc_ BK305 2
          have hfs62 := blk_frozen BK305.out 2
          have hns62_0 := NB285_305.out
          have hns62_1 := NB286_305.out
          have hns62_2 := NB294_305.out
          have hms62_0 := NB305_285.out
          have hms62_1 := NB305_286.out
          have hms62_2 := NB305_294.out
          have hs63 : w58.cell? ⟨gb305, 3, none⟩ = some (.int .i64 0) := bc_ BK305 3
          have hfs63 := blk_frozen BK305.out 3
          have hns63_0 := NB285_305.out
          have hns63_1 := NB286_305.out
          have hns63_2 := NB294_305.out
          have hms63_0 := NB305_285.out
          have hms63_1 := NB305_286.out
          have hms63_2 := NB305_294.out
          refine skip_ (w1 := ?_) (by rfl) rfl ?_ ?_
          rotate_left
          ·go_simp
           rfl
          refine hK.out _ _ ⟨((cn_ NB294_305).trans (((cn_ NB294_305).trans (((cn_ NB294_305).trans (((cn_ NB294_305).trans (hHeld.1)))))))), ((cn_ NB294_305).trans (((cn_ NB294_305).trans (((cn_ NB294_305).trans (((cn_ NB294_305).trans (hHeld.2.1)))))))), ((cn_ NB294_305).trans (((cn_ NB294_305).trans (((cn_ NB294_305).trans (((cn_ NB294_305).trans (hHeld.2.2.1)))))))), ((cn_ NB294_305).trans (((cn_ NB294_305).trans (((cn_ NB294_305).trans (((cn_ NB294_305).trans (hHeld.2.2.2.1)))))))), ((cf_ hw297_0 GW305).trans (((cf_ hw297_0 GW305).trans (((cf_ hw297_0 GW305).trans (((cf_ hw297_0 GW305).trans (hHeld.2.2.2.2.1)))))))), ((cf_ hw297_1 GW305).trans (((cf_ hw297_1 GW305).trans (((cf_ hw297_1 GW305).trans (((cf_ hw297_1 GW305).trans (hHeld.2.2.2.2.2.1)))))))), ((cf_ hw297_2 GW305).trans (((cf_ hw297_2 GW305).trans (((cf_ hw297_2 GW305).trans (((cf_ hw297_2 GW305).trans (hHeld.2.2.2.2.2.2))))))))⟩ (fun hHeld => ?_)
          clear hK K
          refine pureA (N := some 11) 11 HT_ ?_
          refine done_ (done_of HT_.out (by kernel_rfl)) ?_
          try go_wp2
          go_roundg k2
          case measure => have := HJ2.out; have := HK2.out; omega
          case rel => exact ⟨(x8_2), (wrap64 (x9_2 + 1)), (x295000_2), (x295001_2), (x295002_2), (x295003_2), (.slice Ao53 x295002_2.length co53), (by first | rfl | (simp; done) | (simp [*]; done)), (by first | rfl | (simp; done) | (simp [*]; done)), H', ⟨by have := HJ2.out; have := HK2.out; omega⟩, ⟨by exact rf_ (Kd.R_types HO_295002.out BK305.out (by decide)) (fun _ hk => trivial)⟩, ⟨bk_ BK285⟩, ⟨bk_ BK286⟩, ⟨bk_ BK294⟩, ⟨(bw_ w)⟩⟩
        ·replace c29 := Bool.eq_false_iff.mpr c29
         subst c29
         rw [if_neg (show ¬ (false = true) by decide)] at H
         have H' := Aside0.mk H
         clear H
         try go_wp2
         replace HO_295002 := Aside0.mk (Kd.R_drew HO_295002.out)
         replace BK285 := Aside0.mk (blk_drew BK285.out)
         replace BK286 := Aside0.mk (blk_drew BK286.out)
         replace BK294 := Aside0.mk (blk_drew BK294.out)
         replace HB := Aside0.mk (below_drew1 HB.out)
         have p295 : 0 ≤ (x9_2 : Int) := of_decide_eq_true (by first | (with_reducible assumption) | assumption)
         have q295 : x9_2 < (l1.length : Int) := of_decide_eq_true (by first | (with_reducible assumption) | assumption)
         obtain ⟨ad295, e295, hx295_0, hx295_1, hx295_2⟩ := at_T30 HR1.out x9_2 p295 q295
         have hw295_2 := hx295_2
         have hw295_1 := hx295_1
         have hw295_0 := hx295_0
         cases e295
         replace hx295_0 := (HB.out.cell (World.block_lt_of_cell? w _ hx295_0)).trans hx295_0
         replace hx295_1 := (HB.out.cell (World.block_lt_of_cell? w _ hx295_1)).trans hx295_1
         replace hx295_2 := (HB.out.cell (World.block_lt_of_cell? w _ hx295_2)).trans hx295_2
         replace p295 := eq_true p295
         replace q295 := eq_true q295
         obtain ⟨Ao65, co65, eo65⟩ := Kd.R_slice HO_295002.out
         (first | subst eo65 | (injection eo65 with f1_ f2_ f3_; have f4_ := f1_.symm; have f5_ := f3_.symm; clear f1_ f2_ f3_; subst f4_; subst f5_))
         refine start_ (n := 7) (S := fun w' => w'.cell? ⟨gb294, 0, none⟩ = some (.int .i64 x295000_2) ∧ w'.cell? ⟨gb294, 1, none⟩ = some (.int .i64 x295001_2) ∧ w'.cell? ⟨gb294, 2, none⟩ = some (.slice Ao65 x295002_2.length co65) ∧ w'.cell? ⟨gb294, 3, none⟩ = some (.int .i64 x295003_2) ∧ w'.cell? (ad295.add ((x9_2).toNat * 3)) = some (.int .i64 ((rd_T30 l1 x9_2).f0)) ∧ w'.cell? ⟨(ad295.add ((x9_2).toNat * 3)).block, (ad295.add ((x9_2).toNat * 3)).off + 1, none⟩ = some (.int .i64 ((rd_T30 l1 x9_2).f1)) ∧ w'.cell? ⟨(ad295.add ((x9_2).toNat * 3)).block, (ad295.add ((x9_2).toNat * 3)).off + 2, none⟩ = some (.int .i64 ((rd_T30 l1 x9_2).f2))) (ds := []) #[false, false, false, false, false, false, false] (by kernel_rfl) rfl rfl ⟨bc_ BK294 0, bc_ BK294 1, bc_ BK294 2, bc_ BK294 3, (bh_ HB hw295_0 :), (bh_ HB hw295_1 :), (bh_ HB hw295_2 :)⟩ (fun hHeld => ?_)
         generalize wr.drew = w64 at HO_295002 BK285 BK286 BK294 HB hx295_0 hx295_1 hx295_2 hHeld ⊢
         refine pureK (N := some 30) 1 ?_
         refine pureK (N := some 31) 2 ?_
         refine pureK (N := some 32) 3 ?_
         refine take_ (i := 0) (N := some 29) (v := ?_) (a' := ?_) #[true, true, true, true, false, false, false] rfl rfl (by kernel_rfl) (fun _ _ _ h => h) (Or.inl ⟨by rfl, ?_⟩) hHeld ?_ ?_
         rotate_left
         ·rintro w' ⟨s0, s1, s2, s3, s4, s5, s6⟩
          go_simp
          with_reducible rfl
         rotate_left
         ·simp only [Act.put, List.setIfInBounds_toArray, List.set_cons_zero, List.set_cons_succ, i64_w, i32_w]
          rfl
         refine take_ (i := 4) (N := some 33) (v := ?_) (a' := ?_) #[true, true, true, true, true, false, false] rfl rfl (by kernel_rfl) (fun _ _ _ h => h) (Or.inl ⟨by rfl, ?_⟩) hHeld ?_ ?_
         rotate_left
         ·rintro w' ⟨s0, s1, s2, s3, s4, s5, s6⟩
          go_simp
          with_reducible rfl
         rotate_left
         ·simp only [Act.put, List.setIfInBounds_toArray, List.set_cons_zero, List.set_cons_succ, i64_w, i32_w]
          rfl
         refine one_ (i := 5) (N := some 34) #[true, true, true, true, true, true, false] rfl rfl (by kernel_rfl) (by decide) (fun K hK => ?_)
         refine goesA Try.func65 #[.agg #[.int .i64 x295000_2, .int .i64 x295001_2, .slice Ao65 x295002_2.length co65, .int .i64 x295003_2], .agg #[.int .i64 ((rd_T30 l1 x9_2).f0), .int .i64 ((rd_T30 l1 x9_2).f1), .int .i64 ((rd_T30 l1 x9_2).f2)]] ?_
         with_reducible refine (spec_l25Step.calls x295000_2 x295001_2 _ _ x295002_2 x295003_2 ((rd_T30 l1 x9_2).f0) ((rd_T30 l1 x9_2).f1) ((rd_T30 l1 x9_2).f2) false _ ?side1 ?side2 A28.out).mono ?_
         (case side1 => exact co_ (Kd.R_reads' HO_295002.out).2.2)
         (case side2 => exact (Kd.R_reads' HO_295002.out).2.1)
         rintro e w66 ⟨rfl, hb⟩
         refine ⟨_, rfl, ?_⟩
         replace HO_295002 := Aside0.mk (Kd.R_below (ra_ HO_295002) hb)
         replace BK285 := bb_ BK285 hb
         replace BK286 := bb_ BK286 hb
         replace BK294 := bb_ BK294 hb
         replace HB := hb_ w hb
         clear hb
         refine hK.out _ _ ⟨bc_ BK294 0, bc_ BK294 1, bc_ BK294 2, bc_ BK294 3, (bh_ HB hw295_0 :), (bh_ HB hw295_1 :), (bh_ HB hw295_2 :)⟩ (fun hHeld => ?_)
         clear hK K
         refine normA (N := some 34) ?_
         refine pureK (N := some 35) 6 ?_
         refine done_ (by kernel_rfl) ?_
         try go_wp2
         go_roundg k2
         case measure => have := HJ2.out; have := HK2.out; omega
         case rel => exact ⟨(x8_2), (wrap64 (x9_2 + 1)), (x295000_2), (x295001_2), (x295002_2), (x295003_2), (.slice Ao65 x295002_2.length co65), (by first | rfl | (simp; done) | (simp [*]; done)), (by first | rfl | (simp; done) | (simp [*]; done)), H', ⟨by have := HJ2.out; have := HK2.out; omega⟩, ⟨ra_ HO_295002⟩, ⟨bk_ BK285⟩, ⟨bk_ BK286⟩, ⟨bk_ BK294⟩, ⟨(bw_ w)⟩⟩
       ·rw [if_neg c27] at H
        exact absurd H (by simp)
      ·rw [if_neg c26] at H
       have c26b0 := decide_eq_false c26
       clear c26
       simp only [Option.some.injEq, Prod.mk.injEq] at H
       obtain ⟨rfl, rfl, rfl, rfl, rfl, rfl⟩ := H
       have hnb67 := NB294_285.out
       have hnc67 := NB285_294.out
       have hnb68 := NB294_286.out
       have hnc68 := NB286_294.out
       obtain ⟨hcz69_0, hcz69_1, hcz69_2, hcz69_3, hfz69_0, hfz69_1, hfz69_2, hfz69_3⟩ := bc4_ (w := wr) BK294
       have hnb70 := NB286_285.out
       have hnc70 := NB285_286.out
       obtain ⟨hcz71_0, hcz71_1, hcz71_2, hcz71_3, hfz71_0, hfz71_1, hfz71_2, hfz71_3⟩ := bc4_ (w := wr) BK286
       obtain ⟨Ao72, co72, eo72⟩ := Kd.R_slice HO_295002.out
       subst eo72
       go_wp2
       refine bodyPost_ret (results_ctt rfl _ _ gb286 24 #[.int .i64 x295000_2, .int .i64 x295001_2, .slice Ao72 x295002_2.length co72, .int .i64 x295003_2] (0, 0) _ rfl (bq_ BK286) Try.underlying24 rfl (by kernel_rfl)) rfl ?_
       exact ⟨_, by first | rfl | (simp [errW_none, errW_some] <;> rfl) | (simp [*, errW_none, errW_some] <;> rfl), by exact rf_ (Kd.R_types HO_295002.out BK286.out (by decide)) (fun _ hk => trivial), (bw_ w)⟩

end Go.Proofs.Ytahglcpndiadnaa.PFnExactRunShop
