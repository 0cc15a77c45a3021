-- Printed by this session's own program (wip/tool/myprint.py, over the kit's print); Lean checks it.
import Derived.Test.YtahglcpndiadnaaPFnExactRunShopx0
import Derived.Test.YtahglcpndiadnaaPFnExactRunShopx6
import Derived.Test.YtahglcpndiadnaaPFnExactRunShopx7
namespace Go.Proofs.Ytahglcpndiadnaa.PFnExactRunShop
open Go.RowKit Go.Proofs.YtahglcpndiadnaaW.PrintWords Go.Proofs.YtahglcpndiadnaaW.PrintLast Go.Proofs.YtahglcpndiadnaaW.PrintMore
attribute [local go_sem] max2_int min2_int max_two min_two max_three min_three max_four min_four   -- for this text's walks alone
set_option linter.unusedVariables false
set_option linter.unusedSimpArgs false

/-! ### spec_l25Make: function 66 -/
def spec_l25Make.f (k : Nat) (a0_0 : Int) (a0_1 : Int) (l0_2 : List (S34)) (a0_3 : Int) (a1_0 : Int) (a1_1 : Int) (a1_2 : Int) : Option (Int × Int × (List (S34)) × Int × Bool) := (spec_l25Own.f a0_0 a0_1 l0_2 a0_3).bind fun bt254 => (if a1_0 = 1 then (if a1_2 > (wrap64 (4000 - a0_0)) then (some (bt254.1, bt254.2.1, bt254.2.2.1, bt254.2.2.2, false)) else (some (wrap64 (a0_0 + a1_2), bt254.2.1, bt254.2.2.1, bt254.2.2.2, true))) else (if a1_0 = 2 then (if bt254.2.2.1.length < 3518437208883 then ((some (bt254.2.2.1 ++ [(⟨a1_2, 0, 0, 0, a0_0⟩ : S34)] : List (S34))).bind fun y261 => ((spec_l25Good.f k bt254.1 bt254.2.1 y261 bt254.2.2.2).bind fun t264 => (some (bt254.1, bt254.2.1, y261, bt254.2.2.2, t264)))) else (none)) else (if a1_0 = 7 then (if a1_2 > (wrap64 (1000000 - a0_3)) then (some (bt254.1, bt254.2.1, bt254.2.2.1, bt254.2.2.2, false)) else (if 0 ≤ a1_1 then (if a1_1 < (l0_2.length : Int) then ((spec_l25Change.f ((rd_T34 l0_2 a1_1).f0) ((rd_T34 l0_2 a1_1).f1) ((rd_T34 l0_2 a1_1).f2) ((rd_T34 l0_2 a1_1).f3) ((rd_T34 l0_2 a1_1).f4) a1_0 a1_1 a1_2 a0_0).bind fun bt266 => (if a1_1 < (bt254.2.2.1.length : Int) then ((some (bt254.2.2.1.set (a1_1 : Int).toNat (⟨bt266.1, bt266.2.1, bt266.2.2.1, bt266.2.2.2.1, bt266.2.2.2.2.1⟩ : S34) : List (S34))).bind fun y273 => (if bt266.2.2.2.2.2 = true then ((spec_l25Good.f k bt254.1 bt254.2.1 y273 (wrap64 (a0_3 + a1_2))).bind fun t274 => (some (bt254.1, bt254.2.1, y273, wrap64 (a0_3 + a1_2), t274))) else (some (bt254.1, bt254.2.1, y273, wrap64 (a0_3 + a1_2), false)))) else (none))) else (none)) else (none))) else (if 0 ≤ a1_1 then (if a1_1 < (l0_2.length : Int) then ((spec_l25Change.f ((rd_T34 l0_2 a1_1).f0) ((rd_T34 l0_2 a1_1).f1) ((rd_T34 l0_2 a1_1).f2) ((rd_T34 l0_2 a1_1).f3) ((rd_T34 l0_2 a1_1).f4) a1_0 a1_1 a1_2 a0_0).bind fun bt276 => (if a1_1 < (bt254.2.2.1.length : Int) then ((some (bt254.2.2.1.set (a1_1 : Int).toNat (⟨bt276.1, bt276.2.1, bt276.2.2.1, bt276.2.2.2.1, bt276.2.2.2.2.1⟩ : S34) : List (S34))).bind fun y283 => (if bt276.2.2.2.2.2 = true then ((spec_l25Good.f k bt254.1 bt254.2.1 y283 bt254.2.2.2).bind fun t284 => (some (bt254.1, bt254.2.1, y283, bt254.2.2.2, t284))) else (some (bt254.1, bt254.2.1, y283, bt254.2.2.2, false)))) else (none))) else (none)) else (none)))))
theorem spec_l25Make.mono : ∀ a0 a1 a2 a3 a4 a5 a6 k, LeO (spec_l25Make.f k a0 a1 a2 a3 a4 a5 a6) (spec_l25Make.f (k + 1) a0 a1 a2 a3 a4 a5 a6) := by
  intro a0 a1 a2 a3 a4 a5 a6 k
  unfold spec_l25Make.f
  repeat' first
      | (with_reducible exact spec_l25Good.mono _ _ _ _ _)
      | (with_reducible exact LeO.refl _)
      | (with_reducible exact LeO.none _)
      | (with_reducible refine LeO.ite ?_ ?_)
      | (with_reducible refine LeO.bind ?_ (fun _ => ?_))
      | exact spec_l25Good.mono _ _ _ _ _
      | exact LeO.none _
      | refine LeO.ite ?_ ?_
      | refine LeO.bind ?_ (fun _ => ?_)
def spec_l25Make.T15 : Bool × List (List Nat × List Nat) := (true, [([], []), ([0], [0]), ([], []), ([2], [2]), ([1, 3], [1, 3]), ([4], [4]), ([], []), ([], []), ([7], [7]), ([5, 6, 8], [5, 6, 8]), ([9], [9]), ([10], [10]), ([10], [10]), ([], []), ([13, 11, 9, 0, 1, 2, 3, 4, 5, 6, 7, 8, 9, 10, 11, 13], [11, 13]), ([12, 14, 0, 1, 2, 3, 4, 5, 6, 7, 8, 9, 10, 11, 12, 13, 14], [12])])
def spec_l25Make.B15 : List Nat := [0, 1, 0, 4, 15, 31, 0, 0, 128, 511, 1023, 2047, 2047, 0, 12287, 32767]
theorem spec_l25Make.tab15 : rtab .any (opsOf Try.f66 15) = spec_l25Make.T15 := by kernel_rfl
theorem spec_l25Make.bits15 : waitsOk spec_l25Make.T15.2 spec_l25Make.B15 = true := by kernel_rfl
def spec_l25Make.T17 : Bool × List (List Nat × List Nat) := (true, [([], []), ([], []), ([1], [1]), ([2], [2]), ([3, 2, 2], [2, 3]), ([2, 4], [2, 4]), ([0, 4, 0], [0]), ([5, 6, 0, 1, 2, 3, 4, 5, 6], [5])])
def spec_l25Make.B17 : List Nat := [0, 0, 2, 6, 14, 30, 31, 127]
theorem spec_l25Make.tab17 : rtab .any (opsOf Try.f66 17) = spec_l25Make.T17 := by kernel_rfl
theorem spec_l25Make.bits17 : waitsOk spec_l25Make.T17.2 spec_l25Make.B17 = true := by kernel_rfl
set_option maxHeartbeats 8000000 in
set_option maxRecDepth 100000 in
theorem spec_l25Make.calls (k : Nat) (a0_0 : Int) (a0_1 : Int) (A0_2 : Option Addr) (c0_2 : Nat) (l0_2 : List (S34)) (a0_3 : Int) (a1_0 : Int) (a1_1 : Int) (a1_2 : Int) (r1 : Int) (r2 : Int) (r3 : List (S34)) (r4 : Int) (r5 : Bool) (w : World) (hr0_2 : Kd.C k34 w A0_2 l0_2.length l0_2) (hc0_2 : l0_2.length ≤ c0_2) (h : spec_l25Make.f k a0_0 a0_1 l0_2 a0_3 a1_0 a1_1 a1_2 = some (r1, r2, r3, r4, r5)) :
  Calls Try.prog 66 #[.agg #[.int .i64 a0_0, .int .i64 a0_1, .slice A0_2 l0_2.length c0_2, .int .i64 a0_3], .agg #[.int .i64 a1_0, .int .i64 a1_1, .int .i64 a1_2]] w fun e w' => ∃ v2_ : Value, e = .returned (.tuple #[.agg #[.int .i64 r1, .int .i64 r2, v2_, .int .i64 r4], .bool r5]) ∧ Kd.R k34 34 w' w.heap.size (fun _ => True) v2_ r3 ∧ Below w.heap.size w w' := by
 have hu24 := Try.underlying24
 have hu30 := Try.underlying30
 have hu34 := Try.underlying34
 have HR0_2 := Aside0.mk hr0_2
 have HC0_2 := Aside0.mk hc0_2
 clear hr0_2 hc0_2
 have HB := Aside0.mk (Below.refl w.heap.size w)
 have H : ((spec_l25Own.f a0_0 a0_1 l0_2 a0_3).bind fun bt254 => (if a1_0 = 1 then (if a1_2 > (wrap64 (4000 - a0_0)) then (some (bt254.1, bt254.2.1, bt254.2.2.1, bt254.2.2.2, false)) else (some (wrap64 (a0_0 + a1_2), bt254.2.1, bt254.2.2.1, bt254.2.2.2, true))) else (if a1_0 = 2 then (if bt254.2.2.1.length < 3518437208883 then ((some (bt254.2.2.1 ++ [(⟨a1_2, 0, 0, 0, a0_0⟩ : S34)] : List (S34))).bind fun y261 => ((spec_l25Good.f k bt254.1 bt254.2.1 y261 bt254.2.2.2).bind fun t264 => (some (bt254.1, bt254.2.1, y261, bt254.2.2.2, t264)))) else (none)) else (if a1_0 = 7 then (if a1_2 > (wrap64 (1000000 - a0_3)) then (some (bt254.1, bt254.2.1, bt254.2.2.1, bt254.2.2.2, false)) else (if 0 ≤ a1_1 then (if a1_1 < (l0_2.length : Int) then ((spec_l25Change.f ((rd_T34 l0_2 a1_1).f0) ((rd_T34 l0_2 a1_1).f1) ((rd_T34 l0_2 a1_1).f2) ((rd_T34 l0_2 a1_1).f3) ((rd_T34 l0_2 a1_1).f4) a1_0 a1_1 a1_2 a0_0).bind fun bt266 => (if a1_1 < (bt254.2.2.1.length : Int) then ((some (bt254.2.2.1.set (a1_1 : Int).toNat (⟨bt266.1, bt266.2.1, bt266.2.2.1, bt266.2.2.2.1, bt266.2.2.2.2.1⟩ : S34) : List (S34))).bind fun y273 => (if bt266.2.2.2.2.2 = true then ((spec_l25Good.f k bt254.1 bt254.2.1 y273 (wrap64 (a0_3 + a1_2))).bind fun t274 => (some (bt254.1, bt254.2.1, y273, wrap64 (a0_3 + a1_2), t274))) else (some (bt254.1, bt254.2.1, y273, wrap64 (a0_3 + a1_2), false)))) else (none))) else (none)) else (none))) else (if 0 ≤ a1_1 then (if a1_1 < (l0_2.length : Int) then ((spec_l25Change.f ((rd_T34 l0_2 a1_1).f0) ((rd_T34 l0_2 a1_1).f1) ((rd_T34 l0_2 a1_1).f2) ((rd_T34 l0_2 a1_1).f3) ((rd_T34 l0_2 a1_1).f4) a1_0 a1_1 a1_2 a0_0).bind fun bt276 => (if a1_1 < (bt254.2.2.1.length : Int) then ((some (bt254.2.2.1.set (a1_1 : Int).toNat (⟨bt276.1, bt276.2.1, bt276.2.2.1, bt276.2.2.2.1, bt276.2.2.2.2.1⟩ : S34) : List (S34))).bind fun y283 => (if bt276.2.2.2.2.2 = true then ((spec_l25Good.f k bt254.1 bt254.2.1 y283 bt254.2.2.2).bind fun t284 => (some (bt254.1, bt254.2.1, y283, bt254.2.2.2, t284))) else (some (bt254.1, bt254.2.1, y283, bt254.2.2.2, false)))) else (none))) else (none)) else (none)))))) = some (r1, r2, r3, r4, r5) := h
 clear h
 replace H := Option.bind_eq_some_iff.mp H
 obtain ⟨⟨t254, t255, t256, t259⟩, A30, H⟩ := H
 (try dsimp only at H)
 have A3 := Aside0.mk A30
 clear A30
 by_cases c4 : a1_0 = 1
 ·rw [if_pos c4] at H
  have c4b0 := beq_iff_eq.mpr c4
  have c4b1 := bne_eq_false_iff_eq.mpr c4
  clear c4
  by_cases c5 : a1_2 > (wrap64 (4000 - a0_0))
  ·rw [if_pos c5] at H
   have c5b0 : decide ((wrap64 (4000 - a0_0)) < a1_2) = true := decide_eq_true c5
   clear c5
   simp only [Option.some.injEq, Prod.mk.injEq] at H
   obtain ⟨rfl, rfl, rfl, rfl, rfl⟩ := H
   go_enter Try.func66, Try.ntmps66
   go_wp2_with (first | ((with_reducible refine gate_dst (N := 2) rfl ?_); refine box_ (N := 2) (cs := #[.int .i64 a0_0, .int .i64 a0_1, .slice A0_2 l0_2.length c0_2, .int .i64 a0_3]) (t := 24) ?_; intro gb251 hg w6 hbox hb; have BK251 := Aside0.mk (hbox); have GW251 := gz_ w hg; have GE251 := gz_ w hg; replace HB := hb_ w hb; clear hb hbox hg) | ((with_reducible refine gate_dst (N := 3) rfl ?_); refine box_ (N := 3) (cs := #[.int .i64 a1_0, .int .i64 a1_1, .int .i64 a1_2]) (t := 30) ?_; intro gb252 hg w7 hbox hb; have BK252 := Aside0.mk (hbox); have GW252 := gz_ w hg; have GE252 := gz_ w hg; have NB251_252 := ne_ hg BK251; have NB252_251 := en_ hg BK251; replace BK251 := bb_ BK251 hb; replace HB := hb_ w hb; clear hb hbox hg) | ((with_reducible refine gate_dst (N := 4) rfl ?_); refine box_ (N := 4) (cs := #[.int .i64 0, .int .i64 0, .slice none 0 0, .int .i64 0]) (t := 24) ?_; intro gb253 hg w8 hbox hb; have BK253 := Aside0.mk (hbox); have GW253 := gz_ w hg; have GE253 := gz_ w hg; have NB251_253 := ne_ hg BK251; have NB253_251 := en_ hg BK251; have NB252_253 := ne_ hg BK252; have NB253_252 := en_ hg BK252; replace BK251 := bb_ BK251 hb; replace BK252 := bb_ BK252 hb; replace HB := hb_ w hb; clear hb hbox hg; have hnb9 := NB251_252.out; have hnc9 := NB252_251.out; have hnb10 := NB251_253.out; have hnc10 := NB253_251.out; obtain ⟨hcz11_0, hcz11_1, hcz11_2, hcz11_3, hfz11_0, hfz11_1, hfz11_2, hfz11_3⟩ := bc4_ (w := w8) BK251) | ((with_reducible refine gate_callee (f := 64) rfl ?_); refine goesB (some 10) Try.func64 #[.agg #[.int .i64 a0_0, .int .i64 a0_1, .slice A0_2 l0_2.length c0_2, .int .i64 a0_3]] ?_; (with_reducible refine (spec_l25Own.calls a0_0 a0_1 _ _ l0_2 a0_3 t254 t255 t256 t259 _ ?side1 ?side2 A3.out).mono ?_); (case side1 => exact cb_ HR0_2 HB); (case side2 => exact HC0_2.out); rintro e w12 ⟨v257, rfl, ho0, hb⟩; refine ⟨_, rfl, ?_⟩; have HO258 := Aside0.mk (Kd.R_lower ho0 (below_size (bw_ w))); replace BK251 := bb_ BK251 hb; replace BK252 := bb_ BK252 hb; replace BK253 := bb_ BK253 hb; replace HB := hb_ w hb; (try clear hb); (try clear hb2); (try clear hk); (try clear hi); (try clear ho0)) | ((with_reducible refine gate_dst (N := 6) rfl ?_); refine box_ (N := 6) (cs := #[.int .i64 0, .int .i64 0, .slice none 0 0, .int .i64 0]) (t := 24) ?_; intro gb260 hg w13 hbox hb; have BK260 := Aside0.mk (hbox); have GW260 := gz_ w hg; have GE260 := gz_ w hg; have NB251_260 := ne_ hg BK251; have NB260_251 := en_ hg BK251; have NB252_260 := ne_ hg BK252; have NB260_252 := en_ hg BK252; have NB253_260 := ne_ hg BK253; have NB260_253 := en_ hg BK253; replace HO258 := Aside0.mk (Kd.R_below (ra_ HO258) hb); replace BK251 := bb_ BK251 hb; replace BK252 := bb_ BK252 hb; replace BK253 := bb_ BK253 hb; replace HB := hb_ w hb; clear hb hbox hg; have hnb14 := NB260_251.out; have hnc14 := NB251_260.out; have hnb15 := NB260_252.out; have hnc15 := NB252_260.out; have hnb16 := NB260_253.out; have hnc16 := NB253_260.out; obtain ⟨hcz17_0, hcz17_1, hcz17_2, hcz17_3, hfz17_0, hfz17_1, hfz17_2, hfz17_3⟩ := bc4_ (w := w13) BK260; obtain ⟨Ao18, co18, eo18⟩ := Kd.R_slice HO258.out; subst eo18; have hnb19 := NB252_253.out; have hnc19 := NB253_252.out; obtain ⟨hcz20_0, hcz20_1, hcz20_2, hfz20_0, hfz20_1, hfz20_2⟩ := bc3_ (w := w13) BK252; obtain ⟨hcz21_0, hcz21_1, hcz21_2, hcz21_3, hfz21_0, hfz21_1, hfz21_2, hfz21_3⟩ := bc4_ (w := w13) BK251; obtain ⟨hcz22_0, hcz22_1, hcz22_2, hcz22_3, hfz22_0, hfz22_1, hfz22_2, hfz22_3⟩ := bc4_ (w := w13) BK253) | ((with_reducible refine gate_store (t := 24) (p := 4) rfl ?_); refine store_event (t := 24) (p := 4) (v := ?vo_w23) (w1 := ((((((((w13.setCell ⟨gb260, 0, none⟩ (.int .i64 t254)).setCell ⟨gb260, 1, none⟩ (.int .i64 t255)).setCell ⟨gb260, 2, none⟩ (.slice Ao18 t256.length co18)).setCell ⟨gb260, 3, none⟩ (.int .i64 t259)).setCell ⟨gb253, 0, none⟩ (.int .i64 t254)).setCell ⟨gb253, 1, none⟩ (.int .i64 t255)).setCell ⟨gb253, 2, none⟩ (.slice Ao18 t256.length co18)).setCell ⟨gb253, 3, none⟩ (.int .i64 t259))) ?hg ?ho ?hn ?hr ?_; (case ho => rfl); (case hg => rfl); (case hn => rfl); (case hr => first | (go_simp; done) | (go_simp; rfl)); intro w23 hw; replace HO258 : Aside0 (Kd.R k34 34 w23 w.heap.size (fun _ => True) (.slice Ao18 t256.length co18) t256) := ⟨(by rw [hw]; exact (by exact rf_ (Kd.R_types (Kd.R_types HO258.out BK260.out (by decide)) BK253.out (by decide)) (fun _ hk => trivial)))⟩; replace BK251 := bs_ hw (bk_ BK251); replace BK252 := bs_ hw (bk_ BK252); replace BK253 : Aside0 (w23.heap[gb253]? = some (.cells #[.int .i64 t254, .int .i64 t255, .slice Ao18 t256.length co18, .int .i64 t259] 24 (0, 0))) := bs_ hw (bq_ BK253); replace BK260 : Aside0 (w23.heap[gb260]? = some (.cells #[.int .i64 t254, .int .i64 t255, .slice Ao18 t256.length co18, .int .i64 t259] 24 (0, 0))) := bs_ hw (bq_ BK260); replace HB := bl_ hw (bw_ w); clear hw))
   refine bodyPost_ret (results_ct rfl _ _ gb253 24 #[.int .i64 t254, .int .i64 t255, .slice Ao18 t256.length co18, .int .i64 t259] (0, 0) _ rfl (bk_ BK253) Try.underlying24 rfl (by kernel_rfl)) rfl ?_
   exact ⟨_, by first | rfl | (simp [errW_none, errW_some] <;> rfl) | (simp [*, errW_none, errW_some] <;> rfl), by (with_reducible repeat (first | apply Kd.R_alloc | apply Kd.R_drewN | apply Kd.R_drew)); exact HO258.out, (bw_ w)⟩
  ·rw [if_neg c5] at H
   have c5b0 : decide ((wrap64 (4000 - a0_0)) < a1_2) = false := decide_eq_false c5
   clear c5
   simp only [Option.some.injEq, Prod.mk.injEq] at H
   obtain ⟨rfl, rfl, rfl, rfl, rfl⟩ := H
   go_enter Try.func66, Try.ntmps66
   go_wp2_with (first | ((with_reducible refine gate_dst (N := 2) rfl ?_); refine box_ (N := 2) (cs := #[.int .i64 a0_0, .int .i64 a0_1, .slice A0_2 l0_2.length c0_2, .int .i64 a0_3]) (t := 24) ?_; intro gb251 hg w24 hbox hb; have BK251 := Aside0.mk (hbox); have GW251 := gz_ w hg; have GE251 := gz_ w hg; replace HB := hb_ w hb; clear hb hbox hg) | ((with_reducible refine gate_dst (N := 3) rfl ?_); refine box_ (N := 3) (cs := #[.int .i64 a1_0, .int .i64 a1_1, .int .i64 a1_2]) (t := 30) ?_; intro gb252 hg w25 hbox hb; have BK252 := Aside0.mk (hbox); have GW252 := gz_ w hg; have GE252 := gz_ w hg; have NB251_252 := ne_ hg BK251; have NB252_251 := en_ hg BK251; replace BK251 := bb_ BK251 hb; replace HB := hb_ w hb; clear hb hbox hg) | ((with_reducible refine gate_dst (N := 4) rfl ?_); refine box_ (N := 4) (cs := #[.int .i64 0, .int .i64 0, .slice none 0 0, .int .i64 0]) (t := 24) ?_; intro gb253 hg w26 hbox hb; have BK253 := Aside0.mk (hbox); have GW253 := gz_ w hg; have GE253 := gz_ w hg; have NB251_253 := ne_ hg BK251; have NB253_251 := en_ hg BK251; have NB252_253 := ne_ hg BK252; have NB253_252 := en_ hg BK252; replace BK251 := bb_ BK251 hb; replace BK252 := bb_ BK252 hb; replace HB := hb_ w hb; clear hb hbox hg; have hnb27 := NB251_252.out; have hnc27 := NB252_251.out; have hnb28 := NB251_253.out; have hnc28 := NB253_251.out; obtain ⟨hcz29_0, hcz29_1, hcz29_2, hcz29_3, hfz29_0, hfz29_1, hfz29_2, hfz29_3⟩ := bc4_ (w := w26) BK251) | ((with_reducible refine gate_callee (f := 64) rfl ?_); refine goesB (some 10) Try.func64 #[.agg #[.int .i64 a0_0, .int .i64 a0_1, .slice A0_2 l0_2.length c0_2, .int .i64 a0_3]] ?_; (with_reducible refine (spec_l25Own.calls a0_0 a0_1 _ _ l0_2 a0_3 t254 t255 t256 t259 _ ?side1 ?side2 A3.out).mono ?_); (case side1 => exact cb_ HR0_2 HB); (case side2 => exact HC0_2.out); rintro e w30 ⟨v257, rfl, ho0, hb⟩; refine ⟨_, rfl, ?_⟩; have HO258 := Aside0.mk (Kd.R_lower ho0 (below_size (bw_ w))); replace BK251 := bb_ BK251 hb; replace BK252 := bb_ BK252 hb; replace BK253 := bb_ BK253 hb; replace HB := hb_ w hb; (try clear hb); (try clear hb2); (try clear hk); (try clear hi); (try clear ho0)) | ((with_reducible refine gate_dst (N := 6) rfl ?_); refine box_ (N := 6) (cs := #[.int .i64 0, .int .i64 0, .slice none 0 0, .int .i64 0]) (t := 24) ?_; intro gb260 hg w31 hbox hb; have BK260 := Aside0.mk (hbox); have GW260 := gz_ w hg; have GE260 := gz_ w hg; have NB251_260 := ne_ hg BK251; have NB260_251 := en_ hg BK251; have NB252_260 := ne_ hg BK252; have NB260_252 := en_ hg BK252; have NB253_260 := ne_ hg BK253; have NB260_253 := en_ hg BK253; replace HO258 := Aside0.mk (Kd.R_below (ra_ HO258) hb); replace BK251 := bb_ BK251 hb; replace BK252 := bb_ BK252 hb; replace BK253 := bb_ BK253 hb; replace HB := hb_ w hb; clear hb hbox hg; have hnb32 := NB260_251.out; have hnc32 := NB251_260.out; have hnb33 := NB260_252.out; have hnc33 := NB252_260.out; have hnb34 := NB260_253.out; have hnc34 := NB253_260.out; obtain ⟨hcz35_0, hcz35_1, hcz35_2, hcz35_3, hfz35_0, hfz35_1, hfz35_2, hfz35_3⟩ := bc4_ (w := w31) BK260; obtain ⟨Ao36, co36, eo36⟩ := Kd.R_slice HO258.out; subst eo36; have hnb37 := NB252_253.out; have hnc37 := NB253_252.out; obtain ⟨hcz38_0, hcz38_1, hcz38_2, hfz38_0, hfz38_1, hfz38_2⟩ := bc3_ (w := w31) BK252; obtain ⟨hcz39_0, hcz39_1, hcz39_2, hcz39_3, hfz39_0, hfz39_1, hfz39_2, hfz39_3⟩ := bc4_ (w := w31) BK251) | ((with_reducible refine gate_store (t := 3) (p := 27) rfl ?_); refine store_event (t := 3) (p := 27) (v := ?vo_w40) (w1 := (((((w31.setCell ⟨gb260, 0, none⟩ (.int .i64 t254)).setCell ⟨gb260, 1, none⟩ (.int .i64 t255)).setCell ⟨gb260, 2, none⟩ (.slice Ao36 t256.length co36)).setCell ⟨gb260, 3, none⟩ (.int .i64 t259)).setCell ⟨gb260, 0, none⟩ (.int .i64 (wrap64 (a0_0 + a1_2))))) ?hg ?ho ?hn ?hr ?_; (case ho => rfl); (case hg => rfl); (case hn => rfl); (case hr => first | (go_simp; done) | (go_simp; rfl)); intro w40 hw; replace HO258 : Aside0 (Kd.R k34 34 w40 w.heap.size (fun _ => True) (.slice Ao36 t256.length co36) t256) := ⟨(by rw [hw]; exact (by exact rf_ (Kd.R_types HO258.out BK260.out (by decide)) (fun _ hk => trivial)))⟩; replace BK251 := bs_ hw (bk_ BK251); replace BK252 := bs_ hw (bk_ BK252); replace BK253 := bs_ hw (bk_ BK253); replace BK260 : Aside0 (w40.heap[gb260]? = some (.cells #[.int .i64 (wrap64 (a0_0 + a1_2)), .int .i64 t255, .slice Ao36 t256.length co36, .int .i64 t259] 24 (0, 0))) := bs_ hw (bq_ BK260); replace HB := bl_ hw (bw_ w); clear hw; obtain ⟨hcz41_0, hcz41_1, hcz41_2, hcz41_3, hfz41_0, hfz41_1, hfz41_2, hfz41_3⟩ := bc4_ (w := w40) BK260; obtain ⟨hcz42_0, hcz42_1, hcz42_2, hcz42_3, hfz42_0, hfz42_1, hfz42_2, hfz42_3⟩ := bc4_ (w := w40) BK253))
   refine bodyPost_ret (results_ct rfl _ _ gb253 24 #[.int .i64 (wrap64 (a0_0 + a1_2)), .int .i64 t255, .slice Ao36 t256.length co36, .int .i64 t259] (0, 0) _ rfl (bq_ BK253) Try.underlying24 rfl (by kernel_rfl)) rfl ?_
   exact ⟨_, by first | rfl | (simp [errW_none, errW_some] <;> rfl) | (simp [*, errW_none, errW_some] <;> rfl), by exact rf_ (Kd.R_types HO258.out BK253.out (by decide)) (fun _ hk => trivial), (bw_ w)⟩
 ·rw [if_neg c4] at H
  have c4b0 := beq_eq_false_iff_ne.mpr c4
  have c4b1 := bne_iff_ne.mpr c4
  by_cases c43 : a1_0 = 2
  ·rw [if_pos c43] at H
   have c43b0 := beq_iff_eq.mpr c43
   have c43b1 := bne_eq_false_iff_eq.mpr c43
   clear c43
   by_cases c44 : t256.length < 3518437208883
   ·rw [if_pos c44] at H
    have LMc44 := Aside0.mk c44
    clear c44
    obtain ⟨y261, hy261⟩ : ∃ y_ : List (S34), y_ = (t256 ++ [(⟨a1_2, 0, 0, 0, a0_0⟩ : S34)]) := ⟨_, rfl⟩
    replace H : ((spec_l25Good.f k t254 t255 y261 t259).bind fun t264 => (some (t254, t255, y261, t259, t264))) = some (r1, r2, r3, r4, r5) := by first | (rw [hy261]; with_reducible exact H) | (have H2_ := (Option.bind_some _ _).symm.trans H; rw [hy261]; with_reducible exact H2_) | (have H2_ := (Option.bind_some _ _).symm.trans H; with_reducible exact H2_) | with_reducible exact H | (rw [hy261]; exact H) | exact H
    have Ny261 := Aside0.mk hy261
    clear hy261
    replace H := Option.bind_eq_some_iff.mp H
    obtain ⟨t264, A450, H⟩ := H
    (try dsimp only at H)
    have A45 := Aside0.mk A450
    clear A450
    simp only [Option.some.injEq, Prod.mk.injEq] at H
    obtain ⟨rfl, rfl, rfl, rfl, rfl⟩ := H
    go_enter Try.func66, Try.ntmps66
    try go_wp2_with (first | ((with_reducible refine gate_dst (N := 2) rfl ?_); refine box_ (N := 2) (cs := #[.int .i64 a0_0, .int .i64 a0_1, .slice A0_2 l0_2.length c0_2, .int .i64 a0_3]) (t := 24) ?_; intro gb251 hg w46 hbox hb; have BK251 := Aside0.mk (hbox); have GW251 := gz_ w hg; have GE251 := gz_ w hg; replace HB := hb_ w hb; clear hb hbox hg) | ((with_reducible refine gate_dst (N := 3) rfl ?_); refine box_ (N := 3) (cs := #[.int .i64 a1_0, .int .i64 a1_1, .int .i64 a1_2]) (t := 30) ?_; intro gb252 hg w47 hbox hb; have BK252 := Aside0.mk (hbox); have GW252 := gz_ w hg; have GE252 := gz_ w hg; have NB251_252 := ne_ hg BK251; have NB252_251 := en_ hg BK251; replace BK251 := bb_ BK251 hb; replace HB := hb_ w hb; clear hb hbox hg) | ((with_reducible refine gate_dst (N := 4) rfl ?_); refine box_ (N := 4) (cs := #[.int .i64 0, .int .i64 0, .slice none 0 0, .int .i64 0]) (t := 24) ?_; intro gb253 hg w48 hbox hb; have BK253 := Aside0.mk (hbox); have GW253 := gz_ w hg; have GE253 := gz_ w hg; have NB251_253 := ne_ hg BK251; have NB253_251 := en_ hg BK251; have NB252_253 := ne_ hg BK252; have NB253_252 := en_ hg BK252; replace BK251 := bb_ BK251 hb; replace BK252 := bb_ BK252 hb; replace HB := hb_ w hb; clear hb hbox hg; have hnb49 := NB251_252.out; have hnc49 := NB252_251.out; have hnb50 := NB251_253.out; have hnc50 := NB253_251.out; obtain ⟨hcz51_0, hcz51_1, hcz51_2, hcz51_3, hfz51_0, hfz51_1, hfz51_2, hfz51_3⟩ := bc4_ (w := w48) BK251) | ((with_reducible refine gate_callee (f := 64) rfl ?_); refine goesB (some 10) Try.func64 #[.agg #[.int .i64 a0_0, .int .i64 a0_1, .slice A0_2 l0_2.length c0_2, .int .i64 a0_3]] ?_; (with_reducible refine (spec_l25Own.calls a0_0 a0_1 _ _ l0_2 a0_3 t254 t255 t256 t259 _ ?side1 ?side2 A3.out).mono ?_); (case side1 => exact cb_ HR0_2 HB); (case side2 => exact HC0_2.out); rintro e w52 ⟨v257, rfl, ho0, hb⟩; refine ⟨_, rfl, ?_⟩; have HO258 := Aside0.mk (Kd.R_lower ho0 (below_size (bw_ w))); replace BK251 := bb_ BK251 hb; replace BK252 := bb_ BK252 hb; replace BK253 := bb_ BK253 hb; replace HB := hb_ w hb; (try clear hb); (try clear hb2); (try clear hk); (try clear hi); (try clear ho0)) | ((with_reducible refine gate_dst (N := 6) rfl ?_); refine box_ (N := 6) (cs := #[.int .i64 0, .int .i64 0, .slice none 0 0, .int .i64 0]) (t := 24) ?_; intro gb260 hg w53 hbox hb; have BK260 := Aside0.mk (hbox); have GW260 := gz_ w hg; have GE260 := gz_ w hg; have NB251_260 := ne_ hg BK251; have NB260_251 := en_ hg BK251; have NB252_260 := ne_ hg BK252; have NB260_252 := en_ hg BK252; have NB253_260 := ne_ hg BK253; have NB260_253 := en_ hg BK253; replace HO258 := Aside0.mk (Kd.R_below (ra_ HO258) hb); replace BK251 := bb_ BK251 hb; replace BK252 := bb_ BK252 hb; replace BK253 := bb_ BK253 hb; replace HB := hb_ w hb; clear hb hbox hg; have hnb54 := NB260_251.out; have hnc54 := NB251_260.out; have hnb55 := NB260_252.out; have hnc55 := NB252_260.out; have hnb56 := NB260_253.out; have hnc56 := NB253_260.out; obtain ⟨hcz57_0, hcz57_1, hcz57_2, hcz57_3, hfz57_0, hfz57_1, hfz57_2, hfz57_3⟩ := bc4_ (w := w53) BK260; obtain ⟨Ao58, co58, eo58⟩ := Kd.R_slice HO258.out; subst eo58; have hnb59 := NB252_253.out; have hnc59 := NB253_252.out; obtain ⟨hcz60_0, hcz60_1, hcz60_2, hfz60_0, hfz60_1, hfz60_2⟩ := bc3_ (w := w53) BK252; obtain ⟨hcz61_0, hcz61_1, hcz61_2, hcz61_3, hfz61_0, hfz61_1, hfz61_2, hfz61_3⟩ := bc4_ (w := w53) BK251) | ((with_reducible refine gate_builtin (b := .append) (xs := #[.tmp 32, .tmp 38]) rfl ?_); at_builtin; refine Kd.R_append k34 (w0 := w) w.heap.size rfl (.tmp 32) (.tmp 38) 22 34 (.agg #[(.int .i64 0), (.int .i64 0), (.int .i64 0), (.int .i64 0), (.int .i64 0)]) 40 rfl Try.underlying22 info34 rfl (by decide) (by omega) (.slice Ao58 t256.length co58) t256 (⟨a1_2, 0, 0, 0, a0_0⟩ : S34) [.int .i64 a1_2, .int .i64 0, .int .i64 0, .int .i64 0, .int .i64 a0_0] (fun _ => True) (fun _ => False) rfl (by first | (go_simp; done) | (go_simp; rfl)) ?aP (fun _ hk => hk.elim) ?aF ?aO ?aB ?aS ?aL ?_; (case aP => exact k34_mkM _ _ _ (⟨a1_2, 0, 0, 0, a0_0⟩ : S34)); (case aB => exact (bw_ w)); (case aF => exact (fun _ _ => trivial)); (case aO => exact (by exact rf_ (Kd.R_types HO258.out BK260.out (by decide)) (fun _ hk => trivial))); (case aS => exact (below_size (bw_ w))); (case aL => have := LMc44.out; omega); intro v262 w62 ho hb hg hat; rw [← Ny261.out] at ho; replace BK251 := Aside0.mk (blk_grown (g := gb251) (o := .cells #[.int .i64 a0_0, .int .i64 a0_1, .slice A0_2 l0_2.length c0_2, .int .i64 a0_3] 24 (0, 0)) (bk_ BK251) hg (Kd.R_ne HO258.out BK251.out (by decide))); replace BK252 := Aside0.mk (blk_grown (g := gb252) (o := .cells #[.int .i64 a1_0, .int .i64 a1_1, .int .i64 a1_2] 30 (0, 0)) (bk_ BK252) hg (Kd.R_ne HO258.out BK252.out (by decide))); replace BK253 := Aside0.mk (blk_grown (g := gb253) (o := .cells #[.int .i64 0, .int .i64 0, .slice none 0 0, .int .i64 0] 24 (0, 0)) (bk_ BK253) hg (Kd.R_ne HO258.out BK253.out (by decide))); replace BK260 := Aside0.mk (blk_grown (g := gb260) (o := .cells #[.int .i64 t254, .int .i64 t255, .slice Ao58 t256.length co58, .int .i64 t259] 24 (0, 0)) (bq_ BK260) hg (Kd.R_ne HO258.out BK260.out (by decide))); have HO263 := Aside0.mk (ho); replace HB := Aside0.mk (hb); clear HO258; clear ho hb hg hat; obtain ⟨Ao63, co63, eo63⟩ := Kd.R_slice HO263.out; subst eo63; obtain ⟨hcz64_0, hcz64_1, hcz64_2, hcz64_3, hfz64_0, hfz64_1, hfz64_2, hfz64_3⟩ := bc4_ (w := w62) BK260))
    have n0_ : Aside0 (Kd.R k34 34 (w62.setCell ⟨gb260, 2, none⟩ (.slice Ao63 y261.length co63)) w.heap.size (fun _ => True) (.slice Ao63 y261.length co63) y261) := ⟨by exact rf_ (Kd.R_types HO263.out BK260.out (by decide)) (fun _ hk => trivial)⟩
    have n1_ : Aside0 ((w62.setCell ⟨gb260, 2, none⟩ (.slice Ao63 y261.length co63)).heap[gb251]? = some (.cells #[.int .i64 a0_0, .int .i64 a0_1, .slice A0_2 l0_2.length c0_2, .int .i64 a0_3] 24 (0, 0))) := ⟨bk_ BK251⟩
    have n2_ : Aside0 ((w62.setCell ⟨gb260, 2, none⟩ (.slice Ao63 y261.length co63)).heap[gb252]? = some (.cells #[.int .i64 a1_0, .int .i64 a1_1, .int .i64 a1_2] 30 (0, 0))) := ⟨bk_ BK252⟩
    have n3_ : Aside0 ((w62.setCell ⟨gb260, 2, none⟩ (.slice Ao63 y261.length co63)).heap[gb253]? = some (.cells #[.int .i64 0, .int .i64 0, .slice none 0 0, .int .i64 0] 24 (0, 0))) := ⟨bk_ BK253⟩
    have n4_ : Aside0 ((w62.setCell ⟨gb260, 2, none⟩ (.slice Ao63 y261.length co63)).heap[gb260]? = some (.cells #[.int .i64 t254, .int .i64 t255, .slice Ao63 y261.length co63, .int .i64 t259] 24 (0, 0))) := ⟨bq_ BK260⟩
    have n5_ : Aside0 (Below w.heap.size w (w62.setCell ⟨gb260, 2, none⟩ (.slice Ao63 y261.length co63))) := ⟨(bw_ w)⟩
    (try clear HO263)
    (try clear BK251)
    (try clear BK252)
    (try clear BK253)
    (try clear BK260)
    (try clear HB)
    generalize (w62.setCell ⟨gb260, 2, none⟩ (.slice Ao63 y261.length co63)) = w65 at n0_ n1_ n2_ n3_ n4_ n5_ ⊢
    have HO263 := n0_
    have BK251 := n1_
    have BK252 := n2_
    have BK253 := n3_
    have BK260 := n4_
    have HB := n5_
    clear n0_ n1_ n2_ n3_ n4_ n5_
    replace HO263 := Aside0.mk (Kd.R_drew HO263.out)
    replace BK251 := Aside0.mk (blk_drew BK251.out)
    replace BK252 := Aside0.mk (blk_drew BK252.out)
    replace BK253 := Aside0.mk (blk_drew BK253.out)
    replace BK260 := Aside0.mk (blk_drew BK260.out)
    replace HB := Aside0.mk (below_drew1 HB.out)
    refine start_ (n := 5) (S := fun w' => w'.cell? ⟨gb260, 0, none⟩ = some (.int .i64 t254) ∧ w'.cell? ⟨gb260, 1, none⟩ = some (.int .i64 t255) ∧ w'.cell? ⟨gb260, 2, none⟩ = some (.slice Ao63 y261.length co63) ∧ w'.cell? ⟨gb260, 3, none⟩ = some (.int .i64 t259)) (ds := []) #[false, false, false, false, false] (by kernel_rfl) rfl rfl ⟨bc_ BK260 0, bc_ BK260 1, bc_ BK260 2, bc_ BK260 3⟩ (fun hHeld => ?_)
    generalize w65.drew = w66 at HO263 BK251 BK252 BK253 BK260 HB hHeld ⊢
    refine take_ (i := 0) (N := some 41) (v := ?_) (a' := ?_) #[true, false, false, false, false] rfl rfl (by kernel_rfl) (fun _ _ _ h => h) (Or.inl ⟨by rfl, ?_⟩) hHeld ?_ ?_
    rotate_left
    ·rintro w' ⟨s0, s1, s2, s3⟩
     go_simp
     with_reducible rfl
    rotate_left
    ·simp only [Act.put, List.setIfInBounds_toArray, List.set_cons_zero, List.set_cons_succ, i64_w, i32_w]
     rfl
    refine take_ (i := 1) (N := some 42) (v := ?_) (a' := ?_) #[true, true, false, false, false] rfl rfl (by kernel_rfl) (fun _ _ _ h => h) (Or.inl ⟨by rfl, ?_⟩) hHeld ?_ ?_
    rotate_left
    ·rintro w' ⟨s0, s1, s2, s3⟩
     go_simp
     with_reducible rfl
    rotate_left
    ·simp only [Act.put, List.setIfInBounds_toArray, List.set_cons_zero, List.set_cons_succ, i64_w, i32_w]
     rfl
    refine one_ (i := 2) (N := some 43) #[true, true, true, false, false] rfl rfl (by kernel_rfl) (by decide) (fun K hK => ?_)
    refine goesA Try.func63 #[.agg #[.int .i64 t254, .int .i64 t255, .slice Ao63 y261.length co63, .int .i64 t259]] ?_
    with_reducible refine (spec_l25Good.calls k t254 t255 _ _ y261 t259 t264 _ ?side1 ?side2 A45.out).mono ?_
    (case side1 => exact co_ (Kd.R_reads' HO263.out).2.2)
    (case side2 => exact (Kd.R_reads' HO263.out).2.1)
    rintro e w67 ⟨rfl, hb⟩
    refine ⟨_, rfl, ?_⟩
    replace HO263 := Aside0.mk (Kd.R_below (ra_ HO263) hb)
    replace BK251 := bb_ BK251 hb
    replace BK252 := bb_ BK252 hb
    replace BK253 := bb_ BK253 hb
    replace BK260 := bb_ BK260 hb
    replace HB := hb_ w hb
    clear hb
    refine hK.out _ _ ⟨bc_ BK260 0, bc_ BK260 1, bc_ BK260 2, bc_ BK260 3⟩ (fun hHeld => ?_)
    clear hK K
    refine normA (N := some 43) ?_
    refine one_ (i := 3) (N := none) #[true, true, true, true, false] rfl rfl (by kernel_rfl) (by decide) (fun K hK => ?_)
    have hs68 : w67.cell? ⟨gb253, 0, none⟩ = some (.int .i64 0) := bc_ BK253 0
    have hfs68 := blk_frozen BK253.out 0
    have hns68_0 := NB251_253.out
    have hns68_1 := NB252_253.out
    have hns68_3 := NB260_253.out
    have hms68_0 := NB253_251.out
    have hms68_1 := NB253_252.out
    have hms68_3 := NB253_260.out
    have hs69 : w67.cell? ⟨gb253, 1, none⟩ = some (.int .i64 0) := bc_ BK253 1
    have hfs69 := blk_frozen BK253.out 1
    have hns69_0 := NB251_253.out
    have hns69_1 := NB252_253.out
    have hns69_3 := NB260_253.out
    have hms69_0 := NB253_251.out
    have hms69_1 := NB253_252.out
    have hms69_3 := NB253_260.out
    have hs70 : w67.cell? ⟨gb253, 2, none⟩ = some (.slice none 0 0) := bc_ BK253 2
    have hfs70 := blk_frozen BK253.out 2
    have hns70_0 := NB251_253.out
    have hns70_1 := NB252_253.out
    have hns70_3 := NB260_253.out
    have hms70_0 := NB253_251.out
    have hms70_1 := NB253_252.out
    have hms70_3 := NB253_260.out
    have hs71 : w67.cell? ⟨gb253, 3, none⟩ = some (.int .i64 0) := bc_ BK253 3
    have hfs71 := blk_frozen BK253.out 3
    have hns71_0 := NB251_253.out
    have hns71_1 := NB252_253.out
    have hns71_3 := NB260_253.out
    have hms71_0 := NB253_251.out
    have hms71_1 := NB253_252.out
    have hms71_3 := NB253_260.out
    refine skip_ (w1 := ?_) (by rfl) rfl ?_ ?_
    rotate_left
    ·go_simp
     rfl
    refine hK.out _ _ ⟨((cn_ NB260_253).trans (((cn_ NB260_253).trans (((cn_ NB260_253).trans (((cn_ NB260_253).trans (hHeld.1)))))))), ((cn_ NB260_253).trans (((cn_ NB260_253).trans (((cn_ NB260_253).trans (((cn_ NB260_253).trans (hHeld.2.1)))))))), ((cn_ NB260_253).trans (((cn_ NB260_253).trans (((cn_ NB260_253).trans (((cn_ NB260_253).trans (hHeld.2.2.1)))))))), ((cn_ NB260_253).trans (((cn_ NB260_253).trans (((cn_ NB260_253).trans (((cn_ NB260_253).trans (hHeld.2.2.2))))))))⟩ (fun hHeld => ?_)
    clear hK K
    refine pureK (N := some 5) 4 ?_
    refine done_ (by kernel_rfl) ?_
    try go_wp2
    refine bodyPost_ret (results_ct rfl _ _ gb253 24 #[.int .i64 t254, .int .i64 t255, .slice Ao63 y261.length co63, .int .i64 t259] (0, 0) _ rfl (bq_ BK253) Try.underlying24 rfl (by kernel_rfl)) rfl ?_
    exact ⟨_, by first | rfl | (simp [errW_none, errW_some] <;> rfl) | (simp [*, errW_none, errW_some] <;> rfl), by exact rf_ (Kd.R_types HO263.out BK253.out (by decide)) (fun _ hk => trivial), (bw_ w)⟩
   ·rw [if_neg c44] at H
    exact absurd H (by simp)
  ·rw [if_neg c43] at H
   have c43b0 := beq_eq_false_iff_ne.mpr c43
   have c43b1 := bne_iff_ne.mpr c43
   by_cases c72 : a1_0 = 7
   ·rw [if_pos c72] at H
    have c72b0 := beq_iff_eq.mpr c72
    have c72b1 := bne_eq_false_iff_eq.mpr c72
    clear c72
    by_cases c73 : a1_2 > (wrap64 (1000000 - a0_3))
    ·rw [if_pos c73] at H
     have c73b0 : decide ((wrap64 (1000000 - a0_3)) < a1_2) = true := decide_eq_true c73
     clear c73
     simp only [Option.some.injEq, Prod.mk.injEq] at H
     obtain ⟨rfl, rfl, rfl, rfl, rfl⟩ := H
     go_enter Try.func66, Try.ntmps66
     go_wp2_with (first | ((with_reducible refine gate_dst (N := 2) rfl ?_); refine box_ (N := 2) (cs := #[.int .i64 a0_0, .int .i64 a0_1, .slice A0_2 l0_2.length c0_2, .int .i64 a0_3]) (t := 24) ?_; intro gb251 hg w74 hbox hb; have BK251 := Aside0.mk (hbox); have GW251 := gz_ w hg; have GE251 := gz_ w hg; replace HB := hb_ w hb; clear hb hbox hg) | ((with_reducible refine gate_dst (N := 3) rfl ?_); refine box_ (N := 3) (cs := #[.int .i64 a1_0, .int .i64 a1_1, .int .i64 a1_2]) (t := 30) ?_; intro gb252 hg w75 hbox hb; have BK252 := Aside0.mk (hbox); have GW252 := gz_ w hg; have GE252 := gz_ w hg; have NB251_252 := ne_ hg BK251; have NB252_251 := en_ hg BK251; replace BK251 := bb_ BK251 hb; replace HB := hb_ w hb; clear hb hbox hg) | ((with_reducible refine gate_dst (N := 4) rfl ?_); refine box_ (N := 4) (cs := #[.int .i64 0, .int .i64 0, .slice none 0 0, .int .i64 0]) (t := 24) ?_; intro gb253 hg w76 hbox hb; have BK253 := Aside0.mk (hbox); have GW253 := gz_ w hg; have GE253 := gz_ w hg; have NB251_253 := ne_ hg BK251; have NB253_251 := en_ hg BK251; have NB252_253 := ne_ hg BK252; have NB253_252 := en_ hg BK252; replace BK251 := bb_ BK251 hb; replace BK252 := bb_ BK252 hb; replace HB := hb_ w hb; clear hb hbox hg; have hnb77 := NB251_252.out; have hnc77 := NB252_251.out; have hnb78 := NB251_253.out; have hnc78 := NB253_251.out; obtain ⟨hcz79_0, hcz79_1, hcz79_2, hcz79_3, hfz79_0, hfz79_1, hfz79_2, hfz79_3⟩ := bc4_ (w := w76) BK251) | ((with_reducible refine gate_callee (f := 64) rfl ?_); refine goesB (some 10) Try.func64 #[.agg #[.int .i64 a0_0, .int .i64 a0_1, .slice A0_2 l0_2.length c0_2, .int .i64 a0_3]] ?_; (with_reducible refine (spec_l25Own.calls a0_0 a0_1 _ _ l0_2 a0_3 t254 t255 t256 t259 _ ?side1 ?side2 A3.out).mono ?_); (case side1 => exact cb_ HR0_2 HB); (case side2 => exact HC0_2.out); rintro e w80 ⟨v257, rfl, ho0, hb⟩; refine ⟨_, rfl, ?_⟩; have HO258 := Aside0.mk (Kd.R_lower ho0 (below_size (bw_ w))); replace BK251 := bb_ BK251 hb; replace BK252 := bb_ BK252 hb; replace BK253 := bb_ BK253 hb; replace HB := hb_ w hb; (try clear hb); (try clear hb2); (try clear hk); (try clear hi); (try clear ho0)) | ((with_reducible refine gate_dst (N := 6) rfl ?_); refine box_ (N := 6) (cs := #[.int .i64 0, .int .i64 0, .slice none 0 0, .int .i64 0]) (t := 24) ?_; intro gb260 hg w81 hbox hb; have BK260 := Aside0.mk (hbox); have GW260 := gz_ w hg; have GE260 := gz_ w hg; have NB251_260 := ne_ hg BK251; have NB260_251 := en_ hg BK251; have NB252_260 := ne_ hg BK252; have NB260_252 := en_ hg BK252; have NB253_260 := ne_ hg BK253; have NB260_253 := en_ hg BK253; replace HO258 := Aside0.mk (Kd.R_below (ra_ HO258) hb); replace BK251 := bb_ BK251 hb; replace BK252 := bb_ BK252 hb; replace BK253 := bb_ BK253 hb; replace HB := hb_ w hb; clear hb hbox hg; have hnb82 := NB260_251.out; have hnc82 := NB251_260.out; have hnb83 := NB260_252.out; have hnc83 := NB252_260.out; have hnb84 := NB260_253.out; have hnc84 := NB253_260.out; obtain ⟨hcz85_0, hcz85_1, hcz85_2, hcz85_3, hfz85_0, hfz85_1, hfz85_2, hfz85_3⟩ := bc4_ (w := w81) BK260; obtain ⟨Ao86, co86, eo86⟩ := Kd.R_slice HO258.out; subst eo86; have hnb87 := NB252_253.out; have hnc87 := NB253_252.out; obtain ⟨hcz88_0, hcz88_1, hcz88_2, hfz88_0, hfz88_1, hfz88_2⟩ := bc3_ (w := w81) BK252; obtain ⟨hcz89_0, hcz89_1, hcz89_2, hcz89_3, hfz89_0, hfz89_1, hfz89_2, hfz89_3⟩ := bc4_ (w := w81) BK251; obtain ⟨hcz90_0, hcz90_1, hcz90_2, hcz90_3, hfz90_0, hfz90_1, hfz90_2, hfz90_3⟩ := bc4_ (w := w81) BK253) | ((with_reducible refine gate_store (t := 24) (p := 4) rfl ?_); refine store_event (t := 24) (p := 4) (v := ?vo_w91) (w1 := ((((((((w81.setCell ⟨gb260, 0, none⟩ (.int .i64 t254)).setCell ⟨gb260, 1, none⟩ (.int .i64 t255)).setCell ⟨gb260, 2, none⟩ (.slice Ao86 t256.length co86)).setCell ⟨gb260, 3, none⟩ (.int .i64 t259)).setCell ⟨gb253, 0, none⟩ (.int .i64 t254)).setCell ⟨gb253, 1, none⟩ (.int .i64 t255)).setCell ⟨gb253, 2, none⟩ (.slice Ao86 t256.length co86)).setCell ⟨gb253, 3, none⟩ (.int .i64 t259))) ?hg ?ho ?hn ?hr ?_; (case ho => rfl); (case hg => rfl); (case hn => rfl); (case hr => first | (go_simp; done) | (go_simp; rfl)); intro w91 hw; replace HO258 : Aside0 (Kd.R k34 34 w91 w.heap.size (fun _ => True) (.slice Ao86 t256.length co86) t256) := ⟨(by rw [hw]; exact (by exact rf_ (Kd.R_types (Kd.R_types HO258.out BK260.out (by decide)) BK253.out (by decide)) (fun _ hk => trivial)))⟩; replace BK251 := bs_ hw (bk_ BK251); replace BK252 := bs_ hw (bk_ BK252); replace BK253 : Aside0 (w91.heap[gb253]? = some (.cells #[.int .i64 t254, .int .i64 t255, .slice Ao86 t256.length co86, .int .i64 t259] 24 (0, 0))) := bs_ hw (bq_ BK253); replace BK260 : Aside0 (w91.heap[gb260]? = some (.cells #[.int .i64 t254, .int .i64 t255, .slice Ao86 t256.length co86, .int .i64 t259] 24 (0, 0))) := bs_ hw (bq_ BK260); replace HB := bl_ hw (bw_ w); clear hw))
     refine bodyPost_ret (results_ct rfl _ _ gb253 24 #[.int .i64 t254, .int .i64 t255, .slice Ao86 t256.length co86, .int .i64 t259] (0, 0) _ rfl (bk_ BK253) Try.underlying24 rfl (by kernel_rfl)) rfl ?_
     exact ⟨_, by first | rfl | (simp [errW_none, errW_some] <;> rfl) | (simp [*, errW_none, errW_some] <;> rfl), by (with_reducible repeat (first | apply Kd.R_alloc | apply Kd.R_drewN | apply Kd.R_drew)); exact HO258.out, (bw_ w)⟩
    ·rw [if_neg c73] at H
     have c73b0 : decide ((wrap64 (1000000 - a0_3)) < a1_2) = false := decide_eq_false c73
     clear c73
     by_cases c92 : 0 ≤ a1_1
     ·rw [if_pos c92] at H
      have c92b0 := decide_eq_true c92
      clear c92
      by_cases c93 : a1_1 < (l0_2.length : Int)
      ·rw [if_pos c93] at H
       have c93b0 := decide_eq_true c93
       clear c93
       replace H := Option.bind_eq_some_iff.mp H
       obtain ⟨⟨t266, t267, t268, t269, t270, t271⟩, A940, H⟩ := H
       (try dsimp only at H)
       have A94 := Aside0.mk A940
       clear A940
       by_cases c95 : a1_1 < (t256.length : Int)
       ·rw [if_pos c95] at H
        have c95b0 := decide_eq_true c95
        clear c95
        obtain ⟨y273, hy273⟩ : ∃ y_ : List (S34), y_ = (t256.set (a1_1 : Int).toNat (⟨t266, t267, t268, t269, t270⟩ : S34)) := ⟨_, rfl⟩
        replace H : (if t271 = true then ((spec_l25Good.f k t254 t255 y273 (wrap64 (a0_3 + a1_2))).bind fun t274 => (some (t254, t255, y273, wrap64 (a0_3 + a1_2), t274))) else (some (t254, t255, y273, wrap64 (a0_3 + a1_2), false))) = some (r1, r2, r3, r4, r5) := by first | (rw [hy273]; with_reducible exact H) | (have H2_ := (Option.bind_some _ _).symm.trans H; rw [hy273]; with_reducible exact H2_) | (have H2_ := (Option.bind_some _ _).symm.trans H; with_reducible exact H2_) | with_reducible exact H | (rw [hy273]; exact H) | exact H
        have Ny273 := Aside0.mk hy273
        clear hy273
        by_cases c97 : t271 = true
        ·subst c97
         rw [if_pos rfl] at H
         replace H := Option.bind_eq_some_iff.mp H
         obtain ⟨t274, A980, H⟩ := H
         (try dsimp only at H)
         have A98 := Aside0.mk A980
         clear A980
         simp only [Option.some.injEq, Prod.mk.injEq] at H
         obtain ⟨rfl, rfl, rfl, rfl, rfl⟩ := H
         go_enter Try.func66, Try.ntmps66
         try go_wp2_with (first | ((with_reducible refine gate_dst (N := 2) rfl ?_); refine box_ (N := 2) (cs := #[.int .i64 a0_0, .int .i64 a0_1, .slice A0_2 l0_2.length c0_2, .int .i64 a0_3]) (t := 24) ?_; intro gb251 hg w99 hbox hb; have BK251 := Aside0.mk (hbox); have GW251 := gz_ w hg; have GE251 := gz_ w hg; replace HB := hb_ w hb; clear hb hbox hg) | ((with_reducible refine gate_dst (N := 3) rfl ?_); refine box_ (N := 3) (cs := #[.int .i64 a1_0, .int .i64 a1_1, .int .i64 a1_2]) (t := 30) ?_; intro gb252 hg w100 hbox hb; have BK252 := Aside0.mk (hbox); have GW252 := gz_ w hg; have GE252 := gz_ w hg; have NB251_252 := ne_ hg BK251; have NB252_251 := en_ hg BK251; replace BK251 := bb_ BK251 hb; replace HB := hb_ w hb; clear hb hbox hg) | ((with_reducible refine gate_dst (N := 4) rfl ?_); refine box_ (N := 4) (cs := #[.int .i64 0, .int .i64 0, .slice none 0 0, .int .i64 0]) (t := 24) ?_; intro gb253 hg w101 hbox hb; have BK253 := Aside0.mk (hbox); have GW253 := gz_ w hg; have GE253 := gz_ w hg; have NB251_253 := ne_ hg BK251; have NB253_251 := en_ hg BK251; have NB252_253 := ne_ hg BK252; have NB253_252 := en_ hg BK252; replace BK251 := bb_ BK251 hb; replace BK252 := bb_ BK252 hb; replace HB := hb_ w hb; clear hb hbox hg; have hnb102 := NB251_252.out; have hnc102 := NB252_251.out; have hnb103 := NB251_253.out; have hnc103 := NB253_251.out; obtain ⟨hcz104_0, hcz104_1, hcz104_2, hcz104_3, hfz104_0, hfz104_1, hfz104_2, hfz104_3⟩ := bc4_ (w := w101) BK251) | ((with_reducible refine gate_callee (f := 64) rfl ?_); refine goesB (some 10) Try.func64 #[.agg #[.int .i64 a0_0, .int .i64 a0_1, .slice A0_2 l0_2.length c0_2, .int .i64 a0_3]] ?_; (with_reducible refine (spec_l25Own.calls a0_0 a0_1 _ _ l0_2 a0_3 t254 t255 t256 t259 _ ?side1 ?side2 A3.out).mono ?_); (case side1 => exact cb_ HR0_2 HB); (case side2 => exact HC0_2.out); rintro e w105 ⟨v257, rfl, ho0, hb⟩; refine ⟨_, rfl, ?_⟩; have HO258 := Aside0.mk (Kd.R_lower ho0 (below_size (bw_ w))); replace BK251 := bb_ BK251 hb; replace BK252 := bb_ BK252 hb; replace BK253 := bb_ BK253 hb; replace HB := hb_ w hb; (try clear hb); (try clear hb2); (try clear hk); (try clear hi); (try clear ho0)) | ((with_reducible refine gate_dst (N := 6) rfl ?_); refine box_ (N := 6) (cs := #[.int .i64 0, .int .i64 0, .slice none 0 0, .int .i64 0]) (t := 24) ?_; intro gb260 hg w106 hbox hb; have BK260 := Aside0.mk (hbox); have GW260 := gz_ w hg; have GE260 := gz_ w hg; have NB251_260 := ne_ hg BK251; have NB260_251 := en_ hg BK251; have NB252_260 := ne_ hg BK252; have NB260_252 := en_ hg BK252; have NB253_260 := ne_ hg BK253; have NB260_253 := en_ hg BK253; replace HO258 := Aside0.mk (Kd.R_below (ra_ HO258) hb); replace BK251 := bb_ BK251 hb; replace BK252 := bb_ BK252 hb; replace BK253 := bb_ BK253 hb; replace HB := hb_ w hb; clear hb hbox hg; have hnb107 := NB260_251.out; have hnc107 := NB251_260.out; have hnb108 := NB260_252.out; have hnc108 := NB252_260.out; have hnb109 := NB260_253.out; have hnc109 := NB253_260.out; obtain ⟨hcz110_0, hcz110_1, hcz110_2, hcz110_3, hfz110_0, hfz110_1, hfz110_2, hfz110_3⟩ := bc4_ (w := w106) BK260; obtain ⟨Ao111, co111, eo111⟩ := Kd.R_slice HO258.out; subst eo111; have hnb112 := NB252_253.out; have hnc112 := NB253_252.out; obtain ⟨hcz113_0, hcz113_1, hcz113_2, hfz113_0, hfz113_1, hfz113_2⟩ := bc3_ (w := w106) BK252; obtain ⟨hcz114_0, hcz114_1, hcz114_2, hcz114_3, hfz114_0, hfz114_1, hfz114_2, hfz114_3⟩ := bc4_ (w := w106) BK251) | ((with_reducible refine gate_store (t := 3) (p := 58) rfl ?_); refine store_event (t := 3) (p := 58) (v := ?vo_w115) (w1 := (((((w106.setCell ⟨gb260, 0, none⟩ (.int .i64 t254)).setCell ⟨gb260, 1, none⟩ (.int .i64 t255)).setCell ⟨gb260, 2, none⟩ (.slice Ao111 t256.length co111)).setCell ⟨gb260, 3, none⟩ (.int .i64 t259)).setCell ⟨gb260, 3, none⟩ (.int .i64 (wrap64 (a0_3 + a1_2))))) ?hg ?ho ?hn ?hr ?_; (case ho => rfl); (case hg => rfl); (case hn => rfl); (case hr => first | (go_simp; done) | (go_simp; rfl)); intro w115 hw; replace HO258 : Aside0 (Kd.R k34 34 w115 w.heap.size (fun _ => True) (.slice Ao111 t256.length co111) t256) := ⟨(by rw [hw]; exact (by exact rf_ (Kd.R_types HO258.out BK260.out (by decide)) (fun _ hk => trivial)))⟩; replace BK251 := bs_ hw (bk_ BK251); replace BK252 := bs_ hw (bk_ BK252); replace BK253 := bs_ hw (bk_ BK253); replace BK260 : Aside0 (w115.heap[gb260]? = some (.cells #[.int .i64 t254, .int .i64 t255, .slice Ao111 t256.length co111, .int .i64 (wrap64 (a0_3 + a1_2))] 24 (0, 0))) := bs_ hw (bq_ BK260); replace HB := bl_ hw (bw_ w); clear hw))
         replace HO258 := Aside0.mk (Kd.R_drew HO258.out)
         replace BK251 := Aside0.mk (blk_drew BK251.out)
         replace BK252 := Aside0.mk (blk_drew BK252.out)
         replace BK253 := Aside0.mk (blk_drew BK253.out)
         replace BK260 := Aside0.mk (blk_drew BK260.out)
         replace HB := Aside0.mk (below_drew1 HB.out)
         have p265 : 0 ≤ (a1_1 : Int) := of_decide_eq_true (by first | (with_reducible assumption) | assumption)
         have q265 : a1_1 < (l0_2.length : Int) := of_decide_eq_true (by first | (with_reducible assumption) | assumption)
         obtain ⟨ad265, e265, hx265_0, hx265_1, hx265_2, hx265_3, hx265_4⟩ := at_T34 HR0_2.out a1_1 p265 q265
         have hw265_4 := hx265_4
         have hw265_3 := hx265_3
         have hw265_2 := hx265_2
         have hw265_1 := hx265_1
         have hw265_0 := hx265_0
         cases e265
         replace hx265_0 := (HB.out.cell (World.block_lt_of_cell? w _ hx265_0)).trans hx265_0
         replace hx265_1 := (HB.out.cell (World.block_lt_of_cell? w _ hx265_1)).trans hx265_1
         replace hx265_2 := (HB.out.cell (World.block_lt_of_cell? w _ hx265_2)).trans hx265_2
         replace hx265_3 := (HB.out.cell (World.block_lt_of_cell? w _ hx265_3)).trans hx265_3
         replace hx265_4 := (HB.out.cell (World.block_lt_of_cell? w _ hx265_4)).trans hx265_4
         replace p265 := eq_true p265
         replace q265 := eq_true q265
         refine start_ (n := 16) (S := fun w' => w'.cell? ⟨gb251, 0, none⟩ = some (.int .i64 a0_0) ∧ w'.cell? ⟨gb251, 1, none⟩ = some (.int .i64 a0_1) ∧ w'.cell? ⟨gb251, 2, none⟩ = some (.slice (some ad265) l0_2.length c0_2) ∧ w'.cell? ⟨gb251, 3, none⟩ = some (.int .i64 a0_3) ∧ w'.cell? ⟨gb252, 0, none⟩ = some (.int .i64 a1_0) ∧ w'.cell? ⟨gb252, 1, none⟩ = some (.int .i64 a1_1) ∧ w'.cell? ⟨gb252, 2, none⟩ = some (.int .i64 a1_2) ∧ w'.cell? (ad265.add ((a1_1).toNat * 5)) = some (.int .i64 ((rd_T34 l0_2 a1_1).f0)) ∧ w'.cell? ⟨(ad265.add ((a1_1).toNat * 5)).block, (ad265.add ((a1_1).toNat * 5)).off + 1, none⟩ = some (.int .i64 ((rd_T34 l0_2 a1_1).f1)) ∧ w'.cell? ⟨(ad265.add ((a1_1).toNat * 5)).block, (ad265.add ((a1_1).toNat * 5)).off + 2, none⟩ = some (.int .i64 ((rd_T34 l0_2 a1_1).f2)) ∧ w'.cell? ⟨(ad265.add ((a1_1).toNat * 5)).block, (ad265.add ((a1_1).toNat * 5)).off + 3, none⟩ = some (.int .i64 ((rd_T34 l0_2 a1_1).f3)) ∧ w'.cell? ⟨(ad265.add ((a1_1).toNat * 5)).block, (ad265.add ((a1_1).toNat * 5)).off + 4, none⟩ = some (.int .i64 ((rd_T34 l0_2 a1_1).f4))) (ds := []) #[false, false, false, false, false, false, false, false, false, false, false, false, false, false, false, false] (by kernel_rfl) rfl rfl ⟨bc_ BK251 0, bc_ BK251 1, bc_ BK251 2, bc_ BK251 3, bc_ BK252 0, bc_ BK252 1, bc_ BK252 2, (bh_ HB hw265_0 :), (bh_ HB hw265_1 :), (bh_ HB hw265_2 :), (bh_ HB hw265_3 :), (bh_ HB hw265_4 :)⟩ (fun hHeld => ?_); refine with_tabW spec_l25Make.tab15 spec_l25Make.bits15 (fun HT_ HW_ => ?_)
         generalize w115.drew = w116 at HO258 BK251 BK252 BK253 BK260 HB hx265_0 hx265_1 hx265_2 hx265_3 hx265_4 hHeld ⊢
         refine pureA (N := some 60) 0 HT_ ?_
         refine pureA (N := some 62) 2 HT_ ?_
         refine pureA (N := some 67) 7 HT_ ?_
         refine takeA (N := some 61) 1 HT_ HW_ hHeld ?_
         refine takeA (N := some 63) 3 HT_ HW_ hHeld ?_
         refine pureA (N := some 64) 4 HT_ ?_
         refine takeA (N := some 65) 5 HT_ HW_ hHeld ?_
         refine takeA (N := some 66) 6 HT_ HW_ hHeld ?_
         refine takeA (N := some 68) 8 HT_ HW_ hHeld ?_
         refine join_ (σ := Nat) 2 #[true, true, true, true, true, true, true, true, true, true, true, true, true, true, false, false] (fun s_ => [(69, .tuple #[.agg #[.int .i64 t266, .int .i64 t267, .int .i64 t268, .int .i64 t269, .int .i64 t270], .bool true]), (7, .pointer (some ⟨s_, 0, none⟩)), (59, .tuple #[.agg #[.int .i64 t266, .int .i64 t267, .int .i64 t268, .int .i64 t269, .int .i64 t270], .bool true]), (70, .agg #[.int .i64 t266, .int .i64 t267, .int .i64 t268, .int .i64 t269, .int .i64 t270]), (71, .bool true)]) (fun s_ w' => (w'.cell? ⟨gb251, 0, none⟩ = some (.int .i64 a0_0) ∧ w'.cell? ⟨gb251, 1, none⟩ = some (.int .i64 a0_1) ∧ w'.cell? ⟨gb251, 2, none⟩ = some (.slice (some ad265) l0_2.length c0_2) ∧ w'.cell? ⟨gb251, 3, none⟩ = some (.int .i64 a0_3) ∧ w'.cell? ⟨gb252, 0, none⟩ = some (.int .i64 a1_0) ∧ w'.cell? ⟨gb252, 1, none⟩ = some (.int .i64 a1_1) ∧ w'.cell? ⟨gb252, 2, none⟩ = some (.int .i64 a1_2) ∧ w'.cell? (ad265.add ((a1_1).toNat * 5)) = some (.int .i64 ((rd_T34 l0_2 a1_1).f0)) ∧ w'.cell? ⟨(ad265.add ((a1_1).toNat * 5)).block, (ad265.add ((a1_1).toNat * 5)).off + 1, none⟩ = some (.int .i64 ((rd_T34 l0_2 a1_1).f1)) ∧ w'.cell? ⟨(ad265.add ((a1_1).toNat * 5)).block, (ad265.add ((a1_1).toNat * 5)).off + 2, none⟩ = some (.int .i64 ((rd_T34 l0_2 a1_1).f2)) ∧ w'.cell? ⟨(ad265.add ((a1_1).toNat * 5)).block, (ad265.add ((a1_1).toNat * 5)).off + 3, none⟩ = some (.int .i64 ((rd_T34 l0_2 a1_1).f3)) ∧ w'.cell? ⟨(ad265.add ((a1_1).toNat * 5)).block, (ad265.add ((a1_1).toNat * 5)).off + 4, none⟩ = some (.int .i64 ((rd_T34 l0_2 a1_1).f4))) ∧ (Kd.R k34 34 w' w.heap.size (fun k_ => k_ ≠ s_) (.slice Ao111 t256.length co111) t256) ∧ (w'.heap[gb251]? = some (.cells #[.int .i64 a0_0, .int .i64 a0_1, .slice (some ad265) l0_2.length c0_2, .int .i64 a0_3] 24 (0, 0))) ∧ (w'.heap[gb252]? = some (.cells #[.int .i64 a1_0, .int .i64 a1_1, .int .i64 a1_2] 30 (0, 0))) ∧ (w'.heap[gb253]? = some (.cells #[.int .i64 0, .int .i64 0, .slice none 0 0, .int .i64 0] 24 (0, 0))) ∧ (w'.heap[gb260]? = some (.cells #[.int .i64 t254, .int .i64 t255, .slice Ao111 t256.length co111, .int .i64 (wrap64 (a0_3 + a1_2))] 24 (0, 0))) ∧ (w'.heap[s_]? = some (.cells #[.int .i64 0, .int .i64 0, .int .i64 0, .int .i64 0, .int .i64 0] 34 (0, 0))) ∧ (w.heap.size ≤ s_) ∧ (w.heap.size ≤ s_) ∧ (gb251 ≠ s_) ∧ (s_ ≠ gb251) ∧ (gb252 ≠ s_) ∧ (s_ ≠ gb252) ∧ (gb253 ≠ s_) ∧ (s_ ≠ gb253) ∧ (gb260 ≠ s_) ∧ (s_ ≠ gb260) ∧ (Below w.heap.size w w')) ?_ ?_
         rotate_left
         ·intro hCont
          refine twoA (Ni := some 69) (Nj := some 7) 9 13 HT_ (fun K hK => ?_) (fun K hK => ?_)
          ·skip
           refine goesA Try.func115 #[.agg #[.int .i64 ((rd_T34 l0_2 a1_1).f0), .int .i64 ((rd_T34 l0_2 a1_1).f1), .int .i64 ((rd_T34 l0_2 a1_1).f2), .int .i64 ((rd_T34 l0_2 a1_1).f3), .int .i64 ((rd_T34 l0_2 a1_1).f4)], .agg #[.int .i64 a1_0, .int .i64 a1_1, .int .i64 a1_2], .int .i64 a0_0] ?_
           with_reducible refine (spec_l25Change.calls ((rd_T34 l0_2 a1_1).f0) ((rd_T34 l0_2 a1_1).f1) ((rd_T34 l0_2 a1_1).f2) ((rd_T34 l0_2 a1_1).f3) ((rd_T34 l0_2 a1_1).f4) a1_0 a1_1 a1_2 a0_0 t266 t267 t268 t269 t270 true _ A94.out).mono ?_
           rintro e w117 ⟨rfl, hb⟩
           refine ⟨_, rfl, ?_⟩
           replace HO258 := Aside0.mk (Kd.R_below (ra_ HO258) hb)
           replace BK251 := bb_ BK251 hb
           replace BK252 := bb_ BK252 hb
           replace BK253 := bb_ BK253 hb
           replace BK260 := bb_ BK260 hb
           replace HB := hb_ w hb
           clear hb
           refine hK.out _ _ ⟨bc_ BK251 0, bc_ BK251 1, bc_ BK251 2, bc_ BK251 3, bc_ BK252 0, bc_ BK252 1, bc_ BK252 2, (bh_ HB hw265_0 :), (bh_ HB hw265_1 :), (bh_ HB hw265_2 :), (bh_ HB hw265_3 :), (bh_ HB hw265_4 :)⟩ (fun hHeld => ?_)
           clear hK K
           refine normA (N := some 69) ?_
           refine pureA (N := some 59) 10 HT_ ?_
           refine pureA (N := some 70) 11 HT_ ?_
           refine pureA (N := some 71) 12 HT_ ?_
           refine oneA (N := some 7) 13 HT_ (fun K hK => ?_)
           refine box_step ?hg (N := 7) ?hd (cs := #[.int .i64 0, .int .i64 0, .int .i64 0, .int .i64 0, .int .i64 0]) (t := 34) ?hr ?_; (case hd => rfl); (case hg => rfl); (case hr => first | (go_simp; done) | (go_simp; rfl))
           intro gb272 hg w118 hbox hb
           have BK272 := Aside0.mk (hbox)
           have GW272 := gz_ w hg
           have GE272 := gz_ w hg
           have NB251_272 := ne_ hg BK251
           have NB272_251 := en_ hg BK251
           have NB252_272 := ne_ hg BK252
           have NB272_252 := en_ hg BK252
           have NB253_272 := ne_ hg BK253
           have NB272_253 := en_ hg BK253
           have NB260_272 := ne_ hg BK260
           have NB272_260 := en_ hg BK260
           replace HO258 := rb_ HO258 hg hb
           replace BK251 := bb_ BK251 hb
           replace BK252 := bb_ BK252 hb
           replace BK253 := bb_ BK253 hb
           replace BK260 := bb_ BK260 hb
           replace HB := hb_ w hb
           clear hb hbox hg
           refine hK.out _ _ ⟨bc_ BK251 0, bc_ BK251 1, bc_ BK251 2, bc_ BK251 3, bc_ BK252 0, bc_ BK252 1, bc_ BK252 2, (bh_ HB hw265_0 :), (bh_ HB hw265_1 :), (bh_ HB hw265_2 :), (bh_ HB hw265_3 :), (bh_ HB hw265_4 :)⟩ (fun hHeld => ?_)
           clear hK K
           refine normA (N := some 7) ?_
           exact norm_ (by simp only [putAll, Act.put, List.setIfInBounds_toArray, List.set_cons_zero, List.set_cons_succ]) (hCont (gb272) _ ⟨hHeld, (by exact rf_ HO258.out (fun _ hk => hk.2)), (bk_ BK251), (bk_ BK252), (bk_ BK253), (bk_ BK260), (bk_ BK272), GW272.out, GE272.out, NB251_272.out, NB272_251.out, NB252_272.out, NB272_252.out, NB253_272.out, NB272_253.out, NB260_272.out, NB272_260.out, (bw_ w)⟩)
          ·skip
           refine box_step ?hg (N := 7) ?hd (cs := #[.int .i64 0, .int .i64 0, .int .i64 0, .int .i64 0, .int .i64 0]) (t := 34) ?hr ?_; (case hd => rfl); (case hg => rfl); (case hr => first | (go_simp; done) | (go_simp; rfl))
           intro gb272 hg w117 hbox hb
           have BK272 := Aside0.mk (hbox)
           have GW272 := gz_ w hg
           have GE272 := gz_ w hg
           have NB251_272 := ne_ hg BK251
           have NB272_251 := en_ hg BK251
           have NB252_272 := ne_ hg BK252
           have NB272_252 := en_ hg BK252
           have NB253_272 := ne_ hg BK253
           have NB272_253 := en_ hg BK253
           have NB260_272 := ne_ hg BK260
           have NB272_260 := en_ hg BK260
           replace HO258 := rb_ HO258 hg hb
           replace BK251 := bb_ BK251 hb
           replace BK252 := bb_ BK252 hb
           replace BK253 := bb_ BK253 hb
           replace BK260 := bb_ BK260 hb
           replace HB := hb_ w hb
           clear hb hbox hg
           refine hK.out _ _ ⟨bc_ BK251 0, bc_ BK251 1, bc_ BK251 2, bc_ BK251 3, bc_ BK252 0, bc_ BK252 1, bc_ BK252 2, (bh_ HB hw265_0 :), (bh_ HB hw265_1 :), (bh_ HB hw265_2 :), (bh_ HB hw265_3 :), (bh_ HB hw265_4 :)⟩ (fun hHeld => ?_)
           clear hK K
           refine normA (N := some 7) ?_
           refine oneA (N := some 69) 9 HT_ (fun K hK => ?_)
           refine goesA Try.func115 #[.agg #[.int .i64 ((rd_T34 l0_2 a1_1).f0), .int .i64 ((rd_T34 l0_2 a1_1).f1), .int .i64 ((rd_T34 l0_2 a1_1).f2), .int .i64 ((rd_T34 l0_2 a1_1).f3), .int .i64 ((rd_T34 l0_2 a1_1).f4)], .agg #[.int .i64 a1_0, .int .i64 a1_1, .int .i64 a1_2], .int .i64 a0_0] ?_
           with_reducible refine (spec_l25Change.calls ((rd_T34 l0_2 a1_1).f0) ((rd_T34 l0_2 a1_1).f1) ((rd_T34 l0_2 a1_1).f2) ((rd_T34 l0_2 a1_1).f3) ((rd_T34 l0_2 a1_1).f4) a1_0 a1_1 a1_2 a0_0 t266 t267 t268 t269 t270 true _ A94.out).mono ?_
           rintro e w118 ⟨rfl, hb⟩
           refine ⟨_, rfl, ?_⟩
           replace HO258 := Aside0.mk (Kd.R_below (ra_ HO258) hb)
           replace BK251 := bb_ BK251 hb
           replace BK252 := bb_ BK252 hb
           replace BK253 := bb_ BK253 hb
           replace BK260 := bb_ BK260 hb
           replace BK272 := bb_ BK272 hb
           replace HB := hb_ w hb
           clear hb
           refine hK.out _ _ ⟨bc_ BK251 0, bc_ BK251 1, bc_ BK251 2, bc_ BK251 3, bc_ BK252 0, bc_ BK252 1, bc_ BK252 2, (bh_ HB hw265_0 :), (bh_ HB hw265_1 :), (bh_ HB hw265_2 :), (bh_ HB hw265_3 :), (bh_ HB hw265_4 :)⟩ (fun hHeld => ?_)
           clear hK K
           refine normA (N := some 69) ?_
           refine pureA (N := some 59) 10 HT_ ?_
           refine pureA (N := some 70) 11 HT_ ?_
           refine pureA (N := some 71) 12 HT_ ?_
           exact norm_ (by simp only [putAll, Act.put, List.setIfInBounds_toArray, List.set_cons_zero, List.set_cons_succ]) (hCont (gb272) _ ⟨hHeld, (by exact rf_ HO258.out (fun _ hk => hk.2)), (bk_ BK251), (bk_ BK252), (bk_ BK253), (bk_ BK260), (bk_ BK272), GW272.out, GE272.out, NB251_272.out, NB272_251.out, NB252_272.out, NB272_252.out, NB253_272.out, NB272_253.out, NB260_272.out, NB272_260.out, (bw_ w)⟩)
         rintro gb272 w119 ⟨hS_, h0_, h1_, h2_, h3_, h4_, h5_, h6_, h7_, h8_, h9_, h10_, h11_, h12_, h13_, h14_, h15_, h16_⟩
         have n0_ : Aside0 (Kd.R k34 34 w119 w.heap.size (fun k_ => k_ ≠ gb272) (.slice Ao111 t256.length co111) t256) := ⟨h0_⟩
         have n1_ : Aside0 (w119.heap[gb251]? = some (.cells #[.int .i64 a0_0, .int .i64 a0_1, .slice (some ad265) l0_2.length c0_2, .int .i64 a0_3] 24 (0, 0))) := ⟨h1_⟩
         have n2_ : Aside0 (w119.heap[gb252]? = some (.cells #[.int .i64 a1_0, .int .i64 a1_1, .int .i64 a1_2] 30 (0, 0))) := ⟨h2_⟩
         have n3_ : Aside0 (w119.heap[gb253]? = some (.cells #[.int .i64 0, .int .i64 0, .slice none 0 0, .int .i64 0] 24 (0, 0))) := ⟨h3_⟩
         have n4_ : Aside0 (w119.heap[gb260]? = some (.cells #[.int .i64 t254, .int .i64 t255, .slice Ao111 t256.length co111, .int .i64 (wrap64 (a0_3 + a1_2))] 24 (0, 0))) := ⟨h4_⟩
         have n5_ : Aside0 (w119.heap[gb272]? = some (.cells #[.int .i64 0, .int .i64 0, .int .i64 0, .int .i64 0, .int .i64 0] 34 (0, 0))) := ⟨h5_⟩
         have n6_ : Aside0 (w.heap.size ≤ gb272) := ⟨h6_⟩
         have n7_ : Aside0 (w.heap.size ≤ gb272) := ⟨h7_⟩
         have n8_ : Aside0 (gb251 ≠ gb272) := ⟨h8_⟩
         have n9_ : Aside0 (gb272 ≠ gb251) := ⟨h9_⟩
         have n10_ : Aside0 (gb252 ≠ gb272) := ⟨h10_⟩
         have n11_ : Aside0 (gb272 ≠ gb252) := ⟨h11_⟩
         have n12_ : Aside0 (gb253 ≠ gb272) := ⟨h12_⟩
         have n13_ : Aside0 (gb272 ≠ gb253) := ⟨h13_⟩
         have n14_ : Aside0 (gb260 ≠ gb272) := ⟨h14_⟩
         have n15_ : Aside0 (gb272 ≠ gb260) := ⟨h15_⟩
         have n16_ : Aside0 (Below w.heap.size w w119) := ⟨h16_⟩
         clear HO258
         clear BK251
         clear BK252
         clear BK253
         clear BK260
         clear HB
         clear h0_ h1_ h2_ h3_ h4_ h5_ h6_ h7_ h8_ h9_ h10_ h11_ h12_ h13_ h14_ h15_ h16_
         have HO258 := n0_
         have BK251 := n1_
         have BK252 := n2_
         have BK253 := n3_
         have BK260 := n4_
         have BK272 := n5_
         have GW272 := n6_
         have GE272 := n7_
         have NB251_272 := n8_
         have NB272_251 := n9_
         have NB252_272 := n10_
         have NB272_252 := n11_
         have NB253_272 := n12_
         have NB272_253 := n13_
         have NB260_272 := n14_
         have NB272_260 := n15_
         have HB := n16_
         clear n0_ n1_ n2_ n3_ n4_ n5_ n6_ n7_ n8_ n9_ n10_ n11_ n12_ n13_ n14_ n15_ n16_
         have hHeld : w119.cell? ⟨gb251, 0, none⟩ = some (.int .i64 a0_0) ∧ w119.cell? ⟨gb251, 1, none⟩ = some (.int .i64 a0_1) ∧ w119.cell? ⟨gb251, 2, none⟩ = some (.slice (some ad265) l0_2.length c0_2) ∧ w119.cell? ⟨gb251, 3, none⟩ = some (.int .i64 a0_3) ∧ w119.cell? ⟨gb252, 0, none⟩ = some (.int .i64 a1_0) ∧ w119.cell? ⟨gb252, 1, none⟩ = some (.int .i64 a1_1) ∧ w119.cell? ⟨gb252, 2, none⟩ = some (.int .i64 a1_2) ∧ w119.cell? (ad265.add ((a1_1).toNat * 5)) = some (.int .i64 ((rd_T34 l0_2 a1_1).f0)) ∧ w119.cell? ⟨(ad265.add ((a1_1).toNat * 5)).block, (ad265.add ((a1_1).toNat * 5)).off + 1, none⟩ = some (.int .i64 ((rd_T34 l0_2 a1_1).f1)) ∧ w119.cell? ⟨(ad265.add ((a1_1).toNat * 5)).block, (ad265.add ((a1_1).toNat * 5)).off + 2, none⟩ = some (.int .i64 ((rd_T34 l0_2 a1_1).f2)) ∧ w119.cell? ⟨(ad265.add ((a1_1).toNat * 5)).block, (ad265.add ((a1_1).toNat * 5)).off + 3, none⟩ = some (.int .i64 ((rd_T34 l0_2 a1_1).f3)) ∧ w119.cell? ⟨(ad265.add ((a1_1).toNat * 5)).block, (ad265.add ((a1_1).toNat * 5)).off + 4, none⟩ = some (.int .i64 ((rd_T34 l0_2 a1_1).f4)) := hS_
         refine norm_ (a' := ?_) ?_ ?_
         rotate_left
         ·simp only [putAll, Act.put, List.setIfInBounds_toArray, List.set_cons_zero, List.set_cons_succ]
          rfl
         refine oneA (N := none) 14 HT_ (fun K hK => ?_)
         have hs120 : w119.cell? ⟨gb272, 0, none⟩ = some (.int .i64 0) := bc_ BK272 0
         have hfs120 := blk_frozen BK272.out 0
         have hns120_0 := NB251_272.out
         have hns120_1 := NB252_272.out
         have hns120_2 := NB253_272.out
         have hns120_3 := NB260_272.out
         have hms120_0 := NB272_251.out
         have hms120_1 := NB272_252.out
         have hms120_2 := NB272_253.out
         have hms120_3 := NB272_260.out
         have hs121 : w119.cell? ⟨gb272, 1, none⟩ = some (.int .i64 0) := bc_ BK272 1
         have hfs121 := blk_frozen BK272.out 1
         have hns121_0 := NB251_272.out
         have hns121_1 := NB252_272.out
         have hns121_2 := NB253_272.out
         have hns121_3 := NB260_272.out
         have hms121_0 := NB272_251.out
         have hms121_1 := NB272_252.out
         have hms121_2 := NB272_253.out
         have hms121_3 := NB272_260.out
         have hs122 : w119.cell? ⟨gb272, 2, none⟩ = some (.int .i64 0) := bc_ BK272 2
         have hfs122 := blk_frozen BK272.out 2
         have hns122_0 := NB251_272.out
         have hns122_1 := NB252_272.out
         have hns122_2 := NB253_272.out
         have hns122_3 := NB260_272.out
         have hms122_0 := NB272_251.out
         have hms122_1 := NB272_252.out
         have hms122_2 := NB272_253.out
         have hms122_3 := NB272_260.out
         have hs123 : w119.cell? ⟨gb272, 3, none⟩ = some (.int .i64 0) := bc_ BK272 3
         have hfs123 := blk_frozen BK272.out 3
         have hns123_0 := NB251_272.out
         have hns123_1 := NB252_272.out
         have hns123_2 := NB253_272.out
         have hns123_3 := NB260_272.out
         have hms123_0 := NB272_251.out
         have hms123_1 := NB272_252.out
         have hms123_2 := NB272_253.out
         have hms123_3 := NB272_260.out
         have hs124 : w119.cell? ⟨gb272, 4, none⟩ = some (.int .i64 0) := bc_ BK272 4
         have hfs124 := blk_frozen BK272.out 4
         have hns124_0 := NB251_272.out
         have hns124_1 := NB252_272.out
         have hns124_2 := NB253_272.out
         have hns124_3 := NB260_272.out
         have hms124_0 := NB272_251.out
         have hms124_1 := NB272_252.out
         have hms124_2 := NB272_253.out
         have hms124_3 := NB272_260.out
         refine skip_ (w1 := ?_) (by rfl) rfl ?_ ?_
         rotate_left
         ·go_simp
          rfl
         refine hK.out _ _ ⟨((cn_ NB251_272).trans (((cn_ NB251_272).trans (((cn_ NB251_272).trans (((cn_ NB251_272).trans (((cn_ NB251_272).trans (hHeld.1)))))))))), ((cn_ NB251_272).trans (((cn_ NB251_272).trans (((cn_ NB251_272).trans (((cn_ NB251_272).trans (((cn_ NB251_272).trans (hHeld.2.1)))))))))), ((cn_ NB251_272).trans (((cn_ NB251_272).trans (((cn_ NB251_272).trans (((cn_ NB251_272).trans (((cn_ NB251_272).trans (hHeld.2.2.1)))))))))), ((cn_ NB251_272).trans (((cn_ NB251_272).trans (((cn_ NB251_272).trans (((cn_ NB251_272).trans (((cn_ NB251_272).trans (hHeld.2.2.2.1)))))))))), ((cn_ NB252_272).trans (((cn_ NB252_272).trans (((cn_ NB252_272).trans (((cn_ NB252_272).trans (((cn_ NB252_272).trans (hHeld.2.2.2.2.1)))))))))), ((cn_ NB252_272).trans (((cn_ NB252_272).trans (((cn_ NB252_272).trans (((cn_ NB252_272).trans (((cn_ NB252_272).trans (hHeld.2.2.2.2.2.1)))))))))), ((cn_ NB252_272).trans (((cn_ NB252_272).trans (((cn_ NB252_272).trans (((cn_ NB252_272).trans (((cn_ NB252_272).trans (hHeld.2.2.2.2.2.2.1)))))))))), ((cf_ hw265_0 GW272).trans (((cf_ hw265_0 GW272).trans (((cf_ hw265_0 GW272).trans (((cf_ hw265_0 GW272).trans (((cf_ hw265_0 GW272).trans (hHeld.2.2.2.2.2.2.2.1)))))))))), ((cf_ hw265_1 GW272).trans (((cf_ hw265_1 GW272).trans (((cf_ hw265_1 GW272).trans (((cf_ hw265_1 GW272).trans (((cf_ hw265_1 GW272).trans (hHeld.2.2.2.2.2.2.2.2.1)))))))))), ((cf_ hw265_2 GW272).trans (((cf_ hw265_2 GW272).trans (((cf_ hw265_2 GW272).trans (((cf_ hw265_2 GW272).trans (((cf_ hw265_2 GW272).trans (hHeld.2.2.2.2.2.2.2.2.2.1)))))))))), ((cf_ hw265_3 GW272).trans (((cf_ hw265_3 GW272).trans (((cf_ hw265_3 GW272).trans (((cf_ hw265_3 GW272).trans (((cf_ hw265_3 GW272).trans (hHeld.2.2.2.2.2.2.2.2.2.2.1)))))))))), ((cf_ hw265_4 GW272).trans (((cf_ hw265_4 GW272).trans (((cf_ hw265_4 GW272).trans (((cf_ hw265_4 GW272).trans (((cf_ hw265_4 GW272).trans (hHeld.2.2.2.2.2.2.2.2.2.2.2))))))))))⟩ (fun hHeld => ?_)
         clear hK K
         refine pureA (N := some 8) 15 HT_ ?_
         refine done_ (done_of HT_.out (by kernel_rfl)) ?_
         have n0_ : Aside0 (Kd.R k34 34 (((((w119.setCell ⟨gb272, 0, none⟩ (.int .i64 t266)).setCell ⟨gb272, 1, none⟩ (.int .i64 t267)).setCell ⟨gb272, 2, none⟩ (.int .i64 t268)).setCell ⟨gb272, 3, none⟩ (.int .i64 t269)).setCell ⟨gb272, 4, none⟩ (.int .i64 t270)) w.heap.size (fun k_ => k_ ≠ gb272) (.slice Ao111 t256.length co111) t256) := ⟨by exact rf_ (Kd.R_mono HO258.out (fun k_ hk => (⟨hk, hk⟩ : _ ∧ k_ ≠ gb272))) (fun _ hk => hk.1)⟩
         have n1_ : Aside0 ((((((w119.setCell ⟨gb272, 0, none⟩ (.int .i64 t266)).setCell ⟨gb272, 1, none⟩ (.int .i64 t267)).setCell ⟨gb272, 2, none⟩ (.int .i64 t268)).setCell ⟨gb272, 3, none⟩ (.int .i64 t269)).setCell ⟨gb272, 4, none⟩ (.int .i64 t270)).heap[gb251]? = some (.cells #[.int .i64 a0_0, .int .i64 a0_1, .slice (some ad265) l0_2.length c0_2, .int .i64 a0_3] 24 (0, 0))) := ⟨bk_ BK251⟩
         have n2_ : Aside0 ((((((w119.setCell ⟨gb272, 0, none⟩ (.int .i64 t266)).setCell ⟨gb272, 1, none⟩ (.int .i64 t267)).setCell ⟨gb272, 2, none⟩ (.int .i64 t268)).setCell ⟨gb272, 3, none⟩ (.int .i64 t269)).setCell ⟨gb272, 4, none⟩ (.int .i64 t270)).heap[gb252]? = some (.cells #[.int .i64 a1_0, .int .i64 a1_1, .int .i64 a1_2] 30 (0, 0))) := ⟨bk_ BK252⟩
         have n3_ : Aside0 ((((((w119.setCell ⟨gb272, 0, none⟩ (.int .i64 t266)).setCell ⟨gb272, 1, none⟩ (.int .i64 t267)).setCell ⟨gb272, 2, none⟩ (.int .i64 t268)).setCell ⟨gb272, 3, none⟩ (.int .i64 t269)).setCell ⟨gb272, 4, none⟩ (.int .i64 t270)).heap[gb253]? = some (.cells #[.int .i64 0, .int .i64 0, .slice none 0 0, .int .i64 0] 24 (0, 0))) := ⟨bk_ BK253⟩
         have n4_ : Aside0 ((((((w119.setCell ⟨gb272, 0, none⟩ (.int .i64 t266)).setCell ⟨gb272, 1, none⟩ (.int .i64 t267)).setCell ⟨gb272, 2, none⟩ (.int .i64 t268)).setCell ⟨gb272, 3, none⟩ (.int .i64 t269)).setCell ⟨gb272, 4, none⟩ (.int .i64 t270)).heap[gb260]? = some (.cells #[.int .i64 t254, .int .i64 t255, .slice Ao111 t256.length co111, .int .i64 (wrap64 (a0_3 + a1_2))] 24 (0, 0))) := ⟨bk_ BK260⟩
         have n5_ : Aside0 ((((((w119.setCell ⟨gb272, 0, none⟩ (.int .i64 t266)).setCell ⟨gb272, 1, none⟩ (.int .i64 t267)).setCell ⟨gb272, 2, none⟩ (.int .i64 t268)).setCell ⟨gb272, 3, none⟩ (.int .i64 t269)).setCell ⟨gb272, 4, none⟩ (.int .i64 t270)).heap[gb272]? = some (.cells #[.int .i64 t266, .int .i64 t267, .int .i64 t268, .int .i64 t269, .int .i64 t270] 34 (0, 0))) := ⟨bq_ BK272⟩
         have n6_ : Aside0 (Below w.heap.size w (((((w119.setCell ⟨gb272, 0, none⟩ (.int .i64 t266)).setCell ⟨gb272, 1, none⟩ (.int .i64 t267)).setCell ⟨gb272, 2, none⟩ (.int .i64 t268)).setCell ⟨gb272, 3, none⟩ (.int .i64 t269)).setCell ⟨gb272, 4, none⟩ (.int .i64 t270))) := ⟨(bw_ w)⟩
         (try clear HO258)
         (try clear BK251)
         (try clear BK252)
         (try clear BK253)
         (try clear BK260)
         (try clear BK272)
         (try clear HB)
         generalize (((((w119.setCell ⟨gb272, 0, none⟩ (.int .i64 t266)).setCell ⟨gb272, 1, none⟩ (.int .i64 t267)).setCell ⟨gb272, 2, none⟩ (.int .i64 t268)).setCell ⟨gb272, 3, none⟩ (.int .i64 t269)).setCell ⟨gb272, 4, none⟩ (.int .i64 t270)) = w125 at n0_ n1_ n2_ n3_ n4_ n5_ n6_ ⊢
         have HO258 := n0_
         have BK251 := n1_
         have BK252 := n2_
         have BK253 := n3_
         have BK260 := n4_
         have BK272 := n5_
         have HB := n6_
         clear n0_ n1_ n2_ n3_ n4_ n5_ n6_
         have hnb126 := NB260_272.out
         have hnc126 := NB272_260.out
         obtain ⟨hcz127_0, hcz127_1, hcz127_2, hcz127_3, hfz127_0, hfz127_1, hfz127_2, hfz127_3⟩ := bc4_ (w := w125) BK260
         have hnb128 := NB252_272.out
         have hnc128 := NB272_252.out
         obtain ⟨hcz129_0, hcz129_1, hcz129_2, hfz129_0, hfz129_1, hfz129_2⟩ := bc3_ (w := w125) BK252
         have hnb130 := NB272_251.out
         have hnc130 := NB251_272.out
         have hnb131 := NB272_253.out
         have hnc131 := NB253_272.out
         obtain ⟨hcz132_0, hcz132_1, hcz132_2, hcz132_3, hcz132_4, hfz132_0, hfz132_1, hfz132_2, hfz132_3, hfz132_4⟩ := bc5_ (w := w125) BK272
         have p96 : 0 ≤ (a1_1 : Int) := of_decide_eq_true (by first | (with_reducible assumption) | assumption)
         have q96 : (a1_1 : Int) < ((t256.length : Int) : Int) := of_decide_eq_true (by first | (with_reducible assumption) | assumption)
         obtain ⟨go96, co96, eo96, gb96, gl96, cl96, HG96⟩ := Kd.R_form HO258.out (by omega)
         (first | cases eo96 | (injection eo96 with ea_ en_ ec_; (first | subst ea_ | (injection ea_ with ea_; subst ea_)); subst ec_; clear en_))
         have GB96 := Aside0.mk gb96
         have GG96 := Aside0.mk HG96
         clear gb96 gl96 HG96
         obtain ⟨ce96, hcl96, hM96, hcc96, hfr96⟩ := Kd.R_elem HO258.out z34 (a1_1 : Int) p96 q96
         obtain rfl := k34_openM hM96
         have hx96_0 : w125.cell? ⟨go96, (a1_1 : Int).toNat * 5, none⟩ = some (.int .i64 ((rd_T34 t256 a1_1).f0)) := hcc96 0 _ rfl
         have hx96_1 : w125.cell? ⟨go96, (a1_1 : Int).toNat * 5 + 1, none⟩ = some (.int .i64 ((rd_T34 t256 a1_1).f1)) := hcc96 1 _ rfl
         have hx96_2 : w125.cell? ⟨go96, (a1_1 : Int).toNat * 5 + 2, none⟩ = some (.int .i64 ((rd_T34 t256 a1_1).f2)) := hcc96 2 _ rfl
         have hx96_3 : w125.cell? ⟨go96, (a1_1 : Int).toNat * 5 + 3, none⟩ = some (.int .i64 ((rd_T34 t256 a1_1).f3)) := hcc96 3 _ rfl
         have hx96_4 : w125.cell? ⟨go96, (a1_1 : Int).toNat * 5 + 4, none⟩ = some (.int .i64 ((rd_T34 t256 a1_1).f4)) := hcc96 4 _ rfl
         have hf96_0 : w125.frozen? ⟨go96, (a1_1 : Int).toNat * 5, none⟩ = false := hfr96 0
         have hf96_1 : w125.frozen? ⟨go96, (a1_1 : Int).toNat * 5 + 1, none⟩ = false := hfr96 1
         have hf96_2 : w125.frozen? ⟨go96, (a1_1 : Int).toNat * 5 + 2, none⟩ = false := hfr96 2
         have hf96_3 : w125.frozen? ⟨go96, (a1_1 : Int).toNat * 5 + 3, none⟩ = false := hfr96 3
         have hf96_4 : w125.frozen? ⟨go96, (a1_1 : Int).toNat * 5 + 4, none⟩ = false := hfr96 4
         clear hcl96 hcc96 hfr96 hM96
         replace p96 := eq_true p96
         replace q96 := eq_true q96
         have HX133 := Aside0.mk (show Kd.R k34 34 w125 w.heap.size (fun k_ => k_ ≠ gb272) (.slice (some ⟨go96, 0, none⟩) t256.length co111) t256 from (ra_ HO258))
         obtain ⟨ce133, hcl133, hM133, hcc133, hfr133⟩ := Kd.R_elem HX133.out z34 (a1_1 : Int) (of_decide_eq_true (by first | (with_reducible assumption) | assumption)) (by have h_ : (a1_1 : Int) < ((t256.length : Int) : Int) := of_decide_eq_true (by first | (with_reducible assumption) | assumption); first | exact h_ | (have e_ := (Kd.R_reads' HO258.out).1; omega) | simpa using h_)
         obtain rfl := k34_openM hM133
         have HP133 := Kd.R_seg HX133.out (a1_1 : Int) (of_decide_eq_true (by first | (with_reducible assumption) | assumption)) (by have h_ : (a1_1 : Int) < ((t256.length : Int) : Int) := of_decide_eq_true (by first | (with_reducible assumption) | assumption); first | exact h_ | (have e_ := (Kd.R_reads' HO258.out).1; omega) | simpa using h_) (seg := [.int .i64 t266, .int .i64 t267, .int .i64 t268, .int .i64 t269, .int .i64 t270]) (j := 0) hcl133 hcc133 (show 5 ≤ 5 from by decide) (x' := (⟨t266, t267, t268, t269, t270⟩ : S34)) (k34_mkM _ _ _ (⟨t266, t267, t268, t269, t270⟩ : S34) ) (fun _ hk => hk)
         have hx133_0 := hcc133 0 _ rfl
         (try simp only [show (k34).sz = 5 from rfl, Nat.mul_one, Nat.add_zero] at hx133_0)
         have hf133_0 := hfr133 0
         (try simp only [show (k34).sz = 5 from rfl, Nat.mul_one, Nat.add_zero] at hf133_0)
         have hx133_1 := hcc133 1 _ rfl
         (try simp only [show (k34).sz = 5 from rfl, Nat.mul_one, Nat.add_zero] at hx133_1)
         have hf133_1 := hfr133 1
         (try simp only [show (k34).sz = 5 from rfl, Nat.mul_one, Nat.add_zero] at hf133_1)
         have hx133_2 := hcc133 2 _ rfl
         (try simp only [show (k34).sz = 5 from rfl, Nat.mul_one, Nat.add_zero] at hx133_2)
         have hf133_2 := hfr133 2
         (try simp only [show (k34).sz = 5 from rfl, Nat.mul_one, Nat.add_zero] at hf133_2)
         have hx133_3 := hcc133 3 _ rfl
         (try simp only [show (k34).sz = 5 from rfl, Nat.mul_one, Nat.add_zero] at hx133_3)
         have hf133_3 := hfr133 3
         (try simp only [show (k34).sz = 5 from rfl, Nat.mul_one, Nat.add_zero] at hf133_3)
         have hx133_4 := hcc133 4 _ rfl
         (try simp only [show (k34).sz = 5 from rfl, Nat.mul_one, Nat.add_zero] at hx133_4)
         have hf133_4 := hfr133 4
         (try simp only [show (k34).sz = 5 from rfl, Nat.mul_one, Nat.add_zero] at hf133_4)
         clear hcl133 hcc133 hfr133 hM133
         try go_wp2_with (first | ((with_reducible refine gate_store (t := 34) (p := 77) rfl ?_); refine store_event (t := 34) (p := 77) (v := ?vo_w134) (w1 := (((((w125.setCell ⟨go96, (a1_1 : Int).toNat * 5, none⟩ (.int .i64 t266)).setCell ⟨go96, (a1_1 : Int).toNat * 5 + 1, none⟩ (.int .i64 t267)).setCell ⟨go96, (a1_1 : Int).toNat * 5 + 2, none⟩ (.int .i64 t268)).setCell ⟨go96, (a1_1 : Int).toNat * 5 + 3, none⟩ (.int .i64 t269)).setCell ⟨go96, (a1_1 : Int).toNat * 5 + 4, none⟩ (.int .i64 t270))) ?hg ?ho ?hn ?hr ?_; (case ho => rfl); (case hg => rfl); (case hn => rfl); (case hr => first | (go_simp; done) | (go_simp; rfl)); intro w134 hw; have hg : w125.grownBy w134 (some go96) := (by rw [hw]; exact HP133.2); have hp_ : Kd.R k34 34 w134 w.heap.size (fun k_ => k_ ≠ gb272) (.slice (some ⟨go96, 0, none⟩) t256.length co111) y273 := (by rw [hw, Ny273.out]; exact HP133.1); clear HP133; replace BK251 := Aside0.mk (blk_grown (g := gb251) (o := .cells #[.int .i64 a0_0, .int .i64 a0_1, .slice (some ad265) l0_2.length c0_2, .int .i64 a0_3] 24 (0, 0)) (bk_ BK251) hg (Kd.R_ne HO258.out BK251.out (by decide))); replace BK252 := Aside0.mk (blk_grown (g := gb252) (o := .cells #[.int .i64 a1_0, .int .i64 a1_1, .int .i64 a1_2] 30 (0, 0)) (bk_ BK252) hg (Kd.R_ne HO258.out BK252.out (by decide))); replace BK253 := Aside0.mk (blk_grown (g := gb253) (o := .cells #[.int .i64 0, .int .i64 0, .slice none 0 0, .int .i64 0] 24 (0, 0)) (bk_ BK253) hg (Kd.R_ne HO258.out BK253.out (by decide))); replace BK260 := Aside0.mk (blk_grown (g := gb260) (o := .cells #[.int .i64 t254, .int .i64 t255, .slice (some ⟨go96, 0, none⟩) t256.length co111, .int .i64 (wrap64 (a0_3 + a1_2))] 24 (0, 0)) (bk_ BK260) hg (Kd.R_ne HO258.out BK260.out (by decide))); replace BK272 := Aside0.mk (blk_grown (g := gb272) (o := .cells #[.int .i64 t266, .int .i64 t267, .int .i64 t268, .int .i64 t269, .int .i64 t270] 34 (0, 0)) (bk_ BK272) hg (Kd.R_away HO258.out (fun _ hk => hk))); replace HO258 := Aside0.mk (hp_); replace HB := Aside0.mk ((by rw [hw]; exact below_set (below_set (below_set (below_set (below_set (HB.out) GB96.out) GB96.out) GB96.out) GB96.out) GB96.out : Below w.heap.size w w134)); clear hg hw hp_))
         replace HO258 := Aside0.mk (Kd.R_drew HO258.out)
         replace BK251 := Aside0.mk (blk_drew BK251.out)
         replace BK252 := Aside0.mk (blk_drew BK252.out)
         replace BK253 := Aside0.mk (blk_drew BK253.out)
         replace BK260 := Aside0.mk (blk_drew BK260.out)
         replace BK272 := Aside0.mk (blk_drew BK272.out)
         replace HB := Aside0.mk (below_drew1 HB.out)
         refine start_ (n := 8) (S := fun w' => w'.cell? ⟨gb260, 0, none⟩ = some (.int .i64 t254) ∧ w'.cell? ⟨gb260, 1, none⟩ = some (.int .i64 t255) ∧ w'.cell? ⟨gb260, 2, none⟩ = some (.slice (some ⟨go96, 0, none⟩) t256.length co111) ∧ w'.cell? ⟨gb260, 3, none⟩ = some (.int .i64 (wrap64 (a0_3 + a1_2)))) (ds := []) #[false, false, false, false, false, false, false, false] (by kernel_rfl) rfl rfl ⟨bc_ BK260 0, bc_ BK260 1, bc_ BK260 2, bc_ BK260 3⟩ (fun hHeld => ?_); refine with_tabW spec_l25Make.tab17 spec_l25Make.bits17 (fun HT_ HW_ => ?_)
         generalize w134.drew = w135 at HO258 BK251 BK252 BK253 BK260 BK272 HB hHeld ⊢
         refine pureA (N := some 79) 1 HT_ ?_
         refine pureA (N := some 80) 2 HT_ ?_
         refine takeA (N := some 78) 0 HT_ HW_ hHeld ?_
         refine takeA (N := some 81) 3 HT_ HW_ hHeld ?_
         refine oneA (N := some 82) 4 HT_ (fun K hK => ?_)
         refine goes_ Try.func63 (by kernel_rfl) rfl #[.agg #[.int .i64 t254, .int .i64 t255, .slice (some ⟨go96, 0, none⟩) y273.length co111, .int .i64 (wrap64 (a0_3 + a1_2))]] (by rfl) rfl rfl (by (try simp only [List.map_toArray, List.map_cons, List.map_nil]); first | done | (rw [show y273.length = t256.length from (Kd.R_reads' HO258.out).1.symm] <;> rfl) | rfl | (simp only [List.length_drop, List.length_take]; rfl)) ?_
         with_reducible refine (spec_l25Good.calls k t254 t255 _ _ y273 (wrap64 (a0_3 + a1_2)) t274 _ ?side1 ?side2 A98.out).mono ?_
         (case side1 => exact co_ (Kd.R_reads' HO258.out).2.2)
         (case side2 => rw [show y273.length = t256.length from (Kd.R_reads' HO258.out).1.symm]; exact (Kd.R_reads' HO258.out).2.1)
         rintro e w136 ⟨rfl, hb⟩
         refine ⟨_, rfl, ?_⟩
         replace HO258 := Aside0.mk (Kd.R_below (ra_ HO258) hb)
         replace BK251 := bb_ BK251 hb
         replace BK252 := bb_ BK252 hb
         replace BK253 := bb_ BK253 hb
         replace BK260 := bb_ BK260 hb
         replace BK272 := bb_ BK272 hb
         replace HB := hb_ w hb
         clear hb
         refine hK.out _ _ ⟨bc_ BK260 0, bc_ BK260 1, bc_ BK260 2, bc_ BK260 3⟩ (fun hHeld => ?_)
         clear hK K
         refine normA (N := some 82) ?_
         refine pureA (N := some 83) 5 HT_ ?_
         refine oneA (N := none) 6 HT_ (fun K hK => ?_)
         have hs137 : w136.cell? ⟨gb253, 0, none⟩ = some (.int .i64 0) := bc_ BK253 0
         have hfs137 := blk_frozen BK253.out 0
         have hns137_0 := NB251_253.out
         have hns137_1 := NB252_253.out
         have hns137_3 := NB260_253.out
         have hns137_4 := NB272_253.out
         have hms137_0 := NB253_251.out
         have hms137_1 := NB253_252.out
         have hms137_3 := NB253_260.out
         have hms137_4 := NB253_272.out
         have hs138 : w136.cell? ⟨gb253, 1, none⟩ = some (.int .i64 0) := bc_ BK253 1
         have hfs138 := blk_frozen BK253.out 1
         have hns138_0 := NB251_253.out
         have hns138_1 := NB252_253.out
         have hns138_3 := NB260_253.out
         have hns138_4 := NB272_253.out
         have hms138_0 := NB253_251.out
         have hms138_1 := NB253_252.out
         have hms138_3 := NB253_260.out
         have hms138_4 := NB253_272.out
         have hs139 : w136.cell? ⟨gb253, 2, none⟩ = some (.slice none 0 0) := bc_ BK253 2
         have hfs139 := blk_frozen BK253.out 2
         have hns139_0 := NB251_253.out
         have hns139_1 := NB252_253.out
         have hns139_3 := NB260_253.out
         have hns139_4 := NB272_253.out
         have hms139_0 := NB253_251.out
         have hms139_1 := NB253_252.out
         have hms139_3 := NB253_260.out
         have hms139_4 := NB253_272.out
         have hs140 : w136.cell? ⟨gb253, 3, none⟩ = some (.int .i64 0) := bc_ BK253 3
         have hfs140 := blk_frozen BK253.out 3
         have hns140_0 := NB251_253.out
         have hns140_1 := NB252_253.out
         have hns140_3 := NB260_253.out
         have hns140_4 := NB272_253.out
         have hms140_0 := NB253_251.out
         have hms140_1 := NB253_252.out
         have hms140_3 := NB253_260.out
         have hms140_4 := NB253_272.out
         refine skip_ (w1 := ?_) (by rfl) rfl ?_ ?_
         rotate_left
         ·go_simp
          rfl
         refine hK.out _ _ ⟨((cn_ NB260_253).trans (((cn_ NB260_253).trans (((cn_ NB260_253).trans (((cn_ NB260_253).trans (hHeld.1)))))))), ((cn_ NB260_253).trans (((cn_ NB260_253).trans (((cn_ NB260_253).trans (((cn_ NB260_253).trans (hHeld.2.1)))))))), ((cn_ NB260_253).trans (((cn_ NB260_253).trans (((cn_ NB260_253).trans (((cn_ NB260_253).trans (hHeld.2.2.1)))))))), ((cn_ NB260_253).trans (((cn_ NB260_253).trans (((cn_ NB260_253).trans (((cn_ NB260_253).trans (hHeld.2.2.2))))))))⟩ (fun hHeld => ?_)
         clear hK K
         refine pureA (N := some 5) 7 HT_ ?_
         refine done_ (done_of HT_.out (by kernel_rfl)) ?_
         try go_wp2
         refine bodyPost_ret (results_ct rfl _ _ gb253 24 #[.int .i64 t254, .int .i64 t255, .slice (some ⟨go96, 0, none⟩) t256.length co111, .int .i64 (wrap64 (a0_3 + a1_2))] (0, 0) _ rfl (bq_ BK253) Try.underlying24 rfl (by kernel_rfl)) rfl ?_
         exact ⟨_, by first | rfl | (simp [errW_none, errW_some] <;> rfl) | (simp [*, errW_none, errW_some] <;> rfl), by exact rf_ (Kd.R_types HO258.out BK253.out (by decide)) (fun _ hk => trivial), (bw_ w)⟩
        ·replace c97 := Bool.eq_false_iff.mpr c97
         subst c97
         rw [if_neg (show ¬ (false = true) by decide)] at H
         simp only [Option.some.injEq, Prod.mk.injEq] at H
         obtain ⟨rfl, rfl, rfl, rfl, rfl⟩ := H
         go_enter Try.func66, Try.ntmps66
         try go_wp2_with (first | ((with_reducible refine gate_dst (N := 2) rfl ?_); refine box_ (N := 2) (cs := #[.int .i64 a0_0, .int .i64 a0_1, .slice A0_2 l0_2.length c0_2, .int .i64 a0_3]) (t := 24) ?_; intro gb251 hg w141 hbox hb; have BK251 := Aside0.mk (hbox); have GW251 := gz_ w hg; have GE251 := gz_ w hg; replace HB := hb_ w hb; clear hb hbox hg) | ((with_reducible refine gate_dst (N := 3) rfl ?_); refine box_ (N := 3) (cs := #[.int .i64 a1_0, .int .i64 a1_1, .int .i64 a1_2]) (t := 30) ?_; intro gb252 hg w142 hbox hb; have BK252 := Aside0.mk (hbox); have GW252 := gz_ w hg; have GE252 := gz_ w hg; have NB251_252 := ne_ hg BK251; have NB252_251 := en_ hg BK251; replace BK251 := bb_ BK251 hb; replace HB := hb_ w hb; clear hb hbox hg) | ((with_reducible refine gate_dst (N := 4) rfl ?_); refine box_ (N := 4) (cs := #[.int .i64 0, .int .i64 0, .slice none 0 0, .int .i64 0]) (t := 24) ?_; intro gb253 hg w143 hbox hb; have BK253 := Aside0.mk (hbox); have GW253 := gz_ w hg; have GE253 := gz_ w hg; have NB251_253 := ne_ hg BK251; have NB253_251 := en_ hg BK251; have NB252_253 := ne_ hg BK252; have NB253_252 := en_ hg BK252; replace BK251 := bb_ BK251 hb; replace BK252 := bb_ BK252 hb; replace HB := hb_ w hb; clear hb hbox hg; have hnb144 := NB251_252.out; have hnc144 := NB252_251.out; have hnb145 := NB251_253.out; have hnc145 := NB253_251.out; obtain ⟨hcz146_0, hcz146_1, hcz146_2, hcz146_3, hfz146_0, hfz146_1, hfz146_2, hfz146_3⟩ := bc4_ (w := w143) BK251) | ((with_reducible refine gate_callee (f := 64) rfl ?_); refine goesB (some 10) Try.func64 #[.agg #[.int .i64 a0_0, .int .i64 a0_1, .slice A0_2 l0_2.length c0_2, .int .i64 a0_3]] ?_; (with_reducible refine (spec_l25Own.calls a0_0 a0_1 _ _ l0_2 a0_3 t254 t255 t256 t259 _ ?side1 ?side2 A3.out).mono ?_); (case side1 => exact cb_ HR0_2 HB); (case side2 => exact HC0_2.out); rintro e w147 ⟨v257, rfl, ho0, hb⟩; refine ⟨_, rfl, ?_⟩; have HO258 := Aside0.mk (Kd.R_lower ho0 (below_size (bw_ w))); replace BK251 := bb_ BK251 hb; replace BK252 := bb_ BK252 hb; replace BK253 := bb_ BK253 hb; replace HB := hb_ w hb; (try clear hb); (try clear hb2); (try clear hk); (try clear hi); (try clear ho0)) | ((with_reducible refine gate_dst (N := 6) rfl ?_); refine box_ (N := 6) (cs := #[.int .i64 0, .int .i64 0, .slice none 0 0, .int .i64 0]) (t := 24) ?_; intro gb260 hg w148 hbox hb; have BK260 := Aside0.mk (hbox); have GW260 := gz_ w hg; have GE260 := gz_ w hg; have NB251_260 := ne_ hg BK251; have NB260_251 := en_ hg BK251; have NB252_260 := ne_ hg BK252; have NB260_252 := en_ hg BK252; have NB253_260 := ne_ hg BK253; have NB260_253 := en_ hg BK253; replace HO258 := Aside0.mk (Kd.R_below (ra_ HO258) hb); replace BK251 := bb_ BK251 hb; replace BK252 := bb_ BK252 hb; replace BK253 := bb_ BK253 hb; replace HB := hb_ w hb; clear hb hbox hg; have hnb149 := NB260_251.out; have hnc149 := NB251_260.out; have hnb150 := NB260_252.out; have hnc150 := NB252_260.out; have hnb151 := NB260_253.out; have hnc151 := NB253_260.out; obtain ⟨hcz152_0, hcz152_1, hcz152_2, hcz152_3, hfz152_0, hfz152_1, hfz152_2, hfz152_3⟩ := bc4_ (w := w148) BK260; obtain ⟨Ao153, co153, eo153⟩ := Kd.R_slice HO258.out; subst eo153; have hnb154 := NB252_253.out; have hnc154 := NB253_252.out; obtain ⟨hcz155_0, hcz155_1, hcz155_2, hfz155_0, hfz155_1, hfz155_2⟩ := bc3_ (w := w148) BK252; obtain ⟨hcz156_0, hcz156_1, hcz156_2, hcz156_3, hfz156_0, hfz156_1, hfz156_2, hfz156_3⟩ := bc4_ (w := w148) BK251) | ((with_reducible refine gate_store (t := 3) (p := 58) rfl ?_); refine store_event (t := 3) (p := 58) (v := ?vo_w157) (w1 := (((((w148.setCell ⟨gb260, 0, none⟩ (.int .i64 t254)).setCell ⟨gb260, 1, none⟩ (.int .i64 t255)).setCell ⟨gb260, 2, none⟩ (.slice Ao153 t256.length co153)).setCell ⟨gb260, 3, none⟩ (.int .i64 t259)).setCell ⟨gb260, 3, none⟩ (.int .i64 (wrap64 (a0_3 + a1_2))))) ?hg ?ho ?hn ?hr ?_; (case ho => rfl); (case hg => rfl); (case hn => rfl); (case hr => first | (go_simp; done) | (go_simp; rfl)); intro w157 hw; replace HO258 : Aside0 (Kd.R k34 34 w157 w.heap.size (fun _ => True) (.slice Ao153 t256.length co153) t256) := ⟨(by rw [hw]; exact (by exact rf_ (Kd.R_types HO258.out BK260.out (by decide)) (fun _ hk => trivial)))⟩; replace BK251 := bs_ hw (bk_ BK251); replace BK252 := bs_ hw (bk_ BK252); replace BK253 := bs_ hw (bk_ BK253); replace BK260 : Aside0 (w157.heap[gb260]? = some (.cells #[.int .i64 t254, .int .i64 t255, .slice Ao153 t256.length co153, .int .i64 (wrap64 (a0_3 + a1_2))] 24 (0, 0))) := bs_ hw (bq_ BK260); replace HB := bl_ hw (bw_ w); clear hw))
         replace HO258 := Aside0.mk (Kd.R_drew HO258.out)
         replace BK251 := Aside0.mk (blk_drew BK251.out)
         replace BK252 := Aside0.mk (blk_drew BK252.out)
         replace BK253 := Aside0.mk (blk_drew BK253.out)
         replace BK260 := Aside0.mk (blk_drew BK260.out)
         replace HB := Aside0.mk (below_drew1 HB.out)
         have p265 : 0 ≤ (a1_1 : Int) := of_decide_eq_true (by first | (with_reducible assumption) | assumption)
         have q265 : a1_1 < (l0_2.length : Int) := of_decide_eq_true (by first | (with_reducible assumption) | assumption)
         obtain ⟨ad265, e265, hx265_0, hx265_1, hx265_2, hx265_3, hx265_4⟩ := at_T34 HR0_2.out a1_1 p265 q265
         have hw265_4 := hx265_4
         have hw265_3 := hx265_3
         have hw265_2 := hx265_2
         have hw265_1 := hx265_1
         have hw265_0 := hx265_0
         cases e265
         replace hx265_0 := (HB.out.cell (World.block_lt_of_cell? w _ hx265_0)).trans hx265_0
         replace hx265_1 := (HB.out.cell (World.block_lt_of_cell? w _ hx265_1)).trans hx265_1
         replace hx265_2 := (HB.out.cell (World.block_lt_of_cell? w _ hx265_2)).trans hx265_2
         replace hx265_3 := (HB.out.cell (World.block_lt_of_cell? w _ hx265_3)).trans hx265_3
         replace hx265_4 := (HB.out.cell (World.block_lt_of_cell? w _ hx265_4)).trans hx265_4
         replace p265 := eq_true p265
         replace q265 := eq_true q265
         refine start_ (n := 16) (S := fun w' => w'.cell? ⟨gb251, 0, none⟩ = some (.int .i64 a0_0) ∧ w'.cell? ⟨gb251, 1, none⟩ = some (.int .i64 a0_1) ∧ w'.cell? ⟨gb251, 2, none⟩ = some (.slice (some ad265) l0_2.length c0_2) ∧ w'.cell? ⟨gb251, 3, none⟩ = some (.int .i64 a0_3) ∧ w'.cell? ⟨gb252, 0, none⟩ = some (.int .i64 a1_0) ∧ w'.cell? ⟨gb252, 1, none⟩ = some (.int .i64 a1_1) ∧ w'.cell? ⟨gb252, 2, none⟩ = some (.int .i64 a1_2) ∧ w'.cell? (ad265.add ((a1_1).toNat * 5)) = some (.int .i64 ((rd_T34 l0_2 a1_1).f0)) ∧ w'.cell? ⟨(ad265.add ((a1_1).toNat * 5)).block, (ad265.add ((a1_1).toNat * 5)).off + 1, none⟩ = some (.int .i64 ((rd_T34 l0_2 a1_1).f1)) ∧ w'.cell? ⟨(ad265.add ((a1_1).toNat * 5)).block, (ad265.add ((a1_1).toNat * 5)).off + 2, none⟩ = some (.int .i64 ((rd_T34 l0_2 a1_1).f2)) ∧ w'.cell? ⟨(ad265.add ((a1_1).toNat * 5)).block, (ad265.add ((a1_1).toNat * 5)).off + 3, none⟩ = some (.int .i64 ((rd_T34 l0_2 a1_1).f3)) ∧ w'.cell? ⟨(ad265.add ((a1_1).toNat * 5)).block, (ad265.add ((a1_1).toNat * 5)).off + 4, none⟩ = some (.int .i64 ((rd_T34 l0_2 a1_1).f4))) (ds := []) #[false, false, false, false, false, false, false, false, false, false, false, false, false, false, false, false] (by kernel_rfl) rfl rfl ⟨bc_ BK251 0, bc_ BK251 1, bc_ BK251 2, bc_ BK251 3, bc_ BK252 0, bc_ BK252 1, bc_ BK252 2, (bh_ HB hw265_0 :), (bh_ HB hw265_1 :), (bh_ HB hw265_2 :), (bh_ HB hw265_3 :), (bh_ HB hw265_4 :)⟩ (fun hHeld => ?_); refine with_tabW spec_l25Make.tab15 spec_l25Make.bits15 (fun HT_ HW_ => ?_)
         generalize w157.drew = w158 at HO258 BK251 BK252 BK253 BK260 HB hx265_0 hx265_1 hx265_2 hx265_3 hx265_4 hHeld ⊢
         refine pureA (N := some 60) 0 HT_ ?_
         refine pureA (N := some 62) 2 HT_ ?_
         refine pureA (N := some 67) 7 HT_ ?_
         refine takeA (N := some 61) 1 HT_ HW_ hHeld ?_
         refine takeA (N := some 63) 3 HT_ HW_ hHeld ?_
         refine pureA (N := some 64) 4 HT_ ?_
         refine takeA (N := some 65) 5 HT_ HW_ hHeld ?_
         refine takeA (N := some 66) 6 HT_ HW_ hHeld ?_
         refine takeA (N := some 68) 8 HT_ HW_ hHeld ?_
         refine join_ (σ := Nat) 2 #[true, true, true, true, true, true, true, true, true, true, true, true, true, true, false, false] (fun s_ => [(69, .tuple #[.agg #[.int .i64 t266, .int .i64 t267, .int .i64 t268, .int .i64 t269, .int .i64 t270], .bool false]), (7, .pointer (some ⟨s_, 0, none⟩)), (59, .tuple #[.agg #[.int .i64 t266, .int .i64 t267, .int .i64 t268, .int .i64 t269, .int .i64 t270], .bool false]), (70, .agg #[.int .i64 t266, .int .i64 t267, .int .i64 t268, .int .i64 t269, .int .i64 t270]), (71, .bool false)]) (fun s_ w' => (w'.cell? ⟨gb251, 0, none⟩ = some (.int .i64 a0_0) ∧ w'.cell? ⟨gb251, 1, none⟩ = some (.int .i64 a0_1) ∧ w'.cell? ⟨gb251, 2, none⟩ = some (.slice (some ad265) l0_2.length c0_2) ∧ w'.cell? ⟨gb251, 3, none⟩ = some (.int .i64 a0_3) ∧ w'.cell? ⟨gb252, 0, none⟩ = some (.int .i64 a1_0) ∧ w'.cell? ⟨gb252, 1, none⟩ = some (.int .i64 a1_1) ∧ w'.cell? ⟨gb252, 2, none⟩ = some (.int .i64 a1_2) ∧ w'.cell? (ad265.add ((a1_1).toNat * 5)) = some (.int .i64 ((rd_T34 l0_2 a1_1).f0)) ∧ w'.cell? ⟨(ad265.add ((a1_1).toNat * 5)).block, (ad265.add ((a1_1).toNat * 5)).off + 1, none⟩ = some (.int .i64 ((rd_T34 l0_2 a1_1).f1)) ∧ w'.cell? ⟨(ad265.add ((a1_1).toNat * 5)).block, (ad265.add ((a1_1).toNat * 5)).off + 2, none⟩ = some (.int .i64 ((rd_T34 l0_2 a1_1).f2)) ∧ w'.cell? ⟨(ad265.add ((a1_1).toNat * 5)).block, (ad265.add ((a1_1).toNat * 5)).off + 3, none⟩ = some (.int .i64 ((rd_T34 l0_2 a1_1).f3)) ∧ w'.cell? ⟨(ad265.add ((a1_1).toNat * 5)).block, (ad265.add ((a1_1).toNat * 5)).off + 4, none⟩ = some (.int .i64 ((rd_T34 l0_2 a1_1).f4))) ∧ (Kd.R k34 34 w' w.heap.size (fun k_ => k_ ≠ s_) (.slice Ao153 t256.length co153) t256) ∧ (w'.heap[gb251]? = some (.cells #[.int .i64 a0_0, .int .i64 a0_1, .slice (some ad265) l0_2.length c0_2, .int .i64 a0_3] 24 (0, 0))) ∧ (w'.heap[gb252]? = some (.cells #[.int .i64 a1_0, .int .i64 a1_1, .int .i64 a1_2] 30 (0, 0))) ∧ (w'.heap[gb253]? = some (.cells #[.int .i64 0, .int .i64 0, .slice none 0 0, .int .i64 0] 24 (0, 0))) ∧ (w'.heap[gb260]? = some (.cells #[.int .i64 t254, .int .i64 t255, .slice Ao153 t256.length co153, .int .i64 (wrap64 (a0_3 + a1_2))] 24 (0, 0))) ∧ (w'.heap[s_]? = some (.cells #[.int .i64 0, .int .i64 0, .int .i64 0, .int .i64 0, .int .i64 0] 34 (0, 0))) ∧ (w.heap.size ≤ s_) ∧ (w.heap.size ≤ s_) ∧ (gb251 ≠ s_) ∧ (s_ ≠ gb251) ∧ (gb252 ≠ s_) ∧ (s_ ≠ gb252) ∧ (gb253 ≠ s_) ∧ (s_ ≠ gb253) ∧ (gb260 ≠ s_) ∧ (s_ ≠ gb260) ∧ (Below w.heap.size w w')) ?_ ?_
         rotate_left
         ·intro hCont
          refine twoA (Ni := some 69) (Nj := some 7) 9 13 HT_ (fun K hK => ?_) (fun K hK => ?_)
          ·skip
           refine goesA Try.func115 #[.agg #[.int .i64 ((rd_T34 l0_2 a1_1).f0), .int .i64 ((rd_T34 l0_2 a1_1).f1), .int .i64 ((rd_T34 l0_2 a1_1).f2), .int .i64 ((rd_T34 l0_2 a1_1).f3), .int .i64 ((rd_T34 l0_2 a1_1).f4)], .agg #[.int .i64 a1_0, .int .i64 a1_1, .int .i64 a1_2], .int .i64 a0_0] ?_
           with_reducible refine (spec_l25Change.calls ((rd_T34 l0_2 a1_1).f0) ((rd_T34 l0_2 a1_1).f1) ((rd_T34 l0_2 a1_1).f2) ((rd_T34 l0_2 a1_1).f3) ((rd_T34 l0_2 a1_1).f4) a1_0 a1_1 a1_2 a0_0 t266 t267 t268 t269 t270 false _ A94.out).mono ?_
           rintro e w159 ⟨rfl, hb⟩
           refine ⟨_, rfl, ?_⟩
           replace HO258 := Aside0.mk (Kd.R_below (ra_ HO258) hb)
           replace BK251 := bb_ BK251 hb
           replace BK252 := bb_ BK252 hb
           replace BK253 := bb_ BK253 hb
           replace BK260 := bb_ BK260 hb
           replace HB := hb_ w hb
           clear hb
           refine hK.out _ _ ⟨bc_ BK251 0, bc_ BK251 1, bc_ BK251 2, bc_ BK251 3, bc_ BK252 0, bc_ BK252 1, bc_ BK252 2, (bh_ HB hw265_0 :), (bh_ HB hw265_1 :), (bh_ HB hw265_2 :), (bh_ HB hw265_3 :), (bh_ HB hw265_4 :)⟩ (fun hHeld => ?_)
           clear hK K
           refine normA (N := some 69) ?_
           refine pureA (N := some 59) 10 HT_ ?_
           refine pureA (N := some 70) 11 HT_ ?_
           refine pureA (N := some 71) 12 HT_ ?_
           refine oneA (N := some 7) 13 HT_ (fun K hK => ?_)
           refine box_step ?hg (N := 7) ?hd (cs := #[.int .i64 0, .int .i64 0, .int .i64 0, .int .i64 0, .int .i64 0]) (t := 34) ?hr ?_; (case hd => rfl); (case hg => rfl); (case hr => first | (go_simp; done) | (go_simp; rfl))
           intro gb272 hg w160 hbox hb
           have BK272 := Aside0.mk (hbox)
           have GW272 := gz_ w hg
           have GE272 := gz_ w hg
           have NB251_272 := ne_ hg BK251
           have NB272_251 := en_ hg BK251
           have NB252_272 := ne_ hg BK252
           have NB272_252 := en_ hg BK252
           have NB253_272 := ne_ hg BK253
           have NB272_253 := en_ hg BK253
           have NB260_272 := ne_ hg BK260
           have NB272_260 := en_ hg BK260
           replace HO258 := rb_ HO258 hg hb
           replace BK251 := bb_ BK251 hb
           replace BK252 := bb_ BK252 hb
           replace BK253 := bb_ BK253 hb
           replace BK260 := bb_ BK260 hb
           replace HB := hb_ w hb
           clear hb hbox hg
           refine hK.out _ _ ⟨bc_ BK251 0, bc_ BK251 1, bc_ BK251 2, bc_ BK251 3, bc_ BK252 0, bc_ BK252 1, bc_ BK252 2, (bh_ HB hw265_0 :), (bh_ HB hw265_1 :), (bh_ HB hw265_2 :), (bh_ HB hw265_3 :), (bh_ HB hw265_4 :)⟩ (fun hHeld => ?_)
           clear hK K
           refine normA (N := some 7) ?_
           exact norm_ (by simp only [putAll, Act.put, List.setIfInBounds_toArray, List.set_cons_zero, List.set_cons_succ]) (hCont (gb272) _ ⟨hHeld, (by exact rf_ HO258.out (fun _ hk => hk.2)), (bk_ BK251), (bk_ BK252), (bk_ BK253), (bk_ BK260), (bk_ BK272), GW272.out, GE272.out, NB251_272.out, NB272_251.out, NB252_272.out, NB272_252.out, NB253_272.out, NB272_253.out, NB260_272.out, NB272_260.out, (bw_ w)⟩)
          ·skip
           refine box_step ?hg (N := 7) ?hd (cs := #[.int .i64 0, .int .i64 0, .int .i64 0, .int .i64 0, .int .i64 0]) (t := 34) ?hr ?_; (case hd => rfl); (case hg => rfl); (case hr => first | (go_simp; done) | (go_simp; rfl))
           intro gb272 hg w159 hbox hb
           have BK272 := Aside0.mk (hbox)
           have GW272 := gz_ w hg
           have GE272 := gz_ w hg
           have NB251_272 := ne_ hg BK251
           have NB272_251 := en_ hg BK251
           have NB252_272 := ne_ hg BK252
           have NB272_252 := en_ hg BK252
           have NB253_272 := ne_ hg BK253
           have NB272_253 := en_ hg BK253
           have NB260_272 := ne_ hg BK260
           have NB272_260 := en_ hg BK260
           replace HO258 := rb_ HO258 hg hb
           replace BK251 := bb_ BK251 hb
           replace BK252 := bb_ BK252 hb
           replace BK253 := bb_ BK253 hb
           replace BK260 := bb_ BK260 hb
           replace HB := hb_ w hb
           clear hb hbox hg
           refine hK.out _ _ ⟨bc_ BK251 0, bc_ BK251 1, bc_ BK251 2, bc_ BK251 3, bc_ BK252 0, bc_ BK252 1, bc_ BK252 2, (bh_ HB hw265_0 :), (bh_ HB hw265_1 :), (bh_ HB hw265_2 :), (bh_ HB hw265_3 :), (bh_ HB hw265_4 :)⟩ (fun hHeld => ?_)
           clear hK K
           refine normA (N := some 7) ?_
           refine oneA (N := some 69) 9 HT_ (fun K hK => ?_)
           refine goesA Try.func115 #[.agg #[.int .i64 ((rd_T34 l0_2 a1_1).f0), .int .i64 ((rd_T34 l0_2 a1_1).f1), .int .i64 ((rd_T34 l0_2 a1_1).f2), .int .i64 ((rd_T34 l0_2 a1_1).f3), .int .i64 ((rd_T34 l0_2 a1_1).f4)], .agg #[.int .i64 a1_0, .int .i64 a1_1, .int .i64 a1_2], .int .i64 a0_0] ?_
           with_reducible refine (spec_l25Change.calls ((rd_T34 l0_2 a1_1).f0) ((rd_T34 l0_2 a1_1).f1) ((rd_T34 l0_2 a1_1).f2) ((rd_T34 l0_2 a1_1).f3) ((rd_T34 l0_2 a1_1).f4) a1_0 a1_1 a1_2 a0_0 t266 t267 t268 t269 t270 false _ A94.out).mono ?_
           rintro e w160 ⟨rfl, hb⟩
           refine ⟨_, rfl, ?_⟩
           replace HO258 := Aside0.mk (Kd.R_below (ra_ HO258) hb)
           replace BK251 := bb_ BK251 hb
           replace BK252 := bb_ BK252 hb
           replace BK253 := bb_ BK253 hb
           replace BK260 := bb_ BK260 hb
           replace BK272 := bb_ BK272 hb
           replace HB := hb_ w hb
           clear hb
           refine hK.out _ _ ⟨bc_ BK251 0, bc_ BK251 1, bc_ BK251 2, bc_ BK251 3, bc_ BK252 0, bc_ BK252 1, bc_ BK252 2, (bh_ HB hw265_0 :), (bh_ HB hw265_1 :), (bh_ HB hw265_2 :), (bh_ HB hw265_3 :), (bh_ HB hw265_4 :)⟩ (fun hHeld => ?_)
           clear hK K
           refine normA (N := some 69) ?_
           refine pureA (N := some 59) 10 HT_ ?_
           refine pureA (N := some 70) 11 HT_ ?_
           refine pureA (N := some 71) 12 HT_ ?_
           exact norm_ (by simp only [putAll, Act.put, List.setIfInBounds_toArray, List.set_cons_zero, List.set_cons_succ]) (hCont (gb272) _ ⟨hHeld, (by exact rf_ HO258.out (fun _ hk => hk.2)), (bk_ BK251), (bk_ BK252), (bk_ BK253), (bk_ BK260), (bk_ BK272), GW272.out, GE272.out, NB251_272.out, NB272_251.out, NB252_272.out, NB272_252.out, NB253_272.out, NB272_253.out, NB260_272.out, NB272_260.out, (bw_ w)⟩)
         rintro gb272 w161 ⟨hS_, h0_, h1_, h2_, h3_, h4_, h5_, h6_, h7_, h8_, h9_, h10_, h11_, h12_, h13_, h14_, h15_, h16_⟩
         have n0_ : Aside0 (Kd.R k34 34 w161 w.heap.size (fun k_ => k_ ≠ gb272) (.slice Ao153 t256.length co153) t256) := ⟨h0_⟩
         have n1_ : Aside0 (w161.heap[gb251]? = some (.cells #[.int .i64 a0_0, .int .i64 a0_1, .slice (some ad265) l0_2.length c0_2, .int .i64 a0_3] 24 (0, 0))) := ⟨h1_⟩
         have n2_ : Aside0 (w161.heap[gb252]? = some (.cells #[.int .i64 a1_0, .int .i64 a1_1, .int .i64 a1_2] 30 (0, 0))) := ⟨h2_⟩
         have n3_ : Aside0 (w161.heap[gb253]? = some (.cells #[.int .i64 0, .int .i64 0, .slice none 0 0, .int .i64 0] 24 (0, 0))) := ⟨h3_⟩
         have n4_ : Aside0 (w161.heap[gb260]? = some (.cells #[.int .i64 t254, .int .i64 t255, .slice Ao153 t256.length co153, .int .i64 (wrap64 (a0_3 + a1_2))] 24 (0, 0))) := ⟨h4_⟩
         have n5_ : Aside0 (w161.heap[gb272]? = some (.cells #[.int .i64 0, .int .i64 0, .int .i64 0, .int .i64 0, .int .i64 0] 34 (0, 0))) := ⟨h5_⟩
         have n6_ : Aside0 (w.heap.size ≤ gb272) := ⟨h6_⟩
         have n7_ : Aside0 (w.heap.size ≤ gb272) := ⟨h7_⟩
         have n8_ : Aside0 (gb251 ≠ gb272) := ⟨h8_⟩
         have n9_ : Aside0 (gb272 ≠ gb251) := ⟨h9_⟩
         have n10_ : Aside0 (gb252 ≠ gb272) := ⟨h10_⟩
         have n11_ : Aside0 (gb272 ≠ gb252) := ⟨h11_⟩
         have n12_ : Aside0 (gb253 ≠ gb272) := ⟨h12_⟩
         have n13_ : Aside0 (gb272 ≠ gb253) := ⟨h13_⟩
         have n14_ : Aside0 (gb260 ≠ gb272) := ⟨h14_⟩
         have n15_ : Aside0 (gb272 ≠ gb260) := ⟨h15_⟩
         have n16_ : Aside0 (Below w.heap.size w w161) := ⟨h16_⟩
         clear HO258
         clear BK251
         clear BK252
         clear BK253
         clear BK260
         clear HB
         clear h0_ h1_ h2_ h3_ h4_ h5_ h6_ h7_ h8_ h9_ h10_ h11_ h12_ h13_ h14_ h15_ h16_
         have HO258 := n0_
         have BK251 := n1_
         have BK252 := n2_
         have BK253 := n3_
         have BK260 := n4_
         have BK272 := n5_
         have GW272 := n6_
         have GE272 := n7_
         have NB251_272 := n8_
         have NB272_251 := n9_
         have NB252_272 := n10_
         have NB272_252 := n11_
         have NB253_272 := n12_
         have NB272_253 := n13_
         have NB260_272 := n14_
         have NB272_260 := n15_
         have HB := n16_
         clear n0_ n1_ n2_ n3_ n4_ n5_ n6_ n7_ n8_ n9_ n10_ n11_ n12_ n13_ n14_ n15_ n16_
         have hHeld : w161.cell? ⟨gb251, 0, none⟩ = some (.int .i64 a0_0) ∧ w161.cell? ⟨gb251, 1, none⟩ = some (.int .i64 a0_1) ∧ w161.cell? ⟨gb251, 2, none⟩ = some (.slice (some ad265) l0_2.length c0_2) ∧ w161.cell? ⟨gb251, 3, none⟩ = some (.int .i64 a0_3) ∧ w161.cell? ⟨gb252, 0, none⟩ = some (.int .i64 a1_0) ∧ w161.cell? ⟨gb252, 1, none⟩ = some (.int .i64 a1_1) ∧ w161.cell? ⟨gb252, 2, none⟩ = some (.int .i64 a1_2) ∧ w161.cell? (ad265.add ((a1_1).toNat * 5)) = some (.int .i64 ((rd_T34 l0_2 a1_1).f0)) ∧ w161.cell? ⟨(ad265.add ((a1_1).toNat * 5)).block, (ad265.add ((a1_1).toNat * 5)).off + 1, none⟩ = some (.int .i64 ((rd_T34 l0_2 a1_1).f1)) ∧ w161.cell? ⟨(ad265.add ((a1_1).toNat * 5)).block, (ad265.add ((a1_1).toNat * 5)).off + 2, none⟩ = some (.int .i64 ((rd_T34 l0_2 a1_1).f2)) ∧ w161.cell? ⟨(ad265.add ((a1_1).toNat * 5)).block, (ad265.add ((a1_1).toNat * 5)).off + 3, none⟩ = some (.int .i64 ((rd_T34 l0_2 a1_1).f3)) ∧ w161.cell? ⟨(ad265.add ((a1_1).toNat * 5)).block, (ad265.add ((a1_1).toNat * 5)).off + 4, none⟩ = some (.int .i64 ((rd_T34 l0_2 a1_1).f4)) := hS_
         refine norm_ (a' := ?_) ?_ ?_
         rotate_left
         ·simp only [putAll, Act.put, List.setIfInBounds_toArray, List.set_cons_zero, List.set_cons_succ]
          rfl
         refine oneA (N := none) 14 HT_ (fun K hK => ?_)
         have hs162 : w161.cell? ⟨gb272, 0, none⟩ = some (.int .i64 0) := bc_ BK272 0
         have hfs162 := blk_frozen BK272.out 0
         have hns162_0 := NB251_272.out
         have hns162_1 := NB252_272.out
         have hns162_2 := NB253_272.out
         have hns162_3 := NB260_272.out
         have hms162_0 := NB272_251.out
         have hms162_1 := NB272_252.out
         have hms162_2 := NB272_253.out
         have hms162_3 := NB272_260.out
         have hs163 : w161.cell? ⟨gb272, 1, none⟩ = some (.int .i64 0) := bc_ BK272 1
         have hfs163 := blk_frozen BK272.out 1
         have hns163_0 := NB251_272.out
         have hns163_1 := NB252_272.out
         have hns163_2 := NB253_272.out
         have hns163_3 := NB260_272.out
         have hms163_0 := NB272_251.out
         have hms163_1 := NB272_252.out
         have hms163_2 := NB272_253.out
         have hms163_3 := NB272_260.out
         have hs164 : w161.cell? ⟨gb272, 2, none⟩ = some (.int .i64 0) := bc_ BK272 2
         have hfs164 := blk_frozen BK272.out 2
         have hns164_0 := NB251_272.out
         have hns164_1 := NB252_272.out
         have hns164_2 := NB253_272.out
         have hns164_3 := NB260_272.out
         have hms164_0 := NB272_251.out
         have hms164_1 := NB272_252.out
         have hms164_2 := NB272_253.out
         have hms164_3 := NB272_260.out
         have hs165 : w161.cell? ⟨gb272, 3, none⟩ = some (.int .i64 0) := bc_ BK272 3
         have hfs165 := blk_frozen BK272.out 3
         have hns165_0 := NB251_272.out
         have hns165_1 := NB252_272.out
         have hns165_2 := NB253_272.out
         have hns165_3 := NB260_272.out
         have hms165_0 := NB272_251.out
         have hms165_1 := NB272_252.out
         have hms165_2 := NB272_253.out
         have hms165_3 := NB272_260.out
         have hs166 : w161.cell? ⟨gb272, 4, none⟩ = some (.int .i64 0) := bc_ BK272 4
         have hfs166 := blk_frozen BK272.out 4
         have hns166_0 := NB251_272.out
         have hns166_1 := NB252_272.out
         have hns166_2 := NB253_272.out
         have hns166_3 := NB260_272.out
         have hms166_0 := NB272_251.out
         have hms166_1 := NB272_252.out
         have hms166_2 := NB272_253.out
         have hms166_3 := NB272_260.out
         refine skip_ (w1 := ?_) (by rfl) rfl ?_ ?_
         rotate_left
         ·go_simp
          rfl
         refine hK.out _ _ ⟨((cn_ NB251_272).trans (((cn_ NB251_272).trans (((cn_ NB251_272).trans (((cn_ NB251_272).trans (((cn_ NB251_272).trans (hHeld.1)))))))))), ((cn_ NB251_272).trans (((cn_ NB251_272).trans (((cn_ NB251_272).trans (((cn_ NB251_272).trans (((cn_ NB251_272).trans (hHeld.2.1)))))))))), ((cn_ NB251_272).trans (((cn_ NB251_272).trans (((cn_ NB251_272).trans (((cn_ NB251_272).trans (((cn_ NB251_272).trans (hHeld.2.2.1)))))))))), ((cn_ NB251_272).trans (((cn_ NB251_272).trans (((cn_ NB251_272).trans (((cn_ NB251_272).trans (((cn_ NB251_272).trans (hHeld.2.2.2.1)))))))))), ((cn_ NB252_272).trans (((cn_ NB252_272).trans (((cn_ NB252_272).trans (((cn_ NB252_272).trans (((cn_ NB252_272).trans (hHeld.2.2.2.2.1)))))))))), ((cn_ NB252_272).trans (((cn_ NB252_272).trans (((cn_ NB252_272).trans (((cn_ NB252_272).trans (((cn_ NB252_272).trans (hHeld.2.2.2.2.2.1)))))))))), ((cn_ NB252_272).trans (((cn_ NB252_272).trans (((cn_ NB252_272).trans (((cn_ NB252_272).trans (((cn_ NB252_272).trans (hHeld.2.2.2.2.2.2.1)))))))))), ((cf_ hw265_0 GW272).trans (((cf_ hw265_0 GW272).trans (((cf_ hw265_0 GW272).trans (((cf_ hw265_0 GW272).trans (((cf_ hw265_0 GW272).trans (hHeld.2.2.2.2.2.2.2.1)))))))))), ((cf_ hw265_1 GW272).trans (((cf_ hw265_1 GW272).trans (((cf_ hw265_1 GW272).trans (((cf_ hw265_1 GW272).trans (((cf_ hw265_1 GW272).trans (hHeld.2.2.2.2.2.2.2.2.1)))))))))), ((cf_ hw265_2 GW272).trans (((cf_ hw265_2 GW272).trans (((cf_ hw265_2 GW272).trans (((cf_ hw265_2 GW272).trans (((cf_ hw265_2 GW272).trans (hHeld.2.2.2.2.2.2.2.2.2.1)))))))))), ((cf_ hw265_3 GW272).trans (((cf_ hw265_3 GW272).trans (((cf_ hw265_3 GW272).trans (((cf_ hw265_3 GW272).trans (((cf_ hw265_3 GW272).trans (hHeld.2.2.2.2.2.2.2.2.2.2.1)))))))))), ((cf_ hw265_4 GW272).trans (((cf_ hw265_4 GW272).trans (((cf_ hw265_4 GW272).trans (((cf_ hw265_4 GW272).trans (((cf_ hw265_4 GW272).trans (hHeld.2.2.2.2.2.2.2.2.2.2.2))))))))))⟩ (fun hHeld => ?_)
         clear hK K
         refine pureA (N := some 8) 15 HT_ ?_
         refine done_ (done_of HT_.out (by kernel_rfl)) ?_
         have n0_ : Aside0 (Kd.R k34 34 (((((w161.setCell ⟨gb272, 0, none⟩ (.int .i64 t266)).setCell ⟨gb272, 1, none⟩ (.int .i64 t267)).setCell ⟨gb272, 2, none⟩ (.int .i64 t268)).setCell ⟨gb272, 3, none⟩ (.int .i64 t269)).setCell ⟨gb272, 4, none⟩ (.int .i64 t270)) w.heap.size (fun k_ => k_ ≠ gb272) (.slice Ao153 t256.length co153) t256) := ⟨by exact rf_ (Kd.R_mono HO258.out (fun k_ hk => (⟨hk, hk⟩ : _ ∧ k_ ≠ gb272))) (fun _ hk => hk.1)⟩
         have n1_ : Aside0 ((((((w161.setCell ⟨gb272, 0, none⟩ (.int .i64 t266)).setCell ⟨gb272, 1, none⟩ (.int .i64 t267)).setCell ⟨gb272, 2, none⟩ (.int .i64 t268)).setCell ⟨gb272, 3, none⟩ (.int .i64 t269)).setCell ⟨gb272, 4, none⟩ (.int .i64 t270)).heap[gb251]? = some (.cells #[.int .i64 a0_0, .int .i64 a0_1, .slice (some ad265) l0_2.length c0_2, .int .i64 a0_3] 24 (0, 0))) := ⟨bk_ BK251⟩
         have n2_ : Aside0 ((((((w161.setCell ⟨gb272, 0, none⟩ (.int .i64 t266)).setCell ⟨gb272, 1, none⟩ (.int .i64 t267)).setCell ⟨gb272, 2, none⟩ (.int .i64 t268)).setCell ⟨gb272, 3, none⟩ (.int .i64 t269)).setCell ⟨gb272, 4, none⟩ (.int .i64 t270)).heap[gb252]? = some (.cells #[.int .i64 a1_0, .int .i64 a1_1, .int .i64 a1_2] 30 (0, 0))) := ⟨bk_ BK252⟩
         have n3_ : Aside0 ((((((w161.setCell ⟨gb272, 0, none⟩ (.int .i64 t266)).setCell ⟨gb272, 1, none⟩ (.int .i64 t267)).setCell ⟨gb272, 2, none⟩ (.int .i64 t268)).setCell ⟨gb272, 3, none⟩ (.int .i64 t269)).setCell ⟨gb272, 4, none⟩ (.int .i64 t270)).heap[gb253]? = some (.cells #[.int .i64 0, .int .i64 0, .slice none 0 0, .int .i64 0] 24 (0, 0))) := ⟨bk_ BK253⟩
         have n4_ : Aside0 ((((((w161.setCell ⟨gb272, 0, none⟩ (.int .i64 t266)).setCell ⟨gb272, 1, none⟩ (.int .i64 t267)).setCell ⟨gb272, 2, none⟩ (.int .i64 t268)).setCell ⟨gb272, 3, none⟩ (.int .i64 t269)).setCell ⟨gb272, 4, none⟩ (.int .i64 t270)).heap[gb260]? = some (.cells #[.int .i64 t254, .int .i64 t255, .slice Ao153 t256.length co153, .int .i64 (wrap64 (a0_3 + a1_2))] 24 (0, 0))) := ⟨bk_ BK260⟩
         have n5_ : Aside0 ((((((w161.setCell ⟨gb272, 0, none⟩ (.int .i64 t266)).setCell ⟨gb272, 1, none⟩ (.int .i64 t267)).setCell ⟨gb272, 2, none⟩ (.int .i64 t268)).setCell ⟨gb272, 3, none⟩ (.int .i64 t269)).setCell ⟨gb272, 4, none⟩ (.int .i64 t270)).heap[gb272]? = some (.cells #[.int .i64 t266, .int .i64 t267, .int .i64 t268, .int .i64 t269, .int .i64 t270] 34 (0, 0))) := ⟨bq_ BK272⟩
         have n6_ : Aside0 (Below w.heap.size w (((((w161.setCell ⟨gb272, 0, none⟩ (.int .i64 t266)).setCell ⟨gb272, 1, none⟩ (.int .i64 t267)).setCell ⟨gb272, 2, none⟩ (.int .i64 t268)).setCell ⟨gb272, 3, none⟩ (.int .i64 t269)).setCell ⟨gb272, 4, none⟩ (.int .i64 t270))) := ⟨(bw_ w)⟩
         (try clear HO258)
         (try clear BK251)
         (try clear BK252)
         (try clear BK253)
         (try clear BK260)
         (try clear BK272)
         (try clear HB)
         generalize (((((w161.setCell ⟨gb272, 0, none⟩ (.int .i64 t266)).setCell ⟨gb272, 1, none⟩ (.int .i64 t267)).setCell ⟨gb272, 2, none⟩ (.int .i64 t268)).setCell ⟨gb272, 3, none⟩ (.int .i64 t269)).setCell ⟨gb272, 4, none⟩ (.int .i64 t270)) = w167 at n0_ n1_ n2_ n3_ n4_ n5_ n6_ ⊢
         have HO258 := n0_
         have BK251 := n1_
         have BK252 := n2_
         have BK253 := n3_
         have BK260 := n4_
         have BK272 := n5_
         have HB := n6_
         clear n0_ n1_ n2_ n3_ n4_ n5_ n6_
         have hnb168 := NB260_272.out
         have hnc168 := NB272_260.out
         obtain ⟨hcz169_0, hcz169_1, hcz169_2, hcz169_3, hfz169_0, hfz169_1, hfz169_2, hfz169_3⟩ := bc4_ (w := w167) BK260
         have hnb170 := NB252_272.out
         have hnc170 := NB272_252.out
         obtain ⟨hcz171_0, hcz171_1, hcz171_2, hfz171_0, hfz171_1, hfz171_2⟩ := bc3_ (w := w167) BK252
         have hnb172 := NB272_251.out
         have hnc172 := NB251_272.out
         have hnb173 := NB272_253.out
         have hnc173 := NB253_272.out
         obtain ⟨hcz174_0, hcz174_1, hcz174_2, hcz174_3, hcz174_4, hfz174_0, hfz174_1, hfz174_2, hfz174_3, hfz174_4⟩ := bc5_ (w := w167) BK272
         have p96 : 0 ≤ (a1_1 : Int) := of_decide_eq_true (by first | (with_reducible assumption) | assumption)
         have q96 : (a1_1 : Int) < ((t256.length : Int) : Int) := of_decide_eq_true (by first | (with_reducible assumption) | assumption)
         obtain ⟨go96, co96, eo96, gb96, gl96, cl96, HG96⟩ := Kd.R_form HO258.out (by omega)
         (first | cases eo96 | (injection eo96 with ea_ en_ ec_; (first | subst ea_ | (injection ea_ with ea_; subst ea_)); subst ec_; clear en_))
         have GB96 := Aside0.mk gb96
         have GG96 := Aside0.mk HG96
         clear gb96 gl96 HG96
         obtain ⟨ce96, hcl96, hM96, hcc96, hfr96⟩ := Kd.R_elem HO258.out z34 (a1_1 : Int) p96 q96
         obtain rfl := k34_openM hM96
         have hx96_0 : w167.cell? ⟨go96, (a1_1 : Int).toNat * 5, none⟩ = some (.int .i64 ((rd_T34 t256 a1_1).f0)) := hcc96 0 _ rfl
         have hx96_1 : w167.cell? ⟨go96, (a1_1 : Int).toNat * 5 + 1, none⟩ = some (.int .i64 ((rd_T34 t256 a1_1).f1)) := hcc96 1 _ rfl
         have hx96_2 : w167.cell? ⟨go96, (a1_1 : Int).toNat * 5 + 2, none⟩ = some (.int .i64 ((rd_T34 t256 a1_1).f2)) := hcc96 2 _ rfl
         have hx96_3 : w167.cell? ⟨go96, (a1_1 : Int).toNat * 5 + 3, none⟩ = some (.int .i64 ((rd_T34 t256 a1_1).f3)) := hcc96 3 _ rfl
         have hx96_4 : w167.cell? ⟨go96, (a1_1 : Int).toNat * 5 + 4, none⟩ = some (.int .i64 ((rd_T34 t256 a1_1).f4)) := hcc96 4 _ rfl
         have hf96_0 : w167.frozen? ⟨go96, (a1_1 : Int).toNat * 5, none⟩ = false := hfr96 0
         have hf96_1 : w167.frozen? ⟨go96, (a1_1 : Int).toNat * 5 + 1, none⟩ = false := hfr96 1
         have hf96_2 : w167.frozen? ⟨go96, (a1_1 : Int).toNat * 5 + 2, none⟩ = false := hfr96 2
         have hf96_3 : w167.frozen? ⟨go96, (a1_1 : Int).toNat * 5 + 3, none⟩ = false := hfr96 3
         have hf96_4 : w167.frozen? ⟨go96, (a1_1 : Int).toNat * 5 + 4, none⟩ = false := hfr96 4
         clear hcl96 hcc96 hfr96 hM96
         replace p96 := eq_true p96
         replace q96 := eq_true q96
         have HX175 := Aside0.mk (show Kd.R k34 34 w167 w.heap.size (fun k_ => k_ ≠ gb272) (.slice (some ⟨go96, 0, none⟩) t256.length co153) t256 from (ra_ HO258))
         obtain ⟨ce175, hcl175, hM175, hcc175, hfr175⟩ := Kd.R_elem HX175.out z34 (a1_1 : Int) (of_decide_eq_true (by first | (with_reducible assumption) | assumption)) (by have h_ : (a1_1 : Int) < ((t256.length : Int) : Int) := of_decide_eq_true (by first | (with_reducible assumption) | assumption); first | exact h_ | (have e_ := (Kd.R_reads' HO258.out).1; omega) | simpa using h_)
         obtain rfl := k34_openM hM175
         have HP175 := Kd.R_seg HX175.out (a1_1 : Int) (of_decide_eq_true (by first | (with_reducible assumption) | assumption)) (by have h_ : (a1_1 : Int) < ((t256.length : Int) : Int) := of_decide_eq_true (by first | (with_reducible assumption) | assumption); first | exact h_ | (have e_ := (Kd.R_reads' HO258.out).1; omega) | simpa using h_) (seg := [.int .i64 t266, .int .i64 t267, .int .i64 t268, .int .i64 t269, .int .i64 t270]) (j := 0) hcl175 hcc175 (show 5 ≤ 5 from by decide) (x' := (⟨t266, t267, t268, t269, t270⟩ : S34)) (k34_mkM _ _ _ (⟨t266, t267, t268, t269, t270⟩ : S34) ) (fun _ hk => hk)
         have hx175_0 := hcc175 0 _ rfl
         (try simp only [show (k34).sz = 5 from rfl, Nat.mul_one, Nat.add_zero] at hx175_0)
         have hf175_0 := hfr175 0
         (try simp only [show (k34).sz = 5 from rfl, Nat.mul_one, Nat.add_zero] at hf175_0)
         have hx175_1 := hcc175 1 _ rfl
         (try simp only [show (k34).sz = 5 from rfl, Nat.mul_one, Nat.add_zero] at hx175_1)
         have hf175_1 := hfr175 1
         (try simp only [show (k34).sz = 5 from rfl, Nat.mul_one, Nat.add_zero] at hf175_1)
         have hx175_2 := hcc175 2 _ rfl
         (try simp only [show (k34).sz = 5 from rfl, Nat.mul_one, Nat.add_zero] at hx175_2)
         have hf175_2 := hfr175 2
         (try simp only [show (k34).sz = 5 from rfl, Nat.mul_one, Nat.add_zero] at hf175_2)
         have hx175_3 := hcc175 3 _ rfl
         (try simp only [show (k34).sz = 5 from rfl, Nat.mul_one, Nat.add_zero] at hx175_3)
         have hf175_3 := hfr175 3
         (try simp only [show (k34).sz = 5 from rfl, Nat.mul_one, Nat.add_zero] at hf175_3)
         have hx175_4 := hcc175 4 _ rfl
         (try simp only [show (k34).sz = 5 from rfl, Nat.mul_one, Nat.add_zero] at hx175_4)
         have hf175_4 := hfr175 4
         (try simp only [show (k34).sz = 5 from rfl, Nat.mul_one, Nat.add_zero] at hf175_4)
         clear hcl175 hcc175 hfr175 hM175
         try go_wp2_with (first | ((with_reducible refine gate_store (t := 34) (p := 77) rfl ?_); refine store_event (t := 34) (p := 77) (v := ?vo_w176) (w1 := (((((w167.setCell ⟨go96, (a1_1 : Int).toNat * 5, none⟩ (.int .i64 t266)).setCell ⟨go96, (a1_1 : Int).toNat * 5 + 1, none⟩ (.int .i64 t267)).setCell ⟨go96, (a1_1 : Int).toNat * 5 + 2, none⟩ (.int .i64 t268)).setCell ⟨go96, (a1_1 : Int).toNat * 5 + 3, none⟩ (.int .i64 t269)).setCell ⟨go96, (a1_1 : Int).toNat * 5 + 4, none⟩ (.int .i64 t270))) ?hg ?ho ?hn ?hr ?_; (case ho => rfl); (case hg => rfl); (case hn => rfl); (case hr => first | (go_simp; done) | (go_simp; rfl)); intro w176 hw; have hg : w167.grownBy w176 (some go96) := (by rw [hw]; exact HP175.2); have hp_ : Kd.R k34 34 w176 w.heap.size (fun k_ => k_ ≠ gb272) (.slice (some ⟨go96, 0, none⟩) t256.length co153) y273 := (by rw [hw, Ny273.out]; exact HP175.1); clear HP175; replace BK251 := Aside0.mk (blk_grown (g := gb251) (o := .cells #[.int .i64 a0_0, .int .i64 a0_1, .slice (some ad265) l0_2.length c0_2, .int .i64 a0_3] 24 (0, 0)) (bk_ BK251) hg (Kd.R_ne HO258.out BK251.out (by decide))); replace BK252 := Aside0.mk (blk_grown (g := gb252) (o := .cells #[.int .i64 a1_0, .int .i64 a1_1, .int .i64 a1_2] 30 (0, 0)) (bk_ BK252) hg (Kd.R_ne HO258.out BK252.out (by decide))); replace BK253 := Aside0.mk (blk_grown (g := gb253) (o := .cells #[.int .i64 0, .int .i64 0, .slice none 0 0, .int .i64 0] 24 (0, 0)) (bk_ BK253) hg (Kd.R_ne HO258.out BK253.out (by decide))); replace BK260 := Aside0.mk (blk_grown (g := gb260) (o := .cells #[.int .i64 t254, .int .i64 t255, .slice (some ⟨go96, 0, none⟩) t256.length co153, .int .i64 (wrap64 (a0_3 + a1_2))] 24 (0, 0)) (bk_ BK260) hg (Kd.R_ne HO258.out BK260.out (by decide))); replace BK272 := Aside0.mk (blk_grown (g := gb272) (o := .cells #[.int .i64 t266, .int .i64 t267, .int .i64 t268, .int .i64 t269, .int .i64 t270] 34 (0, 0)) (bk_ BK272) hg (Kd.R_away HO258.out (fun _ hk => hk))); replace HO258 := Aside0.mk (hp_); replace HB := Aside0.mk ((by rw [hw]; exact below_set (below_set (below_set (below_set (below_set (HB.out) GB96.out) GB96.out) GB96.out) GB96.out) GB96.out : Below w.heap.size w w176)); clear hg hw hp_))
         replace HO258 := Aside0.mk (Kd.R_drew HO258.out)
         replace BK251 := Aside0.mk (blk_drew BK251.out)
         replace BK252 := Aside0.mk (blk_drew BK252.out)
         replace BK253 := Aside0.mk (blk_drew BK253.out)
         replace BK260 := Aside0.mk (blk_drew BK260.out)
         replace BK272 := Aside0.mk (blk_drew BK272.out)
         replace HB := Aside0.mk (below_drew1 HB.out)
         refine start_ (n := 8) (S := fun w' => w'.cell? ⟨gb260, 0, none⟩ = some (.int .i64 t254) ∧ w'.cell? ⟨gb260, 1, none⟩ = some (.int .i64 t255) ∧ w'.cell? ⟨gb260, 2, none⟩ = some (.slice (some ⟨go96, 0, none⟩) t256.length co153) ∧ w'.cell? ⟨gb260, 3, none⟩ = some (.int .i64 (wrap64 (a0_3 + a1_2)))) (ds := []) #[false, false, false, false, false, false, false, false] (by kernel_rfl) rfl rfl ⟨bc_ BK260 0, bc_ BK260 1, bc_ BK260 2, bc_ BK260 3⟩ (fun hHeld => ?_); refine with_tabW spec_l25Make.tab17 spec_l25Make.bits17 (fun HT_ HW_ => ?_)
         generalize w176.drew = w177 at HO258 BK251 BK252 BK253 BK260 BK272 HB hHeld ⊢
         refine pureA (N := some 79) 1 HT_ ?_
         refine pureA (N := some 80) 2 HT_ ?_
         refine pure_ (i := 3) (N := some 81) (v := undef) (a' := ?_) #[false, true, true, true, false, false, false, false] rfl rfl (any_of HT_.out (by kernel_rfl)) (fun _ _ _ h => h) (Or.inr ⟨by rfl, rfl⟩) ?_ ?_
         rotate_left
         ·simp only [Act.put, List.setIfInBounds_toArray, List.set_cons_zero, List.set_cons_succ, i64_w, i32_w]
          rfl
         refine pure_ (i := 4) (N := some 82) (v := undef) (a' := ?_) #[false, true, true, true, true, false, false, false] rfl rfl (any_of HT_.out (by kernel_rfl)) (fun _ _ _ h => h) (Or.inr ⟨by rfl, rfl⟩) ?_ ?_
         rotate_left
         ·simp only [Act.put, List.setIfInBounds_toArray, List.set_cons_zero, List.set_cons_succ, i64_w, i32_w]
          rfl
         refine pureA (N := some 83) 5 HT_ ?_
         refine takeA (N := some 78) 0 HT_ HW_ hHeld ?_
         refine oneA (N := none) 6 HT_ (fun K hK => ?_)
         have hs178 : w177.cell? ⟨gb253, 0, none⟩ = some (.int .i64 0) := bc_ BK253 0
         have hfs178 := blk_frozen BK253.out 0
         have hns178_0 := NB251_253.out
         have hns178_1 := NB252_253.out
         have hns178_3 := NB260_253.out
         have hns178_4 := NB272_253.out
         have hms178_0 := NB253_251.out
         have hms178_1 := NB253_252.out
         have hms178_3 := NB253_260.out
         have hms178_4 := NB253_272.out
         have hs179 : w177.cell? ⟨gb253, 1, none⟩ = some (.int .i64 0) := bc_ BK253 1
         have hfs179 := blk_frozen BK253.out 1
         have hns179_0 := NB251_253.out
         have hns179_1 := NB252_253.out
         have hns179_3 := NB260_253.out
         have hns179_4 := NB272_253.out
         have hms179_0 := NB253_251.out
         have hms179_1 := NB253_252.out
         have hms179_3 := NB253_260.out
         have hms179_4 := NB253_272.out
         have hs180 : w177.cell? ⟨gb253, 2, none⟩ = some (.slice none 0 0) := bc_ BK253 2
         have hfs180 := blk_frozen BK253.out 2
         have hns180_0 := NB251_253.out
         have hns180_1 := NB252_253.out
         have hns180_3 := NB260_253.out
         have hns180_4 := NB272_253.out
         have hms180_0 := NB253_251.out
         have hms180_1 := NB253_252.out
         have hms180_3 := NB253_260.out
         have hms180_4 := NB253_272.out
         have hs181 : w177.cell? ⟨gb253, 3, none⟩ = some (.int .i64 0) := bc_ BK253 3
         have hfs181 := blk_frozen BK253.out 3
         have hns181_0 := NB251_253.out
         have hns181_1 := NB252_253.out
         have hns181_3 := NB260_253.out
         have hns181_4 := NB272_253.out
         have hms181_0 := NB253_251.out
         have hms181_1 := NB253_252.out
         have hms181_3 := NB253_260.out
         have hms181_4 := NB253_272.out
         refine skip_ (w1 := ?_) (by rfl) rfl ?_ ?_
         rotate_left
         ·go_simp
          rfl
         refine hK.out _ _ ⟨((cn_ NB260_253).trans (((cn_ NB260_253).trans (((cn_ NB260_253).trans (((cn_ NB260_253).trans (hHeld.1)))))))), ((cn_ NB260_253).trans (((cn_ NB260_253).trans (((cn_ NB260_253).trans (((cn_ NB260_253).trans (hHeld.2.1)))))))), ((cn_ NB260_253).trans (((cn_ NB260_253).trans (((cn_ NB260_253).trans (((cn_ NB260_253).trans (hHeld.2.2.1)))))))), ((cn_ NB260_253).trans (((cn_ NB260_253).trans (((cn_ NB260_253).trans (((cn_ NB260_253).trans (hHeld.2.2.2))))))))⟩ (fun hHeld => ?_)
         clear hK K
         refine pureA (N := some 5) 7 HT_ ?_
         refine done_ (done_of HT_.out (by kernel_rfl)) ?_
         try go_wp2
         refine bodyPost_ret (results_ct rfl _ _ gb253 24 #[.int .i64 t254, .int .i64 t255, .slice (some ⟨go96, 0, none⟩) t256.length co153, .int .i64 (wrap64 (a0_3 + a1_2))] (0, 0) _ rfl (bq_ BK253) Try.underlying24 rfl (by kernel_rfl)) rfl ?_
         exact ⟨_, by first | rfl | (simp [errW_none, errW_some] <;> rfl) | (simp [*, errW_none, errW_some] <;> rfl), by exact rf_ (Kd.R_types HO258.out BK253.out (by decide)) (fun _ hk => trivial), (bw_ w)⟩
       ·rw [if_neg c95] at H
        exact absurd H (by simp)
      ·rw [if_neg c93] at H
       exact absurd H (by simp)
     ·rw [if_neg c92] at H
      exact absurd H (by simp)
   ·rw [if_neg c72] at H
    have c72b0 := beq_eq_false_iff_ne.mpr c72
    have c72b1 := bne_iff_ne.mpr c72
    by_cases c182 : 0 ≤ a1_1
    ·rw [if_pos c182] at H
     have c182b0 := decide_eq_true c182
     clear c182
     by_cases c183 : a1_1 < (l0_2.length : Int)
     ·rw [if_pos c183] at H
      have c183b0 := decide_eq_true c183
      clear c183
      replace H := Option.bind_eq_some_iff.mp H
      obtain ⟨⟨t276, t277, t278, t279, t280, t281⟩, A1840, H⟩ := H
      (try dsimp only at H)
      have A184 := Aside0.mk A1840
      clear A1840
      by_cases c185 : a1_1 < (t256.length : Int)
      ·rw [if_pos c185] at H
       have c185b0 := decide_eq_true c185
       clear c185
       obtain ⟨y283, hy283⟩ : ∃ y_ : List (S34), y_ = (t256.set (a1_1 : Int).toNat (⟨t276, t277, t278, t279, t280⟩ : S34)) := ⟨_, rfl⟩
       replace H : (if t281 = true then ((spec_l25Good.f k t254 t255 y283 t259).bind fun t284 => (some (t254, t255, y283, t259, t284))) else (some (t254, t255, y283, t259, false))) = some (r1, r2, r3, r4, r5) := by first | (rw [hy283]; with_reducible exact H) | (have H2_ := (Option.bind_some _ _).symm.trans H; rw [hy283]; with_reducible exact H2_) | (have H2_ := (Option.bind_some _ _).symm.trans H; with_reducible exact H2_) | with_reducible exact H | (rw [hy283]; exact H) | exact H
       have Ny283 := Aside0.mk hy283
       clear hy283
       by_cases c187 : t281 = true
       ·subst c187
        rw [if_pos rfl] at H
        replace H := Option.bind_eq_some_iff.mp H
        obtain ⟨t284, A1880, H⟩ := H
        (try dsimp only at H)
        have A188 := Aside0.mk A1880
        clear A1880
        simp only [Option.some.injEq, Prod.mk.injEq] at H
        obtain ⟨rfl, rfl, rfl, rfl, rfl⟩ := H
        go_enter Try.func66, Try.ntmps66
        try go_wp2_with (first | ((with_reducible refine gate_dst (N := 2) rfl ?_); refine box_ (N := 2) (cs := #[.int .i64 a0_0, .int .i64 a0_1, .slice A0_2 l0_2.length c0_2, .int .i64 a0_3]) (t := 24) ?_; intro gb251 hg w189 hbox hb; have BK251 := Aside0.mk (hbox); have GW251 := gz_ w hg; have GE251 := gz_ w hg; replace HB := hb_ w hb; clear hb hbox hg) | ((with_reducible refine gate_dst (N := 3) rfl ?_); refine box_ (N := 3) (cs := #[.int .i64 a1_0, .int .i64 a1_1, .int .i64 a1_2]) (t := 30) ?_; intro gb252 hg w190 hbox hb; have BK252 := Aside0.mk (hbox); have GW252 := gz_ w hg; have GE252 := gz_ w hg; have NB251_252 := ne_ hg BK251; have NB252_251 := en_ hg BK251; replace BK251 := bb_ BK251 hb; replace HB := hb_ w hb; clear hb hbox hg) | ((with_reducible refine gate_dst (N := 4) rfl ?_); refine box_ (N := 4) (cs := #[.int .i64 0, .int .i64 0, .slice none 0 0, .int .i64 0]) (t := 24) ?_; intro gb253 hg w191 hbox hb; have BK253 := Aside0.mk (hbox); have GW253 := gz_ w hg; have GE253 := gz_ w hg; have NB251_253 := ne_ hg BK251; have NB253_251 := en_ hg BK251; have NB252_253 := ne_ hg BK252; have NB253_252 := en_ hg BK252; replace BK251 := bb_ BK251 hb; replace BK252 := bb_ BK252 hb; replace HB := hb_ w hb; clear hb hbox hg; have hnb192 := NB251_252.out; have hnc192 := NB252_251.out; have hnb193 := NB251_253.out; have hnc193 := NB253_251.out; obtain ⟨hcz194_0, hcz194_1, hcz194_2, hcz194_3, hfz194_0, hfz194_1, hfz194_2, hfz194_3⟩ := bc4_ (w := w191) BK251) | ((with_reducible refine gate_callee (f := 64) rfl ?_); refine goesB (some 10) Try.func64 #[.agg #[.int .i64 a0_0, .int .i64 a0_1, .slice A0_2 l0_2.length c0_2, .int .i64 a0_3]] ?_; (with_reducible refine (spec_l25Own.calls a0_0 a0_1 _ _ l0_2 a0_3 t254 t255 t256 t259 _ ?side1 ?side2 A3.out).mono ?_); (case side1 => exact cb_ HR0_2 HB); (case side2 => exact HC0_2.out); rintro e w195 ⟨v257, rfl, ho0, hb⟩; refine ⟨_, rfl, ?_⟩; have HO258 := Aside0.mk (Kd.R_lower ho0 (below_size (bw_ w))); replace BK251 := bb_ BK251 hb; replace BK252 := bb_ BK252 hb; replace BK253 := bb_ BK253 hb; replace HB := hb_ w hb; (try clear hb); (try clear hb2); (try clear hk); (try clear hi); (try clear ho0)) | ((with_reducible refine gate_dst (N := 6) rfl ?_); refine box_ (N := 6) (cs := #[.int .i64 0, .int .i64 0, .slice none 0 0, .int .i64 0]) (t := 24) ?_; intro gb260 hg w196 hbox hb; have BK260 := Aside0.mk (hbox); have GW260 := gz_ w hg; have GE260 := gz_ w hg; have NB251_260 := ne_ hg BK251; have NB260_251 := en_ hg BK251; have NB252_260 := ne_ hg BK252; have NB260_252 := en_ hg BK252; have NB253_260 := ne_ hg BK253; have NB260_253 := en_ hg BK253; replace HO258 := Aside0.mk (Kd.R_below (ra_ HO258) hb); replace BK251 := bb_ BK251 hb; replace BK252 := bb_ BK252 hb; replace BK253 := bb_ BK253 hb; replace HB := hb_ w hb; clear hb hbox hg; have hnb197 := NB260_251.out; have hnc197 := NB251_260.out; have hnb198 := NB260_252.out; have hnc198 := NB252_260.out; have hnb199 := NB260_253.out; have hnc199 := NB253_260.out; obtain ⟨hcz200_0, hcz200_1, hcz200_2, hcz200_3, hfz200_0, hfz200_1, hfz200_2, hfz200_3⟩ := bc4_ (w := w196) BK260; obtain ⟨Ao201, co201, eo201⟩ := Kd.R_slice HO258.out; subst eo201; have hnb202 := NB252_253.out; have hnc202 := NB253_252.out; obtain ⟨hcz203_0, hcz203_1, hcz203_2, hfz203_0, hfz203_1, hfz203_2⟩ := bc3_ (w := w196) BK252))
        have n0_ : Aside0 (Kd.R k34 34 ((((w196.setCell ⟨gb260, 0, none⟩ (.int .i64 t254)).setCell ⟨gb260, 1, none⟩ (.int .i64 t255)).setCell ⟨gb260, 2, none⟩ (.slice Ao201 t256.length co201)).setCell ⟨gb260, 3, none⟩ (.int .i64 t259)) w.heap.size (fun _ => True) (.slice Ao201 t256.length co201) t256) := ⟨by exact rf_ (Kd.R_types HO258.out BK260.out (by decide)) (fun _ hk => trivial)⟩
        have n1_ : Aside0 (((((w196.setCell ⟨gb260, 0, none⟩ (.int .i64 t254)).setCell ⟨gb260, 1, none⟩ (.int .i64 t255)).setCell ⟨gb260, 2, none⟩ (.slice Ao201 t256.length co201)).setCell ⟨gb260, 3, none⟩ (.int .i64 t259)).heap[gb251]? = some (.cells #[.int .i64 a0_0, .int .i64 a0_1, .slice A0_2 l0_2.length c0_2, .int .i64 a0_3] 24 (0, 0))) := ⟨bk_ BK251⟩
        have n2_ : Aside0 (((((w196.setCell ⟨gb260, 0, none⟩ (.int .i64 t254)).setCell ⟨gb260, 1, none⟩ (.int .i64 t255)).setCell ⟨gb260, 2, none⟩ (.slice Ao201 t256.length co201)).setCell ⟨gb260, 3, none⟩ (.int .i64 t259)).heap[gb252]? = some (.cells #[.int .i64 a1_0, .int .i64 a1_1, .int .i64 a1_2] 30 (0, 0))) := ⟨bk_ BK252⟩
        have n3_ : Aside0 (((((w196.setCell ⟨gb260, 0, none⟩ (.int .i64 t254)).setCell ⟨gb260, 1, none⟩ (.int .i64 t255)).setCell ⟨gb260, 2, none⟩ (.slice Ao201 t256.length co201)).setCell ⟨gb260, 3, none⟩ (.int .i64 t259)).heap[gb253]? = some (.cells #[.int .i64 0, .int .i64 0, .slice none 0 0, .int .i64 0] 24 (0, 0))) := ⟨bk_ BK253⟩
        have n4_ : Aside0 (((((w196.setCell ⟨gb260, 0, none⟩ (.int .i64 t254)).setCell ⟨gb260, 1, none⟩ (.int .i64 t255)).setCell ⟨gb260, 2, none⟩ (.slice Ao201 t256.length co201)).setCell ⟨gb260, 3, none⟩ (.int .i64 t259)).heap[gb260]? = some (.cells #[.int .i64 t254, .int .i64 t255, .slice Ao201 t256.length co201, .int .i64 t259] 24 (0, 0))) := ⟨bq_ BK260⟩
        have n5_ : Aside0 (Below w.heap.size w ((((w196.setCell ⟨gb260, 0, none⟩ (.int .i64 t254)).setCell ⟨gb260, 1, none⟩ (.int .i64 t255)).setCell ⟨gb260, 2, none⟩ (.slice Ao201 t256.length co201)).setCell ⟨gb260, 3, none⟩ (.int .i64 t259))) := ⟨(bw_ w)⟩
        (try clear HO258)
        (try clear BK251)
        (try clear BK252)
        (try clear BK253)
        (try clear BK260)
        (try clear HB)
        generalize ((((w196.setCell ⟨gb260, 0, none⟩ (.int .i64 t254)).setCell ⟨gb260, 1, none⟩ (.int .i64 t255)).setCell ⟨gb260, 2, none⟩ (.slice Ao201 t256.length co201)).setCell ⟨gb260, 3, none⟩ (.int .i64 t259)) = w204 at n0_ n1_ n2_ n3_ n4_ n5_ ⊢
        have HO258 := n0_
        have BK251 := n1_
        have BK252 := n2_
        have BK253 := n3_
        have BK260 := n4_
        have HB := n5_
        clear n0_ n1_ n2_ n3_ n4_ n5_
        replace HO258 := Aside0.mk (Kd.R_drew HO258.out)
        replace BK251 := Aside0.mk (blk_drew BK251.out)
        replace BK252 := Aside0.mk (blk_drew BK252.out)
        replace BK253 := Aside0.mk (blk_drew BK253.out)
        replace BK260 := Aside0.mk (blk_drew BK260.out)
        replace HB := Aside0.mk (below_drew1 HB.out)
        have p275 : 0 ≤ (a1_1 : Int) := of_decide_eq_true (by first | (with_reducible assumption) | assumption)
        have q275 : a1_1 < (l0_2.length : Int) := of_decide_eq_true (by first | (with_reducible assumption) | assumption)
        obtain ⟨ad275, e275, hx275_0, hx275_1, hx275_2, hx275_3, hx275_4⟩ := at_T34 HR0_2.out a1_1 p275 q275
        have hw275_4 := hx275_4
        have hw275_3 := hx275_3
        have hw275_2 := hx275_2
        have hw275_1 := hx275_1
        have hw275_0 := hx275_0
        cases e275
        replace hx275_0 := (HB.out.cell (World.block_lt_of_cell? w _ hx275_0)).trans hx275_0
        replace hx275_1 := (HB.out.cell (World.block_lt_of_cell? w _ hx275_1)).trans hx275_1
        replace hx275_2 := (HB.out.cell (World.block_lt_of_cell? w _ hx275_2)).trans hx275_2
        replace hx275_3 := (HB.out.cell (World.block_lt_of_cell? w _ hx275_3)).trans hx275_3
        replace hx275_4 := (HB.out.cell (World.block_lt_of_cell? w _ hx275_4)).trans hx275_4
        replace p275 := eq_true p275
        replace q275 := eq_true q275
        refine start_ (n := 16) (S := fun w' => w'.cell? ⟨gb251, 0, none⟩ = some (.int .i64 a0_0) ∧ w'.cell? ⟨gb251, 1, none⟩ = some (.int .i64 a0_1) ∧ w'.cell? ⟨gb251, 2, none⟩ = some (.slice (some ad275) l0_2.length c0_2) ∧ w'.cell? ⟨gb251, 3, none⟩ = some (.int .i64 a0_3) ∧ w'.cell? ⟨gb252, 0, none⟩ = some (.int .i64 a1_0) ∧ w'.cell? ⟨gb252, 1, none⟩ = some (.int .i64 a1_1) ∧ w'.cell? ⟨gb252, 2, none⟩ = some (.int .i64 a1_2) ∧ w'.cell? (ad275.add ((a1_1).toNat * 5)) = some (.int .i64 ((rd_T34 l0_2 a1_1).f0)) ∧ w'.cell? ⟨(ad275.add ((a1_1).toNat * 5)).block, (ad275.add ((a1_1).toNat * 5)).off + 1, none⟩ = some (.int .i64 ((rd_T34 l0_2 a1_1).f1)) ∧ w'.cell? ⟨(ad275.add ((a1_1).toNat * 5)).block, (ad275.add ((a1_1).toNat * 5)).off + 2, none⟩ = some (.int .i64 ((rd_T34 l0_2 a1_1).f2)) ∧ w'.cell? ⟨(ad275.add ((a1_1).toNat * 5)).block, (ad275.add ((a1_1).toNat * 5)).off + 3, none⟩ = some (.int .i64 ((rd_T34 l0_2 a1_1).f3)) ∧ w'.cell? ⟨(ad275.add ((a1_1).toNat * 5)).block, (ad275.add ((a1_1).toNat * 5)).off + 4, none⟩ = some (.int .i64 ((rd_T34 l0_2 a1_1).f4))) (ds := []) #[false, false, false, false, false, false, false, false, false, false, false, false, false, false, false, false] (by kernel_rfl) rfl rfl ⟨bc_ BK251 0, bc_ BK251 1, bc_ BK251 2, bc_ BK251 3, bc_ BK252 0, bc_ BK252 1, bc_ BK252 2, (bh_ HB hw275_0 :), (bh_ HB hw275_1 :), (bh_ HB hw275_2 :), (bh_ HB hw275_3 :), (bh_ HB hw275_4 :)⟩ (fun hHeld => ?_); refine with_tabW spec_l25Make.tab15 spec_l25Make.bits15 (fun HT_ HW_ => ?_)
        generalize w204.drew = w205 at HO258 BK251 BK252 BK253 BK260 HB hx275_0 hx275_1 hx275_2 hx275_3 hx275_4 hHeld ⊢
        refine pureA (N := some 60) 0 HT_ ?_
        refine pureA (N := some 62) 2 HT_ ?_
        refine pureA (N := some 67) 7 HT_ ?_
        refine takeA (N := some 61) 1 HT_ HW_ hHeld ?_
        refine takeA (N := some 63) 3 HT_ HW_ hHeld ?_
        refine pureA (N := some 64) 4 HT_ ?_
        refine takeA (N := some 65) 5 HT_ HW_ hHeld ?_
        refine takeA (N := some 66) 6 HT_ HW_ hHeld ?_
        refine takeA (N := some 68) 8 HT_ HW_ hHeld ?_
        refine join_ (σ := Nat) 2 #[true, true, true, true, true, true, true, true, true, true, true, true, true, true, false, false] (fun s_ => [(69, .tuple #[.agg #[.int .i64 t276, .int .i64 t277, .int .i64 t278, .int .i64 t279, .int .i64 t280], .bool true]), (7, .pointer (some ⟨s_, 0, none⟩)), (59, .tuple #[.agg #[.int .i64 t276, .int .i64 t277, .int .i64 t278, .int .i64 t279, .int .i64 t280], .bool true]), (70, .agg #[.int .i64 t276, .int .i64 t277, .int .i64 t278, .int .i64 t279, .int .i64 t280]), (71, .bool true)]) (fun s_ w' => (w'.cell? ⟨gb251, 0, none⟩ = some (.int .i64 a0_0) ∧ w'.cell? ⟨gb251, 1, none⟩ = some (.int .i64 a0_1) ∧ w'.cell? ⟨gb251, 2, none⟩ = some (.slice (some ad275) l0_2.length c0_2) ∧ w'.cell? ⟨gb251, 3, none⟩ = some (.int .i64 a0_3) ∧ w'.cell? ⟨gb252, 0, none⟩ = some (.int .i64 a1_0) ∧ w'.cell? ⟨gb252, 1, none⟩ = some (.int .i64 a1_1) ∧ w'.cell? ⟨gb252, 2, none⟩ = some (.int .i64 a1_2) ∧ w'.cell? (ad275.add ((a1_1).toNat * 5)) = some (.int .i64 ((rd_T34 l0_2 a1_1).f0)) ∧ w'.cell? ⟨(ad275.add ((a1_1).toNat * 5)).block, (ad275.add ((a1_1).toNat * 5)).off + 1, none⟩ = some (.int .i64 ((rd_T34 l0_2 a1_1).f1)) ∧ w'.cell? ⟨(ad275.add ((a1_1).toNat * 5)).block, (ad275.add ((a1_1).toNat * 5)).off + 2, none⟩ = some (.int .i64 ((rd_T34 l0_2 a1_1).f2)) ∧ w'.cell? ⟨(ad275.add ((a1_1).toNat * 5)).block, (ad275.add ((a1_1).toNat * 5)).off + 3, none⟩ = some (.int .i64 ((rd_T34 l0_2 a1_1).f3)) ∧ w'.cell? ⟨(ad275.add ((a1_1).toNat * 5)).block, (ad275.add ((a1_1).toNat * 5)).off + 4, none⟩ = some (.int .i64 ((rd_T34 l0_2 a1_1).f4))) ∧ (Kd.R k34 34 w' w.heap.size (fun k_ => k_ ≠ s_) (.slice Ao201 t256.length co201) t256) ∧ (w'.heap[gb251]? = some (.cells #[.int .i64 a0_0, .int .i64 a0_1, .slice (some ad275) l0_2.length c0_2, .int .i64 a0_3] 24 (0, 0))) ∧ (w'.heap[gb252]? = some (.cells #[.int .i64 a1_0, .int .i64 a1_1, .int .i64 a1_2] 30 (0, 0))) ∧ (w'.heap[gb253]? = some (.cells #[.int .i64 0, .int .i64 0, .slice none 0 0, .int .i64 0] 24 (0, 0))) ∧ (w'.heap[gb260]? = some (.cells #[.int .i64 t254, .int .i64 t255, .slice Ao201 t256.length co201, .int .i64 t259] 24 (0, 0))) ∧ (w'.heap[s_]? = some (.cells #[.int .i64 0, .int .i64 0, .int .i64 0, .int .i64 0, .int .i64 0] 34 (0, 0))) ∧ (w.heap.size ≤ s_) ∧ (w.heap.size ≤ s_) ∧ (gb251 ≠ s_) ∧ (s_ ≠ gb251) ∧ (gb252 ≠ s_) ∧ (s_ ≠ gb252) ∧ (gb253 ≠ s_) ∧ (s_ ≠ gb253) ∧ (gb260 ≠ s_) ∧ (s_ ≠ gb260) ∧ (Below w.heap.size w w')) ?_ ?_
        rotate_left
        ·intro hCont
         refine twoA (Ni := some 69) (Nj := some 7) 9 13 HT_ (fun K hK => ?_) (fun K hK => ?_)
         ·skip
          refine goesA Try.func115 #[.agg #[.int .i64 ((rd_T34 l0_2 a1_1).f0), .int .i64 ((rd_T34 l0_2 a1_1).f1), .int .i64 ((rd_T34 l0_2 a1_1).f2), .int .i64 ((rd_T34 l0_2 a1_1).f3), .int .i64 ((rd_T34 l0_2 a1_1).f4)], .agg #[.int .i64 a1_0, .int .i64 a1_1, .int .i64 a1_2], .int .i64 a0_0] ?_
          with_reducible refine (spec_l25Change.calls ((rd_T34 l0_2 a1_1).f0) ((rd_T34 l0_2 a1_1).f1) ((rd_T34 l0_2 a1_1).f2) ((rd_T34 l0_2 a1_1).f3) ((rd_T34 l0_2 a1_1).f4) a1_0 a1_1 a1_2 a0_0 t276 t277 t278 t279 t280 true _ A184.out).mono ?_
          rintro e w206 ⟨rfl, hb⟩
          refine ⟨_, rfl, ?_⟩
          replace HO258 := Aside0.mk (Kd.R_below (ra_ HO258) hb)
          replace BK251 := bb_ BK251 hb
          replace BK252 := bb_ BK252 hb
          replace BK253 := bb_ BK253 hb
          replace BK260 := bb_ BK260 hb
          replace HB := hb_ w hb
          clear hb
          refine hK.out _ _ ⟨bc_ BK251 0, bc_ BK251 1, bc_ BK251 2, bc_ BK251 3, bc_ BK252 0, bc_ BK252 1, bc_ BK252 2, (bh_ HB hw275_0 :), (bh_ HB hw275_1 :), (bh_ HB hw275_2 :), (bh_ HB hw275_3 :), (bh_ HB hw275_4 :)⟩ (fun hHeld => ?_)
          clear hK K
          refine normA (N := some 69) ?_
          refine pureA (N := some 59) 10 HT_ ?_
          refine pureA (N := some 70) 11 HT_ ?_
          refine pureA (N := some 71) 12 HT_ ?_
          refine oneA (N := some 7) 13 HT_ (fun K hK => ?_)
          refine box_step ?hg (N := 7) ?hd (cs := #[.int .i64 0, .int .i64 0, .int .i64 0, .int .i64 0, .int .i64 0]) (t := 34) ?hr ?_; (case hd => rfl); (case hg => rfl); (case hr => first | (go_simp; done) | (go_simp; rfl))
          intro gb282 hg w207 hbox hb
          have BK282 := Aside0.mk (hbox)
          have GW282 := gz_ w hg
          have GE282 := gz_ w hg
          have NB251_282 := ne_ hg BK251
          have NB282_251 := en_ hg BK251
          have NB252_282 := ne_ hg BK252
          have NB282_252 := en_ hg BK252
          have NB253_282 := ne_ hg BK253
          have NB282_253 := en_ hg BK253
          have NB260_282 := ne_ hg BK260
          have NB282_260 := en_ hg BK260
          replace HO258 := rb_ HO258 hg hb
          replace BK251 := bb_ BK251 hb
          replace BK252 := bb_ BK252 hb
          replace BK253 := bb_ BK253 hb
          replace BK260 := bb_ BK260 hb
          replace HB := hb_ w hb
          clear hb hbox hg
          refine hK.out _ _ ⟨bc_ BK251 0, bc_ BK251 1, bc_ BK251 2, bc_ BK251 3, bc_ BK252 0, bc_ BK252 1, bc_ BK252 2, (bh_ HB hw275_0 :), (bh_ HB hw275_1 :), (bh_ HB hw275_2 :), (bh_ HB hw275_3 :), (bh_ HB hw275_4 :)⟩ (fun hHeld => ?_)
          clear hK K
          refine normA (N := some 7) ?_
          exact norm_ (by simp only [putAll, Act.put, List.setIfInBounds_toArray, List.set_cons_zero, List.set_cons_succ]) (hCont (gb282) _ ⟨hHeld, (by exact rf_ HO258.out (fun _ hk => hk.2)), (bk_ BK251), (bk_ BK252), (bk_ BK253), (bk_ BK260), (bk_ BK282), GW282.out, GE282.out, NB251_282.out, NB282_251.out, NB252_282.out, NB282_252.out, NB253_282.out, NB282_253.out, NB260_282.out, NB282_260.out, (bw_ w)⟩)
         ·skip
          refine box_step ?hg (N := 7) ?hd (cs := #[.int .i64 0, .int .i64 0, .int .i64 0, .int .i64 0, .int .i64 0]) (t := 34) ?hr ?_; (case hd => rfl); (case hg => rfl); (case hr => first | (go_simp; done) | (go_simp; rfl))
          intro gb282 hg w206 hbox hb
          have BK282 := Aside0.mk (hbox)
          have GW282 := gz_ w hg
          have GE282 := gz_ w hg
          have NB251_282 := ne_ hg BK251
          have NB282_251 := en_ hg BK251
          have NB252_282 := ne_ hg BK252
          have NB282_252 := en_ hg BK252
          have NB253_282 := ne_ hg BK253
          have NB282_253 := en_ hg BK253
          have NB260_282 := ne_ hg BK260
          have NB282_260 := en_ hg BK260
          replace HO258 := rb_ HO258 hg hb
          replace BK251 := bb_ BK251 hb
          replace BK252 := bb_ BK252 hb
          replace BK253 := bb_ BK253 hb
          replace BK260 := bb_ BK260 hb
          replace HB := hb_ w hb
          clear hb hbox hg
          refine hK.out _ _ ⟨bc_ BK251 0, bc_ BK251 1, bc_ BK251 2, bc_ BK251 3, bc_ BK252 0, bc_ BK252 1, bc_ BK252 2, (bh_ HB hw275_0 :), (bh_ HB hw275_1 :), (bh_ HB hw275_2 :), (bh_ HB hw275_3 :), (bh_ HB hw275_4 :)⟩ (fun hHeld => ?_)
          clear hK K
          refine normA (N := some 7) ?_
          refine oneA (N := some 69) 9 HT_ (fun K hK => ?_)
          refine goesA Try.func115 #[.agg #[.int .i64 ((rd_T34 l0_2 a1_1).f0), .int .i64 ((rd_T34 l0_2 a1_1).f1), .int .i64 ((rd_T34 l0_2 a1_1).f2), .int .i64 ((rd_T34 l0_2 a1_1).f3), .int .i64 ((rd_T34 l0_2 a1_1).f4)], .agg #[.int .i64 a1_0, .int .i64 a1_1, .int .i64 a1_2], .int .i64 a0_0] ?_
          with_reducible refine (spec_l25Change.calls ((rd_T34 l0_2 a1_1).f0) ((rd_T34 l0_2 a1_1).f1) ((rd_T34 l0_2 a1_1).f2) ((rd_T34 l0_2 a1_1).f3) ((rd_T34 l0_2 a1_1).f4) a1_0 a1_1 a1_2 a0_0 t276 t277 t278 t279 t280 true _ A184.out).mono ?_
          rintro e w207 ⟨rfl, hb⟩
          refine ⟨_, rfl, ?_⟩
          replace HO258 := Aside0.mk (Kd.R_below (ra_ HO258) hb)
          replace BK251 := bb_ BK251 hb
          replace BK252 := bb_ BK252 hb
          replace BK253 := bb_ BK253 hb
          replace BK260 := bb_ BK260 hb
          replace BK282 := bb_ BK282 hb
          replace HB := hb_ w hb
          clear hb
          refine hK.out _ _ ⟨bc_ BK251 0, bc_ BK251 1, bc_ BK251 2, bc_ BK251 3, bc_ BK252 0, bc_ BK252 1, bc_ BK252 2, (bh_ HB hw275_0 :), (bh_ HB hw275_1 :), (bh_ HB hw275_2 :), (bh_ HB hw275_3 :), (bh_ HB hw275_4 :)⟩ (fun hHeld => ?_)
          clear hK K
          refine normA (N := some 69) ?_
          refine pureA (N := some 59) 10 HT_ ?_
          refine pureA (N := some 70) 11 HT_ ?_
          refine pureA (N := some 71) 12 HT_ ?_
          exact norm_ (by simp only [putAll, Act.put, List.setIfInBounds_toArray, List.set_cons_zero, List.set_cons_succ]) (hCont (gb282) _ ⟨hHeld, (by exact rf_ HO258.out (fun _ hk => hk.2)), (bk_ BK251), (bk_ BK252), (bk_ BK253), (bk_ BK260), (bk_ BK282), GW282.out, GE282.out, NB251_282.out, NB282_251.out, NB252_282.out, NB282_252.out, NB253_282.out, NB282_253.out, NB260_282.out, NB282_260.out, (bw_ w)⟩)
        rintro gb282 w208 ⟨hS_, h0_, h1_, h2_, h3_, h4_, h5_, h6_, h7_, h8_, h9_, h10_, h11_, h12_, h13_, h14_, h15_, h16_⟩
        have n0_ : Aside0 (Kd.R k34 34 w208 w.heap.size (fun k_ => k_ ≠ gb282) (.slice Ao201 t256.length co201) t256) := ⟨h0_⟩
        have n1_ : Aside0 (w208.heap[gb251]? = some (.cells #[.int .i64 a0_0, .int .i64 a0_1, .slice (some ad275) l0_2.length c0_2, .int .i64 a0_3] 24 (0, 0))) := ⟨h1_⟩
        have n2_ : Aside0 (w208.heap[gb252]? = some (.cells #[.int .i64 a1_0, .int .i64 a1_1, .int .i64 a1_2] 30 (0, 0))) := ⟨h2_⟩
        have n3_ : Aside0 (w208.heap[gb253]? = some (.cells #[.int .i64 0, .int .i64 0, .slice none 0 0, .int .i64 0] 24 (0, 0))) := ⟨h3_⟩
        have n4_ : Aside0 (w208.heap[gb260]? = some (.cells #[.int .i64 t254, .int .i64 t255, .slice Ao201 t256.length co201, .int .i64 t259] 24 (0, 0))) := ⟨h4_⟩
        have n5_ : Aside0 (w208.heap[gb282]? = some (.cells #[.int .i64 0, .int .i64 0, .int .i64 0, .int .i64 0, .int .i64 0] 34 (0, 0))) := ⟨h5_⟩
        have n6_ : Aside0 (w.heap.size ≤ gb282) := ⟨h6_⟩
        have n7_ : Aside0 (w.heap.size ≤ gb282) := ⟨h7_⟩
        have n8_ : Aside0 (gb251 ≠ gb282) := ⟨h8_⟩
        have n9_ : Aside0 (gb282 ≠ gb251) := ⟨h9_⟩
        have n10_ : Aside0 (gb252 ≠ gb282) := ⟨h10_⟩
        have n11_ : Aside0 (gb282 ≠ gb252) := ⟨h11_⟩
        have n12_ : Aside0 (gb253 ≠ gb282) := ⟨h12_⟩
        have n13_ : Aside0 (gb282 ≠ gb253) := ⟨h13_⟩
        have n14_ : Aside0 (gb260 ≠ gb282) := ⟨h14_⟩
        have n15_ : Aside0 (gb282 ≠ gb260) := ⟨h15_⟩
        have n16_ : Aside0 (Below w.heap.size w w208) := ⟨h16_⟩
        clear HO258
        clear BK251
        clear BK252
        clear BK253
        clear BK260
        clear HB
        clear h0_ h1_ h2_ h3_ h4_ h5_ h6_ h7_ h8_ h9_ h10_ h11_ h12_ h13_ h14_ h15_ h16_
        have HO258 := n0_
        have BK251 := n1_
        have BK252 := n2_
        have BK253 := n3_
        have BK260 := n4_
        have BK282 := n5_
        have GW282 := n6_
        have GE282 := n7_
        have NB251_282 := n8_
        have NB282_251 := n9_
        have NB252_282 := n10_
        have NB282_252 := n11_
        have NB253_282 := n12_
        have NB282_253 := n13_
        have NB260_282 := n14_
        have NB282_260 := n15_
        have HB := n16_
        clear n0_ n1_ n2_ n3_ n4_ n5_ n6_ n7_ n8_ n9_ n10_ n11_ n12_ n13_ n14_ n15_ n16_
        have hHeld : w208.cell? ⟨gb251, 0, none⟩ = some (.int .i64 a0_0) ∧ w208.cell? ⟨gb251, 1, none⟩ = some (.int .i64 a0_1) ∧ w208.cell? ⟨gb251, 2, none⟩ = some (.slice (some ad275) l0_2.length c0_2) ∧ w208.cell? ⟨gb251, 3, none⟩ = some (.int .i64 a0_3) ∧ w208.cell? ⟨gb252, 0, none⟩ = some (.int .i64 a1_0) ∧ w208.cell? ⟨gb252, 1, none⟩ = some (.int .i64 a1_1) ∧ w208.cell? ⟨gb252, 2, none⟩ = some (.int .i64 a1_2) ∧ w208.cell? (ad275.add ((a1_1).toNat * 5)) = some (.int .i64 ((rd_T34 l0_2 a1_1).f0)) ∧ w208.cell? ⟨(ad275.add ((a1_1).toNat * 5)).block, (ad275.add ((a1_1).toNat * 5)).off + 1, none⟩ = some (.int .i64 ((rd_T34 l0_2 a1_1).f1)) ∧ w208.cell? ⟨(ad275.add ((a1_1).toNat * 5)).block, (ad275.add ((a1_1).toNat * 5)).off + 2, none⟩ = some (.int .i64 ((rd_T34 l0_2 a1_1).f2)) ∧ w208.cell? ⟨(ad275.add ((a1_1).toNat * 5)).block, (ad275.add ((a1_1).toNat * 5)).off + 3, none⟩ = some (.int .i64 ((rd_T34 l0_2 a1_1).f3)) ∧ w208.cell? ⟨(ad275.add ((a1_1).toNat * 5)).block, (ad275.add ((a1_1).toNat * 5)).off + 4, none⟩ = some (.int .i64 ((rd_T34 l0_2 a1_1).f4)) := hS_
        refine norm_ (a' := ?_) ?_ ?_
        rotate_left
        ·simp only [putAll, Act.put, List.setIfInBounds_toArray, List.set_cons_zero, List.set_cons_succ]
         rfl
        refine oneA (N := none) 14 HT_ (fun K hK => ?_)
        have hs209 : w208.cell? ⟨gb282, 0, none⟩ = some (.int .i64 0) := bc_ BK282 0
        have hfs209 := blk_frozen BK282.out 0
        have hns209_0 := NB251_282.out
        have hns209_1 := NB252_282.out
        have hns209_2 := NB253_282.out
        have hns209_3 := NB260_282.out
        have hms209_0 := NB282_251.out
        have hms209_1 := NB282_252.out
        have hms209_2 := NB282_253.out
        have hms209_3 := NB282_260.out
        have hs210 : w208.cell? ⟨gb282, 1, none⟩ = some (.int .i64 0) := bc_ BK282 1
        have hfs210 := blk_frozen BK282.out 1
        have hns210_0 := NB251_282.out
        have hns210_1 := NB252_282.out
        have hns210_2 := NB253_282.out
        have hns210_3 := NB260_282.out
        have hms210_0 := NB282_251.out
        have hms210_1 := NB282_252.out
        have hms210_2 := NB282_253.out
        have hms210_3 := NB282_260.out
        have hs211 : w208.cell? ⟨gb282, 2, none⟩ = some (.int .i64 0) := bc_ BK282 2
        have hfs211 := blk_frozen BK282.out 2
        have hns211_0 := NB251_282.out
        have hns211_1 := NB252_282.out
        have hns211_2 := NB253_282.out
        have hns211_3 := NB260_282.out
        have hms211_0 := NB282_251.out
        have hms211_1 := NB282_252.out
        have hms211_2 := NB282_253.out
        have hms211_3 := NB282_260.out
        have hs212 : w208.cell? ⟨gb282, 3, none⟩ = some (.int .i64 0) := bc_ BK282 3
        have hfs212 := blk_frozen BK282.out 3
        have hns212_0 := NB251_282.out
        have hns212_1 := NB252_282.out
        have hns212_2 := NB253_282.out
        have hns212_3 := NB260_282.out
        have hms212_0 := NB282_251.out
        have hms212_1 := NB282_252.out
        have hms212_2 := NB282_253.out
        have hms212_3 := NB282_260.out
        have hs213 : w208.cell? ⟨gb282, 4, none⟩ = some (.int .i64 0) := bc_ BK282 4
        have hfs213 := blk_frozen BK282.out 4
        have hns213_0 := NB251_282.out
        have hns213_1 := NB252_282.out
        have hns213_2 := NB253_282.out
        have hns213_3 := NB260_282.out
        have hms213_0 := NB282_251.out
        have hms213_1 := NB282_252.out
        have hms213_2 := NB282_253.out
        have hms213_3 := NB282_260.out
        refine skip_ (w1 := ?_) (by rfl) rfl ?_ ?_
        rotate_left
        ·go_simp
         rfl
        refine hK.out _ _ ⟨((cn_ NB251_282).trans (((cn_ NB251_282).trans (((cn_ NB251_282).trans (((cn_ NB251_282).trans (((cn_ NB251_282).trans (hHeld.1)))))))))), ((cn_ NB251_282).trans (((cn_ NB251_282).trans (((cn_ NB251_282).trans (((cn_ NB251_282).trans (((cn_ NB251_282).trans (hHeld.2.1)))))))))), ((cn_ NB251_282).trans (((cn_ NB251_282).trans (((cn_ NB251_282).trans (((cn_ NB251_282).trans (((cn_ NB251_282).trans (hHeld.2.2.1)))))))))), ((cn_ NB251_282).trans (((cn_ NB251_282).trans (((cn_ NB251_282).trans (((cn_ NB251_282).trans (((cn_ NB251_282).trans (hHeld.2.2.2.1)))))))))), ((cn_ NB252_282).trans (((cn_ NB252_282).trans (((cn_ NB252_282).trans (((cn_ NB252_282).trans (((cn_ NB252_282).trans (hHeld.2.2.2.2.1)))))))))), ((cn_ NB252_282).trans (((cn_ NB252_282).trans (((cn_ NB252_282).trans (((cn_ NB252_282).trans (((cn_ NB252_282).trans (hHeld.2.2.2.2.2.1)))))))))), ((cn_ NB252_282).trans (((cn_ NB252_282).trans (((cn_ NB252_282).trans (((cn_ NB252_282).trans (((cn_ NB252_282).trans (hHeld.2.2.2.2.2.2.1)))))))))), ((cf_ hw275_0 GW282).trans (((cf_ hw275_0 GW282).trans (((cf_ hw275_0 GW282).trans (((cf_ hw275_0 GW282).trans (((cf_ hw275_0 GW282).trans (hHeld.2.2.2.2.2.2.2.1)))))))))), ((cf_ hw275_1 GW282).trans (((cf_ hw275_1 GW282).trans (((cf_ hw275_1 GW282).trans (((cf_ hw275_1 GW282).trans (((cf_ hw275_1 GW282).trans (hHeld.2.2.2.2.2.2.2.2.1)))))))))), ((cf_ hw275_2 GW282).trans (((cf_ hw275_2 GW282).trans (((cf_ hw275_2 GW282).trans (((cf_ hw275_2 GW282).trans (((cf_ hw275_2 GW282).trans (hHeld.2.2.2.2.2.2.2.2.2.1)))))))))), ((cf_ hw275_3 GW282).trans (((cf_ hw275_3 GW282).trans (((cf_ hw275_3 GW282).trans (((cf_ hw275_3 GW282).trans (((cf_ hw275_3 GW282).trans (hHeld.2.2.2.2.2.2.2.2.2.2.1)))))))))), ((cf_ hw275_4 GW282).trans (((cf_ hw275_4 GW282).trans (((cf_ hw275_4 GW282).trans (((cf_ hw275_4 GW282).trans (((cf_ hw275_4 GW282).trans (hHeld.2.2.2.2.2.2.2.2.2.2.2))))))))))⟩ (fun hHeld => ?_)
        clear hK K
        refine pureA (N := some 8) 15 HT_ ?_
        refine done_ (done_of HT_.out (by kernel_rfl)) ?_
        have n0_ : Aside0 (Kd.R k34 34 (((((w208.setCell ⟨gb282, 0, none⟩ (.int .i64 t276)).setCell ⟨gb282, 1, none⟩ (.int .i64 t277)).setCell ⟨gb282, 2, none⟩ (.int .i64 t278)).setCell ⟨gb282, 3, none⟩ (.int .i64 t279)).setCell ⟨gb282, 4, none⟩ (.int .i64 t280)) w.heap.size (fun k_ => k_ ≠ gb282) (.slice Ao201 t256.length co201) t256) := ⟨by exact rf_ (Kd.R_mono HO258.out (fun k_ hk => (⟨hk, hk⟩ : _ ∧ k_ ≠ gb282))) (fun _ hk => hk.1)⟩
        have n1_ : Aside0 ((((((w208.setCell ⟨gb282, 0, none⟩ (.int .i64 t276)).setCell ⟨gb282, 1, none⟩ (.int .i64 t277)).setCell ⟨gb282, 2, none⟩ (.int .i64 t278)).setCell ⟨gb282, 3, none⟩ (.int .i64 t279)).setCell ⟨gb282, 4, none⟩ (.int .i64 t280)).heap[gb251]? = some (.cells #[.int .i64 a0_0, .int .i64 a0_1, .slice (some ad275) l0_2.length c0_2, .int .i64 a0_3] 24 (0, 0))) := ⟨bk_ BK251⟩
        have n2_ : Aside0 ((((((w208.setCell ⟨gb282, 0, none⟩ (.int .i64 t276)).setCell ⟨gb282, 1, none⟩ (.int .i64 t277)).setCell ⟨gb282, 2, none⟩ (.int .i64 t278)).setCell ⟨gb282, 3, none⟩ (.int .i64 t279)).setCell ⟨gb282, 4, none⟩ (.int .i64 t280)).heap[gb252]? = some (.cells #[.int .i64 a1_0, .int .i64 a1_1, .int .i64 a1_2] 30 (0, 0))) := ⟨bk_ BK252⟩
        have n3_ : Aside0 ((((((w208.setCell ⟨gb282, 0, none⟩ (.int .i64 t276)).setCell ⟨gb282, 1, none⟩ (.int .i64 t277)).setCell ⟨gb282, 2, none⟩ (.int .i64 t278)).setCell ⟨gb282, 3, none⟩ (.int .i64 t279)).setCell ⟨gb282, 4, none⟩ (.int .i64 t280)).heap[gb253]? = some (.cells #[.int .i64 0, .int .i64 0, .slice none 0 0, .int .i64 0] 24 (0, 0))) := ⟨bk_ BK253⟩
        have n4_ : Aside0 ((((((w208.setCell ⟨gb282, 0, none⟩ (.int .i64 t276)).setCell ⟨gb282, 1, none⟩ (.int .i64 t277)).setCell ⟨gb282, 2, none⟩ (.int .i64 t278)).setCell ⟨gb282, 3, none⟩ (.int .i64 t279)).setCell ⟨gb282, 4, none⟩ (.int .i64 t280)).heap[gb260]? = some (.cells #[.int .i64 t254, .int .i64 t255, .slice Ao201 t256.length co201, .int .i64 t259] 24 (0, 0))) := ⟨bk_ BK260⟩
        have n5_ : Aside0 ((((((w208.setCell ⟨gb282, 0, none⟩ (.int .i64 t276)).setCell ⟨gb282, 1, none⟩ (.int .i64 t277)).setCell ⟨gb282, 2, none⟩ (.int .i64 t278)).setCell ⟨gb282, 3, none⟩ (.int .i64 t279)).setCell ⟨gb282, 4, none⟩ (.int .i64 t280)).heap[gb282]? = some (.cells #[.int .i64 t276, .int .i64 t277, .int .i64 t278, .int .i64 t279, .int .i64 t280] 34 (0, 0))) := ⟨bq_ BK282⟩
        have n6_ : Aside0 (Below w.heap.size w (((((w208.setCell ⟨gb282, 0, none⟩ (.int .i64 t276)).setCell ⟨gb282, 1, none⟩ (.int .i64 t277)).setCell ⟨gb282, 2, none⟩ (.int .i64 t278)).setCell ⟨gb282, 3, none⟩ (.int .i64 t279)).setCell ⟨gb282, 4, none⟩ (.int .i64 t280))) := ⟨(bw_ w)⟩
        (try clear HO258)
        (try clear BK251)
        (try clear BK252)
        (try clear BK253)
        (try clear BK260)
        (try clear BK282)
        (try clear HB)
        generalize (((((w208.setCell ⟨gb282, 0, none⟩ (.int .i64 t276)).setCell ⟨gb282, 1, none⟩ (.int .i64 t277)).setCell ⟨gb282, 2, none⟩ (.int .i64 t278)).setCell ⟨gb282, 3, none⟩ (.int .i64 t279)).setCell ⟨gb282, 4, none⟩ (.int .i64 t280)) = w214 at n0_ n1_ n2_ n3_ n4_ n5_ n6_ ⊢
        have HO258 := n0_
        have BK251 := n1_
        have BK252 := n2_
        have BK253 := n3_
        have BK260 := n4_
        have BK282 := n5_
        have HB := n6_
        clear n0_ n1_ n2_ n3_ n4_ n5_ n6_
        have hnb215 := NB260_282.out
        have hnc215 := NB282_260.out
        obtain ⟨hcz216_0, hcz216_1, hcz216_2, hcz216_3, hfz216_0, hfz216_1, hfz216_2, hfz216_3⟩ := bc4_ (w := w214) BK260
        have hnb217 := NB252_282.out
        have hnc217 := NB282_252.out
        obtain ⟨hcz218_0, hcz218_1, hcz218_2, hfz218_0, hfz218_1, hfz218_2⟩ := bc3_ (w := w214) BK252
        have hnb219 := NB282_251.out
        have hnc219 := NB251_282.out
        have hnb220 := NB282_253.out
        have hnc220 := NB253_282.out
        obtain ⟨hcz221_0, hcz221_1, hcz221_2, hcz221_3, hcz221_4, hfz221_0, hfz221_1, hfz221_2, hfz221_3, hfz221_4⟩ := bc5_ (w := w214) BK282
        have p186 : 0 ≤ (a1_1 : Int) := of_decide_eq_true (by first | (with_reducible assumption) | assumption)
        have q186 : (a1_1 : Int) < ((t256.length : Int) : Int) := of_decide_eq_true (by first | (with_reducible assumption) | assumption)
        obtain ⟨go186, co186, eo186, gb186, gl186, cl186, HG186⟩ := Kd.R_form HO258.out (by omega)
        (first | cases eo186 | (injection eo186 with ea_ en_ ec_; (first | subst ea_ | (injection ea_ with ea_; subst ea_)); subst ec_; clear en_))
        have GB186 := Aside0.mk gb186
        have GG186 := Aside0.mk HG186
        clear gb186 gl186 HG186
        obtain ⟨ce186, hcl186, hM186, hcc186, hfr186⟩ := Kd.R_elem HO258.out z34 (a1_1 : Int) p186 q186
        obtain rfl := k34_openM hM186
        have hx186_0 : w214.cell? ⟨go186, (a1_1 : Int).toNat * 5, none⟩ = some (.int .i64 ((rd_T34 t256 a1_1).f0)) := hcc186 0 _ rfl
        have hx186_1 : w214.cell? ⟨go186, (a1_1 : Int).toNat * 5 + 1, none⟩ = some (.int .i64 ((rd_T34 t256 a1_1).f1)) := hcc186 1 _ rfl
        have hx186_2 : w214.cell? ⟨go186, (a1_1 : Int).toNat * 5 + 2, none⟩ = some (.int .i64 ((rd_T34 t256 a1_1).f2)) := hcc186 2 _ rfl
        have hx186_3 : w214.cell? ⟨go186, (a1_1 : Int).toNat * 5 + 3, none⟩ = some (.int .i64 ((rd_T34 t256 a1_1).f3)) := hcc186 3 _ rfl
        have hx186_4 : w214.cell? ⟨go186, (a1_1 : Int).toNat * 5 + 4, none⟩ = some (.int .i64 ((rd_T34 t256 a1_1).f4)) := hcc186 4 _ rfl
        have hf186_0 : w214.frozen? ⟨go186, (a1_1 : Int).toNat * 5, none⟩ = false := hfr186 0
        have hf186_1 : w214.frozen? ⟨go186, (a1_1 : Int).toNat * 5 + 1, none⟩ = false := hfr186 1
        have hf186_2 : w214.frozen? ⟨go186, (a1_1 : Int).toNat * 5 + 2, none⟩ = false := hfr186 2
        have hf186_3 : w214.frozen? ⟨go186, (a1_1 : Int).toNat * 5 + 3, none⟩ = false := hfr186 3
        have hf186_4 : w214.frozen? ⟨go186, (a1_1 : Int).toNat * 5 + 4, none⟩ = false := hfr186 4
        clear hcl186 hcc186 hfr186 hM186
        replace p186 := eq_true p186
        replace q186 := eq_true q186
        have HX222 := Aside0.mk (show Kd.R k34 34 w214 w.heap.size (fun k_ => k_ ≠ gb282) (.slice (some ⟨go186, 0, none⟩) t256.length co201) t256 from (ra_ HO258))
        obtain ⟨ce222, hcl222, hM222, hcc222, hfr222⟩ := Kd.R_elem HX222.out z34 (a1_1 : Int) (of_decide_eq_true (by first | (with_reducible assumption) | assumption)) (by have h_ : (a1_1 : Int) < ((t256.length : Int) : Int) := of_decide_eq_true (by first | (with_reducible assumption) | assumption); first | exact h_ | (have e_ := (Kd.R_reads' HO258.out).1; omega) | simpa using h_)
        obtain rfl := k34_openM hM222
        have HP222 := Kd.R_seg HX222.out (a1_1 : Int) (of_decide_eq_true (by first | (with_reducible assumption) | assumption)) (by have h_ : (a1_1 : Int) < ((t256.length : Int) : Int) := of_decide_eq_true (by first | (with_reducible assumption) | assumption); first | exact h_ | (have e_ := (Kd.R_reads' HO258.out).1; omega) | simpa using h_) (seg := [.int .i64 t276, .int .i64 t277, .int .i64 t278, .int .i64 t279, .int .i64 t280]) (j := 0) hcl222 hcc222 (show 5 ≤ 5 from by decide) (x' := (⟨t276, t277, t278, t279, t280⟩ : S34)) (k34_mkM _ _ _ (⟨t276, t277, t278, t279, t280⟩ : S34) ) (fun _ hk => hk)
        have hx222_0 := hcc222 0 _ rfl
        (try simp only [show (k34).sz = 5 from rfl, Nat.mul_one, Nat.add_zero] at hx222_0)
        have hf222_0 := hfr222 0
        (try simp only [show (k34).sz = 5 from rfl, Nat.mul_one, Nat.add_zero] at hf222_0)
        have hx222_1 := hcc222 1 _ rfl
        (try simp only [show (k34).sz = 5 from rfl, Nat.mul_one, Nat.add_zero] at hx222_1)
        have hf222_1 := hfr222 1
        (try simp only [show (k34).sz = 5 from rfl, Nat.mul_one, Nat.add_zero] at hf222_1)
        have hx222_2 := hcc222 2 _ rfl
        (try simp only [show (k34).sz = 5 from rfl, Nat.mul_one, Nat.add_zero] at hx222_2)
        have hf222_2 := hfr222 2
        (try simp only [show (k34).sz = 5 from rfl, Nat.mul_one, Nat.add_zero] at hf222_2)
        have hx222_3 := hcc222 3 _ rfl
        (try simp only [show (k34).sz = 5 from rfl, Nat.mul_one, Nat.add_zero] at hx222_3)
        have hf222_3 := hfr222 3
        (try simp only [show (k34).sz = 5 from rfl, Nat.mul_one, Nat.add_zero] at hf222_3)
        have hx222_4 := hcc222 4 _ rfl
        (try simp only [show (k34).sz = 5 from rfl, Nat.mul_one, Nat.add_zero] at hx222_4)
        have hf222_4 := hfr222 4
        (try simp only [show (k34).sz = 5 from rfl, Nat.mul_one, Nat.add_zero] at hf222_4)
        clear hcl222 hcc222 hfr222 hM222
        try go_wp2_with (first | ((with_reducible refine gate_store (t := 34) (p := 77) rfl ?_); refine store_event (t := 34) (p := 77) (v := ?vo_w223) (w1 := (((((w214.setCell ⟨go186, (a1_1 : Int).toNat * 5, none⟩ (.int .i64 t276)).setCell ⟨go186, (a1_1 : Int).toNat * 5 + 1, none⟩ (.int .i64 t277)).setCell ⟨go186, (a1_1 : Int).toNat * 5 + 2, none⟩ (.int .i64 t278)).setCell ⟨go186, (a1_1 : Int).toNat * 5 + 3, none⟩ (.int .i64 t279)).setCell ⟨go186, (a1_1 : Int).toNat * 5 + 4, none⟩ (.int .i64 t280))) ?hg ?ho ?hn ?hr ?_; (case ho => rfl); (case hg => rfl); (case hn => rfl); (case hr => first | (go_simp; done) | (go_simp; rfl)); intro w223 hw; have hg : w214.grownBy w223 (some go186) := (by rw [hw]; exact HP222.2); have hp_ : Kd.R k34 34 w223 w.heap.size (fun k_ => k_ ≠ gb282) (.slice (some ⟨go186, 0, none⟩) t256.length co201) y283 := (by rw [hw, Ny283.out]; exact HP222.1); clear HP222; replace BK251 := Aside0.mk (blk_grown (g := gb251) (o := .cells #[.int .i64 a0_0, .int .i64 a0_1, .slice (some ad275) l0_2.length c0_2, .int .i64 a0_3] 24 (0, 0)) (bk_ BK251) hg (Kd.R_ne HO258.out BK251.out (by decide))); replace BK252 := Aside0.mk (blk_grown (g := gb252) (o := .cells #[.int .i64 a1_0, .int .i64 a1_1, .int .i64 a1_2] 30 (0, 0)) (bk_ BK252) hg (Kd.R_ne HO258.out BK252.out (by decide))); replace BK253 := Aside0.mk (blk_grown (g := gb253) (o := .cells #[.int .i64 0, .int .i64 0, .slice none 0 0, .int .i64 0] 24 (0, 0)) (bk_ BK253) hg (Kd.R_ne HO258.out BK253.out (by decide))); replace BK260 := Aside0.mk (blk_grown (g := gb260) (o := .cells #[.int .i64 t254, .int .i64 t255, .slice (some ⟨go186, 0, none⟩) t256.length co201, .int .i64 t259] 24 (0, 0)) (bk_ BK260) hg (Kd.R_ne HO258.out BK260.out (by decide))); replace BK282 := Aside0.mk (blk_grown (g := gb282) (o := .cells #[.int .i64 t276, .int .i64 t277, .int .i64 t278, .int .i64 t279, .int .i64 t280] 34 (0, 0)) (bk_ BK282) hg (Kd.R_away HO258.out (fun _ hk => hk))); replace HO258 := Aside0.mk (hp_); replace HB := Aside0.mk ((by rw [hw]; exact below_set (below_set (below_set (below_set (below_set (HB.out) GB186.out) GB186.out) GB186.out) GB186.out) GB186.out : Below w.heap.size w w223)); clear hg hw hp_))
        replace HO258 := Aside0.mk (Kd.R_drew HO258.out)
        replace BK251 := Aside0.mk (blk_drew BK251.out)
        replace BK252 := Aside0.mk (blk_drew BK252.out)
        replace BK253 := Aside0.mk (blk_drew BK253.out)
        replace BK260 := Aside0.mk (blk_drew BK260.out)
        replace BK282 := Aside0.mk (blk_drew BK282.out)
        replace HB := Aside0.mk (below_drew1 HB.out)
        refine start_ (n := 8) (S := fun w' => w'.cell? ⟨gb260, 0, none⟩ = some (.int .i64 t254) ∧ w'.cell? ⟨gb260, 1, none⟩ = some (.int .i64 t255) ∧ w'.cell? ⟨gb260, 2, none⟩ = some (.slice (some ⟨go186, 0, none⟩) t256.length co201) ∧ w'.cell? ⟨gb260, 3, none⟩ = some (.int .i64 t259)) (ds := []) #[false, false, false, false, false, false, false, false] (by kernel_rfl) rfl rfl ⟨bc_ BK260 0, bc_ BK260 1, bc_ BK260 2, bc_ BK260 3⟩ (fun hHeld => ?_); refine with_tabW spec_l25Make.tab17 spec_l25Make.bits17 (fun HT_ HW_ => ?_)
        generalize w223.drew = w224 at HO258 BK251 BK252 BK253 BK260 BK282 HB hHeld ⊢
        refine pureA (N := some 79) 1 HT_ ?_
        refine pureA (N := some 80) 2 HT_ ?_
        refine takeA (N := some 78) 0 HT_ HW_ hHeld ?_
        refine takeA (N := some 81) 3 HT_ HW_ hHeld ?_
        refine oneA (N := some 82) 4 HT_ (fun K hK => ?_)
        refine goes_ Try.func63 (by kernel_rfl) rfl #[.agg #[.int .i64 t254, .int .i64 t255, .slice (some ⟨go186, 0, none⟩) y283.length co201, .int .i64 t259]] (by rfl) rfl rfl (by (try simp only [List.map_toArray, List.map_cons, List.map_nil]); first | done | (rw [show y283.length = t256.length from (Kd.R_reads' HO258.out).1.symm] <;> rfl) | rfl | (simp only [List.length_drop, List.length_take]; rfl)) ?_
        with_reducible refine (spec_l25Good.calls k t254 t255 _ _ y283 t259 t284 _ ?side1 ?side2 A188.out).mono ?_
        (case side1 => exact co_ (Kd.R_reads' HO258.out).2.2)
        (case side2 => rw [show y283.length = t256.length from (Kd.R_reads' HO258.out).1.symm]; exact (Kd.R_reads' HO258.out).2.1)
        rintro e w225 ⟨rfl, hb⟩
        refine ⟨_, rfl, ?_⟩
        replace HO258 := Aside0.mk (Kd.R_below (ra_ HO258) hb)
        replace BK251 := bb_ BK251 hb
        replace BK252 := bb_ BK252 hb
        replace BK253 := bb_ BK253 hb
        replace BK260 := bb_ BK260 hb
        replace BK282 := bb_ BK282 hb
        replace HB := hb_ w hb
        clear hb
        refine hK.out _ _ ⟨bc_ BK260 0, bc_ BK260 1, bc_ BK260 2, bc_ BK260 3⟩ (fun hHeld => ?_)
        clear hK K
        refine normA (N := some 82) ?_
        refine pureA (N := some 83) 5 HT_ ?_
        refine oneA (N := none) 6 HT_ (fun K hK => ?_)
        have hs226 : w225.cell? ⟨gb253, 0, none⟩ = some (.int .i64 0) := bc_ BK253 0
        have hfs226 := blk_frozen BK253.out 0
        have hns226_0 := NB251_253.out
        have hns226_1 := NB252_253.out
        have hns226_3 := NB260_253.out
        have hns226_4 := NB282_253.out
        have hms226_0 := NB253_251.out
        have hms226_1 := NB253_252.out
        have hms226_3 := NB253_260.out
        have hms226_4 := NB253_282.out
        have hs227 : w225.cell? ⟨gb253, 1, none⟩ = some (.int .i64 0) := bc_ BK253 1
        have hfs227 := blk_frozen BK253.out 1
        have hns227_0 := NB251_253.out
        have hns227_1 := NB252_253.out
        have hns227_3 := NB260_253.out
        have hns227_4 := NB282_253.out
        have hms227_0 := NB253_251.out
        have hms227_1 := NB253_252.out
        have hms227_3 := NB253_260.out
        have hms227_4 := NB253_282.out
        have hs228 : w225.cell? ⟨gb253, 2, none⟩ = some (.slice none 0 0) := bc_ BK253 2
        have hfs228 := blk_frozen BK253.out 2
        have hns228_0 := NB251_253.out
        have hns228_1 := NB252_253.out
        have hns228_3 := NB260_253.out
        have hns228_4 := NB282_253.out
        have hms228_0 := NB253_251.out
        have hms228_1 := NB253_252.out
        have hms228_3 := NB253_260.out
        have hms228_4 := NB253_282.out
        have hs229 : w225.cell? ⟨gb253, 3, none⟩ = some (.int .i64 0) := bc_ BK253 3
        have hfs229 := blk_frozen BK253.out 3
        have hns229_0 := NB251_253.out
        have hns229_1 := NB252_253.out
        have hns229_3 := NB260_253.out
        have hns229_4 := NB282_253.out
        have hms229_0 := NB253_251.out
        have hms229_1 := NB253_252.out
        have hms229_3 := NB253_260.out
        have hms229_4 := NB253_282.out
        refine skip_ (w1 := ?_) (by rfl) rfl ?_ ?_
        rotate_left
        ·go_simp
         rfl
        refine hK.out _ _ ⟨((cn_ NB260_253).trans (((cn_ NB260_253).trans (((cn_ NB260_253).trans (((cn_ NB260_253).trans (hHeld.1)))))))), ((cn_ NB260_253).trans (((cn_ NB260_253).trans (((cn_ NB260_253).trans (((cn_ NB260_253).trans (hHeld.2.1)))))))), ((cn_ NB260_253).trans (((cn_ NB260_253).trans (((cn_ NB260_253).trans (((cn_ NB260_253).trans (hHeld.2.2.1)))))))), ((cn_ NB260_253).trans (((cn_ NB260_253).trans (((cn_ NB260_253).trans (((cn_ NB260_253).trans (hHeld.2.2.2))))))))⟩ (fun hHeld => ?_)
        clear hK K
        refine pureA (N := some 5) 7 HT_ ?_
        refine done_ (done_of HT_.out (by kernel_rfl)) ?_
        try go_wp2
        refine bodyPost_ret (results_ct rfl _ _ gb253 24 #[.int .i64 t254, .int .i64 t255, .slice (some ⟨go186, 0, none⟩) t256.length co201, .int .i64 t259] (0, 0) _ rfl (bq_ BK253) Try.underlying24 rfl (by kernel_rfl)) rfl ?_
        exact ⟨_, by first | rfl | (simp [errW_none, errW_some] <;> rfl) | (simp [*, errW_none, errW_some] <;> rfl), by exact rf_ (Kd.R_types HO258.out BK253.out (by decide)) (fun _ hk => trivial), (bw_ w)⟩
       ·replace c187 := Bool.eq_false_iff.mpr c187
        subst c187
        rw [if_neg (show ¬ (false = true) by decide)] at H
        simp only [Option.some.injEq, Prod.mk.injEq] at H
        obtain ⟨rfl, rfl, rfl, rfl, rfl⟩ := H
        go_enter Try.func66, Try.ntmps66
        try go_wp2_with (first | ((with_reducible refine gate_dst (N := 2) rfl ?_); refine box_ (N := 2) (cs := #[.int .i64 a0_0, .int .i64 a0_1, .slice A0_2 l0_2.length c0_2, .int .i64 a0_3]) (t := 24) ?_; intro gb251 hg w230 hbox hb; have BK251 := Aside0.mk (hbox); have GW251 := gz_ w hg; have GE251 := gz_ w hg; replace HB := hb_ w hb; clear hb hbox hg) | ((with_reducible refine gate_dst (N := 3) rfl ?_); refine box_ (N := 3) (cs := #[.int .i64 a1_0, .int .i64 a1_1, .int .i64 a1_2]) (t := 30) ?_; intro gb252 hg w231 hbox hb; have BK252 := Aside0.mk (hbox); have GW252 := gz_ w hg; have GE252 := gz_ w hg; have NB251_252 := ne_ hg BK251; have NB252_251 := en_ hg BK251; replace BK251 := bb_ BK251 hb; replace HB := hb_ w hb; clear hb hbox hg) | ((with_reducible refine gate_dst (N := 4) rfl ?_); refine box_ (N := 4) (cs := #[.int .i64 0, .int .i64 0, .slice none 0 0, .int .i64 0]) (t := 24) ?_; intro gb253 hg w232 hbox hb; have BK253 := Aside0.mk (hbox); have GW253 := gz_ w hg; have GE253 := gz_ w hg; have NB251_253 := ne_ hg BK251; have NB253_251 := en_ hg BK251; have NB252_253 := ne_ hg BK252; have NB253_252 := en_ hg BK252; replace BK251 := bb_ BK251 hb; replace BK252 := bb_ BK252 hb; replace HB := hb_ w hb; clear hb hbox hg; have hnb233 := NB251_252.out; have hnc233 := NB252_251.out; have hnb234 := NB251_253.out; have hnc234 := NB253_251.out; obtain ⟨hcz235_0, hcz235_1, hcz235_2, hcz235_3, hfz235_0, hfz235_1, hfz235_2, hfz235_3⟩ := bc4_ (w := w232) BK251) | ((with_reducible refine gate_callee (f := 64) rfl ?_); refine goesB (some 10) Try.func64 #[.agg #[.int .i64 a0_0, .int .i64 a0_1, .slice A0_2 l0_2.length c0_2, .int .i64 a0_3]] ?_; (with_reducible refine (spec_l25Own.calls a0_0 a0_1 _ _ l0_2 a0_3 t254 t255 t256 t259 _ ?side1 ?side2 A3.out).mono ?_); (case side1 => exact cb_ HR0_2 HB); (case side2 => exact HC0_2.out); rintro e w236 ⟨v257, rfl, ho0, hb⟩; refine ⟨_, rfl, ?_⟩; have HO258 := Aside0.mk (Kd.R_lower ho0 (below_size (bw_ w))); replace BK251 := bb_ BK251 hb; replace BK252 := bb_ BK252 hb; replace BK253 := bb_ BK253 hb; replace HB := hb_ w hb; (try clear hb); (try clear hb2); (try clear hk); (try clear hi); (try clear ho0)) | ((with_reducible refine gate_dst (N := 6) rfl ?_); refine box_ (N := 6) (cs := #[.int .i64 0, .int .i64 0, .slice none 0 0, .int .i64 0]) (t := 24) ?_; intro gb260 hg w237 hbox hb; have BK260 := Aside0.mk (hbox); have GW260 := gz_ w hg; have GE260 := gz_ w hg; have NB251_260 := ne_ hg BK251; have NB260_251 := en_ hg BK251; have NB252_260 := ne_ hg BK252; have NB260_252 := en_ hg BK252; have NB253_260 := ne_ hg BK253; have NB260_253 := en_ hg BK253; replace HO258 := Aside0.mk (Kd.R_below (ra_ HO258) hb); replace BK251 := bb_ BK251 hb; replace BK252 := bb_ BK252 hb; replace BK253 := bb_ BK253 hb; replace HB := hb_ w hb; clear hb hbox hg; have hnb238 := NB260_251.out; have hnc238 := NB251_260.out; have hnb239 := NB260_252.out; have hnc239 := NB252_260.out; have hnb240 := NB260_253.out; have hnc240 := NB253_260.out; obtain ⟨hcz241_0, hcz241_1, hcz241_2, hcz241_3, hfz241_0, hfz241_1, hfz241_2, hfz241_3⟩ := bc4_ (w := w237) BK260; obtain ⟨Ao242, co242, eo242⟩ := Kd.R_slice HO258.out; subst eo242; have hnb243 := NB252_253.out; have hnc243 := NB253_252.out; obtain ⟨hcz244_0, hcz244_1, hcz244_2, hfz244_0, hfz244_1, hfz244_2⟩ := bc3_ (w := w237) BK252))
        have n0_ : Aside0 (Kd.R k34 34 ((((w237.setCell ⟨gb260, 0, none⟩ (.int .i64 t254)).setCell ⟨gb260, 1, none⟩ (.int .i64 t255)).setCell ⟨gb260, 2, none⟩ (.slice Ao242 t256.length co242)).setCell ⟨gb260, 3, none⟩ (.int .i64 t259)) w.heap.size (fun _ => True) (.slice Ao242 t256.length co242) t256) := ⟨by exact rf_ (Kd.R_types HO258.out BK260.out (by decide)) (fun _ hk => trivial)⟩
        have n1_ : Aside0 (((((w237.setCell ⟨gb260, 0, none⟩ (.int .i64 t254)).setCell ⟨gb260, 1, none⟩ (.int .i64 t255)).setCell ⟨gb260, 2, none⟩ (.slice Ao242 t256.length co242)).setCell ⟨gb260, 3, none⟩ (.int .i64 t259)).heap[gb251]? = some (.cells #[.int .i64 a0_0, .int .i64 a0_1, .slice A0_2 l0_2.length c0_2, .int .i64 a0_3] 24 (0, 0))) := ⟨bk_ BK251⟩
        have n2_ : Aside0 (((((w237.setCell ⟨gb260, 0, none⟩ (.int .i64 t254)).setCell ⟨gb260, 1, none⟩ (.int .i64 t255)).setCell ⟨gb260, 2, none⟩ (.slice Ao242 t256.length co242)).setCell ⟨gb260, 3, none⟩ (.int .i64 t259)).heap[gb252]? = some (.cells #[.int .i64 a1_0, .int .i64 a1_1, .int .i64 a1_2] 30 (0, 0))) := ⟨bk_ BK252⟩
        have n3_ : Aside0 (((((w237.setCell ⟨gb260, 0, none⟩ (.int .i64 t254)).setCell ⟨gb260, 1, none⟩ (.int .i64 t255)).setCell ⟨gb260, 2, none⟩ (.slice Ao242 t256.length co242)).setCell ⟨gb260, 3, none⟩ (.int .i64 t259)).heap[gb253]? = some (.cells #[.int .i64 0, .int .i64 0, .slice none 0 0, .int .i64 0] 24 (0, 0))) := ⟨bk_ BK253⟩
        have n4_ : Aside0 (((((w237.setCell ⟨gb260, 0, none⟩ (.int .i64 t254)).setCell ⟨gb260, 1, none⟩ (.int .i64 t255)).setCell ⟨gb260, 2, none⟩ (.slice Ao242 t256.length co242)).setCell ⟨gb260, 3, none⟩ (.int .i64 t259)).heap[gb260]? = some (.cells #[.int .i64 t254, .int .i64 t255, .slice Ao242 t256.length co242, .int .i64 t259] 24 (0, 0))) := ⟨bq_ BK260⟩
        have n5_ : Aside0 (Below w.heap.size w ((((w237.setCell ⟨gb260, 0, none⟩ (.int .i64 t254)).setCell ⟨gb260, 1, none⟩ (.int .i64 t255)).setCell ⟨gb260, 2, none⟩ (.slice Ao242 t256.length co242)).setCell ⟨gb260, 3, none⟩ (.int .i64 t259))) := ⟨(bw_ w)⟩
        (try clear HO258)
        (try clear BK251)
        (try clear BK252)
        (try clear BK253)
        (try clear BK260)
        (try clear HB)
        generalize ((((w237.setCell ⟨gb260, 0, none⟩ (.int .i64 t254)).setCell ⟨gb260, 1, none⟩ (.int .i64 t255)).setCell ⟨gb260, 2, none⟩ (.slice Ao242 t256.length co242)).setCell ⟨gb260, 3, none⟩ (.int .i64 t259)) = w245 at n0_ n1_ n2_ n3_ n4_ n5_ ⊢
        have HO258 := n0_
        have BK251 := n1_
        have BK252 := n2_
        have BK253 := n3_
        have BK260 := n4_
        have HB := n5_
        clear n0_ n1_ n2_ n3_ n4_ n5_
        replace HO258 := Aside0.mk (Kd.R_drew HO258.out)
        replace BK251 := Aside0.mk (blk_drew BK251.out)
        replace BK252 := Aside0.mk (blk_drew BK252.out)
        replace BK253 := Aside0.mk (blk_drew BK253.out)
        replace BK260 := Aside0.mk (blk_drew BK260.out)
        replace HB := Aside0.mk (below_drew1 HB.out)
        have p275 : 0 ≤ (a1_1 : Int) := of_decide_eq_true (by first | (with_reducible assumption) | assumption)
        have q275 : a1_1 < (l0_2.length : Int) := of_decide_eq_true (by first | (with_reducible assumption) | assumption)
        obtain ⟨ad275, e275, hx275_0, hx275_1, hx275_2, hx275_3, hx275_4⟩ := at_T34 HR0_2.out a1_1 p275 q275
        have hw275_4 := hx275_4
        have hw275_3 := hx275_3
        have hw275_2 := hx275_2
        have hw275_1 := hx275_1
        have hw275_0 := hx275_0
        cases e275
        replace hx275_0 := (HB.out.cell (World.block_lt_of_cell? w _ hx275_0)).trans hx275_0
        replace hx275_1 := (HB.out.cell (World.block_lt_of_cell? w _ hx275_1)).trans hx275_1
        replace hx275_2 := (HB.out.cell (World.block_lt_of_cell? w _ hx275_2)).trans hx275_2
        replace hx275_3 := (HB.out.cell (World.block_lt_of_cell? w _ hx275_3)).trans hx275_3
        replace hx275_4 := (HB.out.cell (World.block_lt_of_cell? w _ hx275_4)).trans hx275_4
        replace p275 := eq_true p275
        replace q275 := eq_true q275
        refine start_ (n := 16) (S := fun w' => w'.cell? ⟨gb251, 0, none⟩ = some (.int .i64 a0_0) ∧ w'.cell? ⟨gb251, 1, none⟩ = some (.int .i64 a0_1) ∧ w'.cell? ⟨gb251, 2, none⟩ = some (.slice (some ad275) l0_2.length c0_2) ∧ w'.cell? ⟨gb251, 3, none⟩ = some (.int .i64 a0_3) ∧ w'.cell? ⟨gb252, 0, none⟩ = some (.int .i64 a1_0) ∧ w'.cell? ⟨gb252, 1, none⟩ = some (.int .i64 a1_1) ∧ w'.cell? ⟨gb252, 2, none⟩ = some (.int .i64 a1_2) ∧ w'.cell? (ad275.add ((a1_1).toNat * 5)) = some (.int .i64 ((rd_T34 l0_2 a1_1).f0)) ∧ w'.cell? ⟨(ad275.add ((a1_1).toNat * 5)).block, (ad275.add ((a1_1).toNat * 5)).off + 1, none⟩ = some (.int .i64 ((rd_T34 l0_2 a1_1).f1)) ∧ w'.cell? ⟨(ad275.add ((a1_1).toNat * 5)).block, (ad275.add ((a1_1).toNat * 5)).off + 2, none⟩ = some (.int .i64 ((rd_T34 l0_2 a1_1).f2)) ∧ w'.cell? ⟨(ad275.add ((a1_1).toNat * 5)).block, (ad275.add ((a1_1).toNat * 5)).off + 3, none⟩ = some (.int .i64 ((rd_T34 l0_2 a1_1).f3)) ∧ w'.cell? ⟨(ad275.add ((a1_1).toNat * 5)).block, (ad275.add ((a1_1).toNat * 5)).off + 4, none⟩ = some (.int .i64 ((rd_T34 l0_2 a1_1).f4))) (ds := []) #[false, false, false, false, false, false, false, false, false, false, false, false, false, false, false, false] (by kernel_rfl) rfl rfl ⟨bc_ BK251 0, bc_ BK251 1, bc_ BK251 2, bc_ BK251 3, bc_ BK252 0, bc_ BK252 1, bc_ BK252 2, (bh_ HB hw275_0 :), (bh_ HB hw275_1 :), (bh_ HB hw275_2 :), (bh_ HB hw275_3 :), (bh_ HB hw275_4 :)⟩ (fun hHeld => ?_); refine with_tabW spec_l25Make.tab15 spec_l25Make.bits15 (fun HT_ HW_ => ?_)
        generalize w245.drew = w246 at HO258 BK251 BK252 BK253 BK260 HB hx275_0 hx275_1 hx275_2 hx275_3 hx275_4 hHeld ⊢
        refine pureA (N := some 60) 0 HT_ ?_
        refine pureA (N := some 62) 2 HT_ ?_
        refine pureA (N := some 67) 7 HT_ ?_
        refine takeA (N := some 61) 1 HT_ HW_ hHeld ?_
        refine takeA (N := some 63) 3 HT_ HW_ hHeld ?_
        refine pureA (N := some 64) 4 HT_ ?_
        refine takeA (N := some 65) 5 HT_ HW_ hHeld ?_
        refine takeA (N := some 66) 6 HT_ HW_ hHeld ?_
        refine takeA (N := some 68) 8 HT_ HW_ hHeld ?_
        refine join_ (σ := Nat) 2 #[true, true, true, true, true, true, true, true, true, true, true, true, true, true, false, false] (fun s_ => [(69, .tuple #[.agg #[.int .i64 t276, .int .i64 t277, .int .i64 t278, .int .i64 t279, .int .i64 t280], .bool false]), (7, .pointer (some ⟨s_, 0, none⟩)), (59, .tuple #[.agg #[.int .i64 t276, .int .i64 t277, .int .i64 t278, .int .i64 t279, .int .i64 t280], .bool false]), (70, .agg #[.int .i64 t276, .int .i64 t277, .int .i64 t278, .int .i64 t279, .int .i64 t280]), (71, .bool false)]) (fun s_ w' => (w'.cell? ⟨gb251, 0, none⟩ = some (.int .i64 a0_0) ∧ w'.cell? ⟨gb251, 1, none⟩ = some (.int .i64 a0_1) ∧ w'.cell? ⟨gb251, 2, none⟩ = some (.slice (some ad275) l0_2.length c0_2) ∧ w'.cell? ⟨gb251, 3, none⟩ = some (.int .i64 a0_3) ∧ w'.cell? ⟨gb252, 0, none⟩ = some (.int .i64 a1_0) ∧ w'.cell? ⟨gb252, 1, none⟩ = some (.int .i64 a1_1) ∧ w'.cell? ⟨gb252, 2, none⟩ = some (.int .i64 a1_2) ∧ w'.cell? (ad275.add ((a1_1).toNat * 5)) = some (.int .i64 ((rd_T34 l0_2 a1_1).f0)) ∧ w'.cell? ⟨(ad275.add ((a1_1).toNat * 5)).block, (ad275.add ((a1_1).toNat * 5)).off + 1, none⟩ = some (.int .i64 ((rd_T34 l0_2 a1_1).f1)) ∧ w'.cell? ⟨(ad275.add ((a1_1).toNat * 5)).block, (ad275.add ((a1_1).toNat * 5)).off + 2, none⟩ = some (.int .i64 ((rd_T34 l0_2 a1_1).f2)) ∧ w'.cell? ⟨(ad275.add ((a1_1).toNat * 5)).block, (ad275.add ((a1_1).toNat * 5)).off + 3, none⟩ = some (.int .i64 ((rd_T34 l0_2 a1_1).f3)) ∧ w'.cell? ⟨(ad275.add ((a1_1).toNat * 5)).block, (ad275.add ((a1_1).toNat * 5)).off + 4, none⟩ = some (.int .i64 ((rd_T34 l0_2 a1_1).f4))) ∧ (Kd.R k34 34 w' w.heap.size (fun k_ => k_ ≠ s_) (.slice Ao242 t256.length co242) t256) ∧ (w'.heap[gb251]? = some (.cells #[.int .i64 a0_0, .int .i64 a0_1, .slice (some ad275) l0_2.length c0_2, .int .i64 a0_3] 24 (0, 0))) ∧ (w'.heap[gb252]? = some (.cells #[.int .i64 a1_0, .int .i64 a1_1, .int .i64 a1_2] 30 (0, 0))) ∧ (w'.heap[gb253]? = some (.cells #[.int .i64 0, .int .i64 0, .slice none 0 0, .int .i64 0] 24 (0, 0))) ∧ (w'.heap[gb260]? = some (.cells #[.int .i64 t254, .int .i64 t255, .slice Ao242 t256.length co242, .int .i64 t259] 24 (0, 0))) ∧ (w'.heap[s_]? = some (.cells #[.int .i64 0, .int .i64 0, .int .i64 0, .int .i64 0, .int .i64 0] 34 (0, 0))) ∧ (w.heap.size ≤ s_) ∧ (w.heap.size ≤ s_) ∧ (gb251 ≠ s_) ∧ (s_ ≠ gb251) ∧ (gb252 ≠ s_) ∧ (s_ ≠ gb252) ∧ (gb253 ≠ s_) ∧ (s_ ≠ gb253) ∧ (gb260 ≠ s_) ∧ (s_ ≠ gb260) ∧ (Below w.heap.size w w')) ?_ ?_
        rotate_left
        ·intro hCont
         refine twoA (Ni := some 69) (Nj := some 7) 9 13 HT_ (fun K hK => ?_) (fun K hK => ?_)
         ·skip
          refine goesA Try.func115 #[.agg #[.int .i64 ((rd_T34 l0_2 a1_1).f0), .int .i64 ((rd_T34 l0_2 a1_1).f1), .int .i64 ((rd_T34 l0_2 a1_1).f2), .int .i64 ((rd_T34 l0_2 a1_1).f3), .int .i64 ((rd_T34 l0_2 a1_1).f4)], .agg #[.int .i64 a1_0, .int .i64 a1_1, .int .i64 a1_2], .int .i64 a0_0] ?_
          with_reducible refine (spec_l25Change.calls ((rd_T34 l0_2 a1_1).f0) ((rd_T34 l0_2 a1_1).f1) ((rd_T34 l0_2 a1_1).f2) ((rd_T34 l0_2 a1_1).f3) ((rd_T34 l0_2 a1_1).f4) a1_0 a1_1 a1_2 a0_0 t276 t277 t278 t279 t280 false _ A184.out).mono ?_
          rintro e w247 ⟨rfl, hb⟩
          refine ⟨_, rfl, ?_⟩
          replace HO258 := Aside0.mk (Kd.R_below (ra_ HO258) hb)
          replace BK251 := bb_ BK251 hb
          replace BK252 := bb_ BK252 hb
          replace BK253 := bb_ BK253 hb
          replace BK260 := bb_ BK260 hb
          replace HB := hb_ w hb
          clear hb
          refine hK.out _ _ ⟨bc_ BK251 0, bc_ BK251 1, bc_ BK251 2, bc_ BK251 3, bc_ BK252 0, bc_ BK252 1, bc_ BK252 2, (bh_ HB hw275_0 :), (bh_ HB hw275_1 :), (bh_ HB hw275_2 :), (bh_ HB hw275_3 :), (bh_ HB hw275_4 :)⟩ (fun hHeld => ?_)
          clear hK K
          refine normA (N := some 69) ?_
          refine pureA (N := some 59) 10 HT_ ?_
          refine pureA (N := some 70) 11 HT_ ?_
          refine pureA (N := some 71) 12 HT_ ?_
          refine oneA (N := some 7) 13 HT_ (fun K hK => ?_)
          refine box_step ?hg (N := 7) ?hd (cs := #[.int .i64 0, .int .i64 0, .int .i64 0, .int .i64 0, .int .i64 0]) (t := 34) ?hr ?_; (case hd => rfl); (case hg => rfl); (case hr => first | (go_simp; done) | (go_simp; rfl))
          intro gb282 hg w248 hbox hb
          have BK282 := Aside0.mk (hbox)
          have GW282 := gz_ w hg
          have GE282 := gz_ w hg
          have NB251_282 := ne_ hg BK251
          have NB282_251 := en_ hg BK251
          have NB252_282 := ne_ hg BK252
          have NB282_252 := en_ hg BK252
          have NB253_282 := ne_ hg BK253
          have NB282_253 := en_ hg BK253
          have NB260_282 := ne_ hg BK260
          have NB282_260 := en_ hg BK260
          replace HO258 := rb_ HO258 hg hb
          replace BK251 := bb_ BK251 hb
          replace BK252 := bb_ BK252 hb
          replace BK253 := bb_ BK253 hb
          replace BK260 := bb_ BK260 hb
          replace HB := hb_ w hb
          clear hb hbox hg
          refine hK.out _ _ ⟨bc_ BK251 0, bc_ BK251 1, bc_ BK251 2, bc_ BK251 3, bc_ BK252 0, bc_ BK252 1, bc_ BK252 2, (bh_ HB hw275_0 :), (bh_ HB hw275_1 :), (bh_ HB hw275_2 :), (bh_ HB hw275_3 :), (bh_ HB hw275_4 :)⟩ (fun hHeld => ?_)
          clear hK K
          refine normA (N := some 7) ?_
          exact norm_ (by simp only [putAll, Act.put, List.setIfInBounds_toArray, List.set_cons_zero, List.set_cons_succ]) (hCont (gb282) _ ⟨hHeld, (by exact rf_ HO258.out (fun _ hk => hk.2)), (bk_ BK251), (bk_ BK252), (bk_ BK253), (bk_ BK260), (bk_ BK282), GW282.out, GE282.out, NB251_282.out, NB282_251.out, NB252_282.out, NB282_252.out, NB253_282.out, NB282_253.out, NB260_282.out, NB282_260.out, (bw_ w)⟩)
         ·skip
          refine box_step ?hg (N := 7) ?hd (cs := #[.int .i64 0, .int .i64 0, .int .i64 0, .int .i64 0, .int .i64 0]) (t := 34) ?hr ?_; (case hd => rfl); (case hg => rfl); (case hr => first | (go_simp; done) | (go_simp; rfl))
          intro gb282 hg w247 hbox hb
          have BK282 := Aside0.mk (hbox)
          have GW282 := gz_ w hg
          have GE282 := gz_ w hg
          have NB251_282 := ne_ hg BK251
          have NB282_251 := en_ hg BK251
          have NB252_282 := ne_ hg BK252
          have NB282_252 := en_ hg BK252
          have NB253_282 := ne_ hg BK253
          have NB282_253 := en_ hg BK253
          have NB260_282 := ne_ hg BK260
          have NB282_260 := en_ hg BK260
          replace HO258 := rb_ HO258 hg hb
          replace BK251 := bb_ BK251 hb
          replace BK252 := bb_ BK252 hb
          replace BK253 := bb_ BK253 hb
          replace BK260 := bb_ BK260 hb
          replace HB := hb_ w hb
          clear hb hbox hg
          refine hK.out _ _ ⟨bc_ BK251 0, bc_ BK251 1, bc_ BK251 2, bc_ BK251 3, bc_ BK252 0, bc_ BK252 1, bc_ BK252 2, (bh_ HB hw275_0 :), (bh_ HB hw275_1 :), (bh_ HB hw275_2 :), (bh_ HB hw275_3 :), (bh_ HB hw275_4 :)⟩ (fun hHeld => ?_)
          clear hK K
          refine normA (N := some 7) ?_
          refine oneA (N := some 69) 9 HT_ (fun K hK => ?_)
          refine goesA Try.func115 #[.agg #[.int .i64 ((rd_T34 l0_2 a1_1).f0), .int .i64 ((rd_T34 l0_2 a1_1).f1), .int .i64 ((rd_T34 l0_2 a1_1).f2), .int .i64 ((rd_T34 l0_2 a1_1).f3), .int .i64 ((rd_T34 l0_2 a1_1).f4)], .agg #[.int .i64 a1_0, .int .i64 a1_1, .int .i64 a1_2], .int .i64 a0_0] ?_
          with_reducible refine (spec_l25Change.calls ((rd_T34 l0_2 a1_1).f0) ((rd_T34 l0_2 a1_1).f1) ((rd_T34 l0_2 a1_1).f2) ((rd_T34 l0_2 a1_1).f3) ((rd_T34 l0_2 a1_1).f4) a1_0 a1_1 a1_2 a0_0 t276 t277 t278 t279 t280 false _ A184.out).mono ?_
          rintro e w248 ⟨rfl, hb⟩
          refine ⟨_, rfl, ?_⟩
          replace HO258 := Aside0.mk (Kd.R_below (ra_ HO258) hb)
          replace BK251 := bb_ BK251 hb
          replace BK252 := bb_ BK252 hb
          replace BK253 := bb_ BK253 hb
          replace BK260 := bb_ BK260 hb
          replace BK282 := bb_ BK282 hb
          replace HB := hb_ w hb
          clear hb
          refine hK.out _ _ ⟨bc_ BK251 0, bc_ BK251 1, bc_ BK251 2, bc_ BK251 3, bc_ BK252 0, bc_ BK252 1, bc_ BK252 2, (bh_ HB hw275_0 :), (bh_ HB hw275_1 :), (bh_ HB hw275_2 :), (bh_ HB hw275_3 :), (bh_ HB hw275_4 :)⟩ (fun hHeld => ?_)
          clear hK K
          refine normA (N := some 69) ?_
          refine pureA (N := some 59) 10 HT_ ?_
          refine pureA (N := some 70) 11 HT_ ?_
          refine pureA (N := some 71) 12 HT_ ?_
          exact norm_ (by simp only [putAll, Act.put, List.setIfInBounds_toArray, List.set_cons_zero, List.set_cons_succ]) (hCont (gb282) _ ⟨hHeld, (by exact rf_ HO258.out (fun _ hk => hk.2)), (bk_ BK251), (bk_ BK252), (bk_ BK253), (bk_ BK260), (bk_ BK282), GW282.out, GE282.out, NB251_282.out, NB282_251.out, NB252_282.out, NB282_252.out, NB253_282.out, NB282_253.out, NB260_282.out, NB282_260.out, (bw_ w)⟩)
        rintro gb282 w249 ⟨hS_, h0_, h1_, h2_, h3_, h4_, h5_, h6_, h7_, h8_, h9_, h10_, h11_, h12_, h13_, h14_, h15_, h16_⟩
        have n0_ : Aside0 (Kd.R k34 34 w249 w.heap.size (fun k_ => k_ ≠ gb282) (.slice Ao242 t256.length co242) t256) := ⟨h0_⟩
        have n1_ : Aside0 (w249.heap[gb251]? = some (.cells #[.int .i64 a0_0, .int .i64 a0_1, .slice (some ad275) l0_2.length c0_2, .int .i64 a0_3] 24 (0, 0))) := ⟨h1_⟩
        have n2_ : Aside0 (w249.heap[gb252]? = some (.cells #[.int .i64 a1_0, .int .i64 a1_1, .int .i64 a1_2] 30 (0, 0))) := ⟨h2_⟩
        have n3_ : Aside0 (w249.heap[gb253]? = some (.cells #[.int .i64 0, .int .i64 0, .slice none 0 0, .int .i64 0] 24 (0, 0))) := ⟨h3_⟩
        have n4_ : Aside0 (w249.heap[gb260]? = some (.cells #[.int .i64 t254, .int .i64 t255, .slice Ao242 t256.length co242, .int .i64 t259] 24 (0, 0))) := ⟨h4_⟩
        have n5_ : Aside0 (w249.heap[gb282]? = some (.cells #[.int .i64 0, .int .i64 0, .int .i64 0, .int .i64 0, .int .i64 0] 34 (0, 0))) := ⟨h5_⟩
        have n6_ : Aside0 (w.heap.size ≤ gb282) := ⟨h6_⟩
        have n7_ : Aside0 (w.heap.size ≤ gb282) := ⟨h7_⟩
        have n8_ : Aside0 (gb251 ≠ gb282) := ⟨h8_⟩
        have n9_ : Aside0 (gb282 ≠ gb251) := ⟨h9_⟩
        have n10_ : Aside0 (gb252 ≠ gb282) := ⟨h10_⟩
        have n11_ : Aside0 (gb282 ≠ gb252) := ⟨h11_⟩
        have n12_ : Aside0 (gb253 ≠ gb282) := ⟨h12_⟩
        have n13_ : Aside0 (gb282 ≠ gb253) := ⟨h13_⟩
        have n14_ : Aside0 (gb260 ≠ gb282) := ⟨h14_⟩
        have n15_ : Aside0 (gb282 ≠ gb260) := ⟨h15_⟩
        have n16_ : Aside0 (Below w.heap.size w w249) := ⟨h16_⟩
        clear HO258
        clear BK251
        clear BK252
        clear BK253
        clear BK260
        clear HB
        clear h0_ h1_ h2_ h3_ h4_ h5_ h6_ h7_ h8_ h9_ h10_ h11_ h12_ h13_ h14_ h15_ h16_
        have HO258 := n0_
        have BK251 := n1_
        have BK252 := n2_
        have BK253 := n3_
        have BK260 := n4_
        have BK282 := n5_
        have GW282 := n6_
        have GE282 := n7_
        have NB251_282 := n8_
        have NB282_251 := n9_
        have NB252_282 := n10_
        have NB282_252 := n11_
        have NB253_282 := n12_
        have NB282_253 := n13_
        have NB260_282 := n14_
        have NB282_260 := n15_
        have HB := n16_
        clear n0_ n1_ n2_ n3_ n4_ n5_ n6_ n7_ n8_ n9_ n10_ n11_ n12_ n13_ n14_ n15_ n16_
        have hHeld : w249.cell? ⟨gb251, 0, none⟩ = some (.int .i64 a0_0) ∧ w249.cell? ⟨gb251, 1, none⟩ = some (.int .i64 a0_1) ∧ w249.cell? ⟨gb251, 2, none⟩ = some (.slice (some ad275) l0_2.length c0_2) ∧ w249.cell? ⟨gb251, 3, none⟩ = some (.int .i64 a0_3) ∧ w249.cell? ⟨gb252, 0, none⟩ = some (.int .i64 a1_0) ∧ w249.cell? ⟨gb252, 1, none⟩ = some (.int .i64 a1_1) ∧ w249.cell? ⟨gb252, 2, none⟩ = some (.int .i64 a1_2) ∧ w249.cell? (ad275.add ((a1_1).toNat * 5)) = some (.int .i64 ((rd_T34 l0_2 a1_1).f0)) ∧ w249.cell? ⟨(ad275.add ((a1_1).toNat * 5)).block, (ad275.add ((a1_1).toNat * 5)).off + 1, none⟩ = some (.int .i64 ((rd_T34 l0_2 a1_1).f1)) ∧ w249.cell? ⟨(ad275.add ((a1_1).toNat * 5)).block, (ad275.add ((a1_1).toNat * 5)).off + 2, none⟩ = some (.int .i64 ((rd_T34 l0_2 a1_1).f2)) ∧ w249.cell? ⟨(ad275.add ((a1_1).toNat * 5)).block, (ad275.add ((a1_1).toNat * 5)).off + 3, none⟩ = some (.int .i64 ((rd_T34 l0_2 a1_1).f3)) ∧ w249.cell? ⟨(ad275.add ((a1_1).toNat * 5)).block, (ad275.add ((a1_1).toNat * 5)).off + 4, none⟩ = some (.int .i64 ((rd_T34 l0_2 a1_1).f4)) := hS_
        refine norm_ (a' := ?_) ?_ ?_
        rotate_left
        ·simp only [putAll, Act.put, List.setIfInBounds_toArray, List.set_cons_zero, List.set_cons_succ]
         rfl
        refine oneA (N := none) 14 HT_ (fun K hK => ?_)
        have hs250 : w249.cell? ⟨gb282, 0, none⟩ = some (.int .i64 0) := bc_ BK282 0
        have hfs250 := blk_frozen BK282.out 0
        have hns250_0 := NB251_282.out
        have hns250_1 := NB252_282.out
        have hns250_2 := NB253_282.out
        have hns250_3 := NB260_282.out
        have hms250_0 := NB282_251.out
        have hms250_1 := NB282_252.out
        have hms250_2 := NB282_253.out
        have hms250_3 := NB282_260.out
        have hs251 : w249.cell? ⟨gb282, 1, none⟩ = some (.int .i64 0) := bc_ BK282 1
        have hfs251 := blk_frozen BK282.out 1
        have hns251_0 := NB251_282.out
        have hns251_1 := NB252_282.out
        have hns251_2 := NB253_282.out
        have hns251_3 := NB260_282.out
        have hms251_0 := NB282_251.out
        have hms251_1 := NB282_252.out
        have hms251_2 := NB282_253.out
        have hms251_3 := NB282_260.out
        have hs252 : w249.cell? ⟨gb282, 2, none⟩ = some (.int .i64 0) := bc_ BK282 2
        have hfs252 := blk_frozen BK282.out 2
        have hns252_0 := NB251_282.out
        have hns252_1 := NB252_282.out
        have hns252_2 := NB253_282.out
        have hns252_3 := NB260_282.out
        have hms252_0 := NB282_251.out
        have hms252_1 := NB282_252.out
        have hms252_2 := NB282_253.out
        have hms252_3 := NB282_260.out
        have hs253 : w249.cell? ⟨gb282, 3, none⟩ = some (.int .i64 0) := bc_ BK282 3
        have hfs253 := blk_frozen BK282.out 3
        have hns253_0 := NB251_282.out
        have hns253_1 := NB252_282.out
        have hns253_2 := NB253_282.out
        have hns253_3 := NB260_282.out
        have hms253_0 := NB282_251.out
        have hms253_1 := NB282_252.out
        have hms253_2 := NB282_253.out
        have hms253_3 := NB282_260.out
        have hs254 : w249.cell? ⟨gb282, 4, none⟩ = some (.int .i64 0) := bc_ BK282 4
        have hfs254 := blk_frozen BK282.out 4
        have hns254_0 := NB251_282.out
        have hns254_1 := NB252_282.out
        have hns254_2 := NB253_282.out
        have hns254_3 := NB260_282.out
        have hms254_0 := NB282_251.out
        have hms254_1 := NB282_252.out
        have hms254_2 := NB282_253.out
        have hms254_3 := NB282_260.out
        refine skip_ (w1 := ?_) (by rfl) rfl ?_ ?_
        rotate_left
        ·go_simp
         rfl
        refine hK.out _ _ ⟨((cn_ NB251_282).trans (((cn_ NB251_282).trans (((cn_ NB251_282).trans (((cn_ NB251_282).trans (((cn_ NB251_282).trans (hHeld.1)))))))))), ((cn_ NB251_282).trans (((cn_ NB251_282).trans (((cn_ NB251_282).trans (((cn_ NB251_282).trans (((cn_ NB251_282).trans (hHeld.2.1)))))))))), ((cn_ NB251_282).trans (((cn_ NB251_282).trans (((cn_ NB251_282).trans (((cn_ NB251_282).trans (((cn_ NB251_282).trans (hHeld.2.2.1)))))))))), ((cn_ NB251_282).trans (((cn_ NB251_282).trans (((cn_ NB251_282).trans (((cn_ NB251_282).trans (((cn_ NB251_282).trans (hHeld.2.2.2.1)))))))))), ((cn_ NB252_282).trans (((cn_ NB252_282).trans (((cn_ NB252_282).trans (((cn_ NB252_282).trans (((cn_ NB252_282).trans (hHeld.2.2.2.2.1)))))))))), ((cn_ NB252_282).trans (((cn_ NB252_282).trans (((cn_ NB252_282).trans (((cn_ NB252_282).trans (((cn_ NB252_282).trans (hHeld.2.2.2.2.2.1)))))))))), ((cn_ NB252_282).trans (((cn_ NB252_282).trans (((cn_ NB252_282).trans (((cn_ NB252_282).trans (((cn_ NB252_282).trans (hHeld.2.2.2.2.2.2.1)))))))))), ((cf_ hw275_0 GW282).trans (((cf_ hw275_0 GW282).trans (((cf_ hw275_0 GW282).trans (((cf_ hw275_0 GW282).trans (((cf_ hw275_0 GW282).trans (hHeld.2.2.2.2.2.2.2.1)))))))))), ((cf_ hw275_1 GW282).trans (((cf_ hw275_1 GW282).trans (((cf_ hw275_1 GW282).trans (((cf_ hw275_1 GW282).trans (((cf_ hw275_1 GW282).trans (hHeld.2.2.2.2.2.2.2.2.1)))))))))), ((cf_ hw275_2 GW282).trans (((cf_ hw275_2 GW282).trans (((cf_ hw275_2 GW282).trans (((cf_ hw275_2 GW282).trans (((cf_ hw275_2 GW282).trans (hHeld.2.2.2.2.2.2.2.2.2.1)))))))))), ((cf_ hw275_3 GW282).trans (((cf_ hw275_3 GW282).trans (((cf_ hw275_3 GW282).trans (((cf_ hw275_3 GW282).trans (((cf_ hw275_3 GW282).trans (hHeld.2.2.2.2.2.2.2.2.2.2.1)))))))))), ((cf_ hw275_4 GW282).trans (((cf_ hw275_4 GW282).trans (((cf_ hw275_4 GW282).trans (((cf_ hw275_4 GW282).trans (((cf_ hw275_4 GW282).trans (hHeld.2.2.2.2.2.2.2.2.2.2.2))))))))))⟩ (fun hHeld => ?_)
        clear hK K
        refine pureA (N := some 8) 15 HT_ ?_
        refine done_ (done_of HT_.out (by kernel_rfl)) ?_
        have n0_ : Aside0 (Kd.R k34 34 (((((w249.setCell ⟨gb282, 0, none⟩ (.int .i64 t276)).setCell ⟨gb282, 1, none⟩ (.int .i64 t277)).setCell ⟨gb282, 2, none⟩ (.int .i64 t278)).setCell ⟨gb282, 3, none⟩ (.int .i64 t279)).setCell ⟨gb282, 4, none⟩ (.int .i64 t280)) w.heap.size (fun k_ => k_ ≠ gb282) (.slice Ao242 t256.length co242) t256) := ⟨by exact rf_ (Kd.R_mono HO258.out (fun k_ hk => (⟨hk, hk⟩ : _ ∧ k_ ≠ gb282))) (fun _ hk => hk.1)⟩
        have n1_ : Aside0 ((((((w249.setCell ⟨gb282, 0, none⟩ (.int .i64 t276)).setCell ⟨gb282, 1, none⟩ (.int .i64 t277)).setCell ⟨gb282, 2, none⟩ (.int .i64 t278)).setCell ⟨gb282, 3, none⟩ (.int .i64 t279)).setCell ⟨gb282, 4, none⟩ (.int .i64 t280)).heap[gb251]? = some (.cells #[.int .i64 a0_0, .int .i64 a0_1, .slice (some ad275) l0_2.length c0_2, .int .i64 a0_3] 24 (0, 0))) := ⟨bk_ BK251⟩
        have n2_ : Aside0 ((((((w249.setCell ⟨gb282, 0, none⟩ (.int .i64 t276)).setCell ⟨gb282, 1, none⟩ (.int .i64 t277)).setCell ⟨gb282, 2, none⟩ (.int .i64 t278)).setCell ⟨gb282, 3, none⟩ (.int .i64 t279)).setCell ⟨gb282, 4, none⟩ (.int .i64 t280)).heap[gb252]? = some (.cells #[.int .i64 a1_0, .int .i64 a1_1, .int .i64 a1_2] 30 (0, 0))) := ⟨bk_ BK252⟩
        have n3_ : Aside0 ((((((w249.setCell ⟨gb282, 0, none⟩ (.int .i64 t276)).setCell ⟨gb282, 1, none⟩ (.int .i64 t277)).setCell ⟨gb282, 2, none⟩ (.int .i64 t278)).setCell ⟨gb282, 3, none⟩ (.int .i64 t279)).setCell ⟨gb282, 4, none⟩ (.int .i64 t280)).heap[gb253]? = some (.cells #[.int .i64 0, .int .i64 0, .slice none 0 0, .int .i64 0] 24 (0, 0))) := ⟨bk_ BK253⟩
        have n4_ : Aside0 ((((((w249.setCell ⟨gb282, 0, none⟩ (.int .i64 t276)).setCell ⟨gb282, 1, none⟩ (.int .i64 t277)).setCell ⟨gb282, 2, none⟩ (.int .i64 t278)).setCell ⟨gb282, 3, none⟩ (.int .i64 t279)).setCell ⟨gb282, 4, none⟩ (.int .i64 t280)).heap[gb260]? = some (.cells #[.int .i64 t254, .int .i64 t255, .slice Ao242 t256.length co242, .int .i64 t259] 24 (0, 0))) := ⟨bk_ BK260⟩
        have n5_ : Aside0 ((((((w249.setCell ⟨gb282, 0, none⟩ (.int .i64 t276)).setCell ⟨gb282, 1, none⟩ (.int .i64 t277)).setCell ⟨gb282, 2, none⟩ (.int .i64 t278)).setCell ⟨gb282, 3, none⟩ (.int .i64 t279)).setCell ⟨gb282, 4, none⟩ (.int .i64 t280)).heap[gb282]? = some (.cells #[.int .i64 t276, .int .i64 t277, .int .i64 t278, .int .i64 t279, .int .i64 t280] 34 (0, 0))) := ⟨bq_ BK282⟩
        have n6_ : Aside0 (Below w.heap.size w (((((w249.setCell ⟨gb282, 0, none⟩ (.int .i64 t276)).setCell ⟨gb282, 1, none⟩ (.int .i64 t277)).setCell ⟨gb282, 2, none⟩ (.int .i64 t278)).setCell ⟨gb282, 3, none⟩ (.int .i64 t279)).setCell ⟨gb282, 4, none⟩ (.int .i64 t280))) := ⟨(bw_ w)⟩
        (try clear HO258)
        (try clear BK251)
        (try clear BK252)
        (try clear BK253)
        (try clear BK260)
        (try clear BK282)
        (try clear HB)
        generalize (((((w249.setCell ⟨gb282, 0, none⟩ (.int .i64 t276)).setCell ⟨gb282, 1, none⟩ (.int .i64 t277)).setCell ⟨gb282, 2, none⟩ (.int .i64 t278)).setCell ⟨gb282, 3, none⟩ (.int .i64 t279)).setCell ⟨gb282, 4, none⟩ (.int .i64 t280)) = w255 at n0_ n1_ n2_ n3_ n4_ n5_ n6_ ⊢
        have HO258 := n0_
        have BK251 := n1_
        have BK252 := n2_
        have BK253 := n3_
        have BK260 := n4_
        have BK282 := n5_
        have HB := n6_
        clear n0_ n1_ n2_ n3_ n4_ n5_ n6_
        have hnb256 := NB260_282.out
        have hnc256 := NB282_260.out
        obtain ⟨hcz257_0, hcz257_1, hcz257_2, hcz257_3, hfz257_0, hfz257_1, hfz257_2, hfz257_3⟩ := bc4_ (w := w255) BK260
        have hnb258 := NB252_282.out
        have hnc258 := NB282_252.out
        obtain ⟨hcz259_0, hcz259_1, hcz259_2, hfz259_0, hfz259_1, hfz259_2⟩ := bc3_ (w := w255) BK252
        have hnb260 := NB282_251.out
        have hnc260 := NB251_282.out
        have hnb261 := NB282_253.out
        have hnc261 := NB253_282.out
        obtain ⟨hcz262_0, hcz262_1, hcz262_2, hcz262_3, hcz262_4, hfz262_0, hfz262_1, hfz262_2, hfz262_3, hfz262_4⟩ := bc5_ (w := w255) BK282
        have p186 : 0 ≤ (a1_1 : Int) := of_decide_eq_true (by first | (with_reducible assumption) | assumption)
        have q186 : (a1_1 : Int) < ((t256.length : Int) : Int) := of_decide_eq_true (by first | (with_reducible assumption) | assumption)
        obtain ⟨go186, co186, eo186, gb186, gl186, cl186, HG186⟩ := Kd.R_form HO258.out (by omega)
        (first | cases eo186 | (injection eo186 with ea_ en_ ec_; (first | subst ea_ | (injection ea_ with ea_; subst ea_)); subst ec_; clear en_))
        have GB186 := Aside0.mk gb186
        have GG186 := Aside0.mk HG186
        clear gb186 gl186 HG186
        obtain ⟨ce186, hcl186, hM186, hcc186, hfr186⟩ := Kd.R_elem HO258.out z34 (a1_1 : Int) p186 q186
        obtain rfl := k34_openM hM186
        have hx186_0 : w255.cell? ⟨go186, (a1_1 : Int).toNat * 5, none⟩ = some (.int .i64 ((rd_T34 t256 a1_1).f0)) := hcc186 0 _ rfl
        have hx186_1 : w255.cell? ⟨go186, (a1_1 : Int).toNat * 5 + 1, none⟩ = some (.int .i64 ((rd_T34 t256 a1_1).f1)) := hcc186 1 _ rfl
        have hx186_2 : w255.cell? ⟨go186, (a1_1 : Int).toNat * 5 + 2, none⟩ = some (.int .i64 ((rd_T34 t256 a1_1).f2)) := hcc186 2 _ rfl
        have hx186_3 : w255.cell? ⟨go186, (a1_1 : Int).toNat * 5 + 3, none⟩ = some (.int .i64 ((rd_T34 t256 a1_1).f3)) := hcc186 3 _ rfl
        have hx186_4 : w255.cell? ⟨go186, (a1_1 : Int).toNat * 5 + 4, none⟩ = some (.int .i64 ((rd_T34 t256 a1_1).f4)) := hcc186 4 _ rfl
        have hf186_0 : w255.frozen? ⟨go186, (a1_1 : Int).toNat * 5, none⟩ = false := hfr186 0
        have hf186_1 : w255.frozen? ⟨go186, (a1_1 : Int).toNat * 5 + 1, none⟩ = false := hfr186 1
        have hf186_2 : w255.frozen? ⟨go186, (a1_1 : Int).toNat * 5 + 2, none⟩ = false := hfr186 2
        have hf186_3 : w255.frozen? ⟨go186, (a1_1 : Int).toNat * 5 + 3, none⟩ = false := hfr186 3
        have hf186_4 : w255.frozen? ⟨go186, (a1_1 : Int).toNat * 5 + 4, none⟩ = false := hfr186 4
        clear hcl186 hcc186 hfr186 hM186
        replace p186 := eq_true p186
        replace q186 := eq_true q186
        have HX263 := Aside0.mk (show Kd.R k34 34 w255 w.heap.size (fun k_ => k_ ≠ gb282) (.slice (some ⟨go186, 0, none⟩) t256.length co242) t256 from (ra_ HO258))
        obtain ⟨ce263, hcl263, hM263, hcc263, hfr263⟩ := Kd.R_elem HX263.out z34 (a1_1 : Int) (of_decide_eq_true (by first | (with_reducible assumption) | assumption)) (by have h_ : (a1_1 : Int) < ((t256.length : Int) : Int) := of_decide_eq_true (by first | (with_reducible assumption) | assumption); first | exact h_ | (have e_ := (Kd.R_reads' HO258.out).1; omega) | simpa using h_)
        obtain rfl := k34_openM hM263
        have HP263 := Kd.R_seg HX263.out (a1_1 : Int) (of_decide_eq_true (by first | (with_reducible assumption) | assumption)) (by have h_ : (a1_1 : Int) < ((t256.length : Int) : Int) := of_decide_eq_true (by first | (with_reducible assumption) | assumption); first | exact h_ | (have e_ := (Kd.R_reads' HO258.out).1; omega) | simpa using h_) (seg := [.int .i64 t276, .int .i64 t277, .int .i64 t278, .int .i64 t279, .int .i64 t280]) (j := 0) hcl263 hcc263 (show 5 ≤ 5 from by decide) (x' := (⟨t276, t277, t278, t279, t280⟩ : S34)) (k34_mkM _ _ _ (⟨t276, t277, t278, t279, t280⟩ : S34) ) (fun _ hk => hk)
        have hx263_0 := hcc263 0 _ rfl
        (try simp only [show (k34).sz = 5 from rfl, Nat.mul_one, Nat.add_zero] at hx263_0)
        have hf263_0 := hfr263 0
        (try simp only [show (k34).sz = 5 from rfl, Nat.mul_one, Nat.add_zero] at hf263_0)
        have hx263_1 := hcc263 1 _ rfl
        (try simp only [show (k34).sz = 5 from rfl, Nat.mul_one, Nat.add_zero] at hx263_1)
        have hf263_1 := hfr263 1
        (try simp only [show (k34).sz = 5 from rfl, Nat.mul_one, Nat.add_zero] at hf263_1)
        have hx263_2 := hcc263 2 _ rfl
        (try simp only [show (k34).sz = 5 from rfl, Nat.mul_one, Nat.add_zero] at hx263_2)
        have hf263_2 := hfr263 2
        (try simp only [show (k34).sz = 5 from rfl, Nat.mul_one, Nat.add_zero] at hf263_2)
        have hx263_3 := hcc263 3 _ rfl
        (try simp only [show (k34).sz = 5 from rfl, Nat.mul_one, Nat.add_zero] at hx263_3)
        have hf263_3 := hfr263 3
        (try simp only [show (k34).sz = 5 from rfl, Nat.mul_one, Nat.add_zero] at hf263_3)
        have hx263_4 := hcc263 4 _ rfl
        (try simp only [show (k34).sz = 5 from rfl, Nat.mul_one, Nat.add_zero] at hx263_4)
        have hf263_4 := hfr263 4
        (try simp only [show (k34).sz = 5 from rfl, Nat.mul_one, Nat.add_zero] at hf263_4)
        clear hcl263 hcc263 hfr263 hM263
        try go_wp2_with (first | ((with_reducible refine gate_store (t := 34) (p := 77) rfl ?_); refine store_event (t := 34) (p := 77) (v := ?vo_w264) (w1 := (((((w255.setCell ⟨go186, (a1_1 : Int).toNat * 5, none⟩ (.int .i64 t276)).setCell ⟨go186, (a1_1 : Int).toNat * 5 + 1, none⟩ (.int .i64 t277)).setCell ⟨go186, (a1_1 : Int).toNat * 5 + 2, none⟩ (.int .i64 t278)).setCell ⟨go186, (a1_1 : Int).toNat * 5 + 3, none⟩ (.int .i64 t279)).setCell ⟨go186, (a1_1 : Int).toNat * 5 + 4, none⟩ (.int .i64 t280))) ?hg ?ho ?hn ?hr ?_; (case ho => rfl); (case hg => rfl); (case hn => rfl); (case hr => first | (go_simp; done) | (go_simp; rfl)); intro w264 hw; have hg : w255.grownBy w264 (some go186) := (by rw [hw]; exact HP263.2); have hp_ : Kd.R k34 34 w264 w.heap.size (fun k_ => k_ ≠ gb282) (.slice (some ⟨go186, 0, none⟩) t256.length co242) y283 := (by rw [hw, Ny283.out]; exact HP263.1); clear HP263; replace BK251 := Aside0.mk (blk_grown (g := gb251) (o := .cells #[.int .i64 a0_0, .int .i64 a0_1, .slice (some ad275) l0_2.length c0_2, .int .i64 a0_3] 24 (0, 0)) (bk_ BK251) hg (Kd.R_ne HO258.out BK251.out (by decide))); replace BK252 := Aside0.mk (blk_grown (g := gb252) (o := .cells #[.int .i64 a1_0, .int .i64 a1_1, .int .i64 a1_2] 30 (0, 0)) (bk_ BK252) hg (Kd.R_ne HO258.out BK252.out (by decide))); replace BK253 := Aside0.mk (blk_grown (g := gb253) (o := .cells #[.int .i64 0, .int .i64 0, .slice none 0 0, .int .i64 0] 24 (0, 0)) (bk_ BK253) hg (Kd.R_ne HO258.out BK253.out (by decide))); replace BK260 := Aside0.mk (blk_grown (g := gb260) (o := .cells #[.int .i64 t254, .int .i64 t255, .slice (some ⟨go186, 0, none⟩) t256.length co242, .int .i64 t259] 24 (0, 0)) (bk_ BK260) hg (Kd.R_ne HO258.out BK260.out (by decide))); replace BK282 := Aside0.mk (blk_grown (g := gb282) (o := .cells #[.int .i64 t276, .int .i64 t277, .int .i64 t278, .int .i64 t279, .int .i64 t280] 34 (0, 0)) (bk_ BK282) hg (Kd.R_away HO258.out (fun _ hk => hk))); replace HO258 := Aside0.mk (hp_); replace HB := Aside0.mk ((by rw [hw]; exact below_set (below_set (below_set (below_set (below_set (HB.out) GB186.out) GB186.out) GB186.out) GB186.out) GB186.out : Below w.heap.size w w264)); clear hg hw hp_))
        replace HO258 := Aside0.mk (Kd.R_drew HO258.out)
        replace BK251 := Aside0.mk (blk_drew BK251.out)
        replace BK252 := Aside0.mk (blk_drew BK252.out)
        replace BK253 := Aside0.mk (blk_drew BK253.out)
        replace BK260 := Aside0.mk (blk_drew BK260.out)
        replace BK282 := Aside0.mk (blk_drew BK282.out)
        replace HB := Aside0.mk (below_drew1 HB.out)
        refine start_ (n := 8) (S := fun w' => w'.cell? ⟨gb260, 0, none⟩ = some (.int .i64 t254) ∧ w'.cell? ⟨gb260, 1, none⟩ = some (.int .i64 t255) ∧ w'.cell? ⟨gb260, 2, none⟩ = some (.slice (some ⟨go186, 0, none⟩) t256.length co242) ∧ w'.cell? ⟨gb260, 3, none⟩ = some (.int .i64 t259)) (ds := []) #[false, false, false, false, false, false, false, false] (by kernel_rfl) rfl rfl ⟨bc_ BK260 0, bc_ BK260 1, bc_ BK260 2, bc_ BK260 3⟩ (fun hHeld => ?_); refine with_tabW spec_l25Make.tab17 spec_l25Make.bits17 (fun HT_ HW_ => ?_)
        generalize w264.drew = w265 at HO258 BK251 BK252 BK253 BK260 BK282 HB hHeld ⊢
        refine pureA (N := some 79) 1 HT_ ?_
        refine pureA (N := some 80) 2 HT_ ?_
        refine pure_ (i := 3) (N := some 81) (v := undef) (a' := ?_) #[false, true, true, true, false, false, false, false] rfl rfl (any_of HT_.out (by kernel_rfl)) (fun _ _ _ h => h) (Or.inr ⟨by rfl, rfl⟩) ?_ ?_
        rotate_left
        ·simp only [Act.put, List.setIfInBounds_toArray, List.set_cons_zero, List.set_cons_succ, i64_w, i32_w]
         rfl
        refine pure_ (i := 4) (N := some 82) (v := undef) (a' := ?_) #[false, true, true, true, true, false, false, false] rfl rfl (any_of HT_.out (by kernel_rfl)) (fun _ _ _ h => h) (Or.inr ⟨by rfl, rfl⟩) ?_ ?_
        rotate_left
        ·simp only [Act.put, List.setIfInBounds_toArray, List.set_cons_zero, List.set_cons_succ, i64_w, i32_w]
         rfl
        refine pureA (N := some 83) 5 HT_ ?_
        refine takeA (N := some 78) 0 HT_ HW_ hHeld ?_
        refine oneA (N := none) 6 HT_ (fun K hK => ?_)
        have hs266 : w265.cell? ⟨gb253, 0, none⟩ = some (.int .i64 0) := bc_ BK253 0
        have hfs266 := blk_frozen BK253.out 0
        have hns266_0 := NB251_253.out
        have hns266_1 := NB252_253.out
        have hns266_3 := NB260_253.out
        have hns266_4 := NB282_253.out
        have hms266_0 := NB253_251.out
        have hms266_1 := NB253_252.out
        have hms266_3 := NB253_260.out
        have hms266_4 := NB253_282.out
        have hs267 : w265.cell? ⟨gb253, 1, none⟩ = some (.int .i64 0) := bc_ BK253 1
        have hfs267 := blk_frozen BK253.out 1
        have hns267_0 := NB251_253.out
        have hns267_1 := NB252_253.out
        have hns267_3 := NB260_253.out
        have hns267_4 := NB282_253.out
        have hms267_0 := NB253_251.out
        have hms267_1 := NB253_252.out
        have hms267_3 := NB253_260.out
        have hms267_4 := NB253_282.out
        have hs268 : w265.cell? ⟨gb253, 2, none⟩ = some (.slice none 0 0) := bc_ BK253 2
        have hfs268 := blk_frozen BK253.out 2
        have hns268_0 := NB251_253.out
        have hns268_1 := NB252_253.out
        have hns268_3 := NB260_253.out
        have hns268_4 := NB282_253.out
        have hms268_0 := NB253_251.out
        have hms268_1 := NB253_252.out
        have hms268_3 := NB253_260.out
        have hms268_4 := NB253_282.out
        have hs269 : w265.cell? ⟨gb253, 3, none⟩ = some (.int .i64 0) := bc_ BK253 3
        have hfs269 := blk_frozen BK253.out 3
        have hns269_0 := NB251_253.out
        have hns269_1 := NB252_253.out
        have hns269_3 := NB260_253.out
        have hns269_4 := NB282_253.out
        have hms269_0 := NB253_251.out
        have hms269_1 := NB253_252.out
        have hms269_3 := NB253_260.out
        have hms269_4 := NB253_282.out
        refine skip_ (w1 := ?_) (by rfl) rfl ?_ ?_
        rotate_left
        ·go_simp
         rfl
        refine hK.out _ _ ⟨((cn_ NB260_253).trans (((cn_ NB260_253).trans (((cn_ NB260_253).trans (((cn_ NB260_253).trans (hHeld.1)))))))), ((cn_ NB260_253).trans (((cn_ NB260_253).trans (((cn_ NB260_253).trans (((cn_ NB260_253).trans (hHeld.2.1)))))))), ((cn_ NB260_253).trans (((cn_ NB260_253).trans (((cn_ NB260_253).trans (((cn_ NB260_253).trans (hHeld.2.2.1)))))))), ((cn_ NB260_253).trans (((cn_ NB260_253).trans (((cn_ NB260_253).trans (((cn_ NB260_253).trans (hHeld.2.2.2))))))))⟩ (fun hHeld => ?_)
        clear hK K
        refine pureA (N := some 5) 7 HT_ ?_
        refine done_ (done_of HT_.out (by kernel_rfl)) ?_
        try go_wp2
        refine bodyPost_ret (results_ct rfl _ _ gb253 24 #[.int .i64 t254, .int .i64 t255, .slice (some ⟨go186, 0, none⟩) t256.length co242, .int .i64 t259] (0, 0) _ rfl (bq_ BK253) Try.underlying24 rfl (by kernel_rfl)) rfl ?_
        exact ⟨_, by first | rfl | (simp [errW_none, errW_some] <;> rfl) | (simp [*, errW_none, errW_some] <;> rfl), by exact rf_ (Kd.R_types HO258.out BK253.out (by decide)) (fun _ hk => trivial), (bw_ w)⟩
      ·rw [if_neg c185] at H
       exact absurd H (by simp)
     ·rw [if_neg c183] at H
      exact absurd H (by simp)
    ·rw [if_neg c182] at H
     exact absurd H (by simp)

end Go.Proofs.Ytahglcpndiadnaa.PFnExactRunShop
