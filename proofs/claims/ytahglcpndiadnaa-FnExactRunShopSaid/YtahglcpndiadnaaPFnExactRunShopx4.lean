-- Printed by this session's own program (wip/tool/myprint.py, over the kit's print); Lean checks it.
import Derived.Test.YtahglcpndiadnaaPFnExactRunShopx0
import Derived.Test.YtahglcpndiadnaaPFnExactRunShopx1
import Derived.Test.YtahglcpndiadnaaPFnExactRunShopx2
import Derived.Test.YtahglcpndiadnaaPFnExactRunShopx3
namespace Go.Proofs.Ytahglcpndiadnaa.PFnExactRunShop
open Go.RowKit Go.Proofs.YtahglcpndiadnaaW.PrintWords Go.Proofs.YtahglcpndiadnaaW.PrintLast Go.Proofs.YtahglcpndiadnaaW.PrintMore
attribute [local go_sem] max2_int min2_int max_two min_two max_three min_three max_four min_four   -- for this text's walks alone
set_option linter.unusedVariables false
set_option linter.unusedSimpArgs false

/-! ### impl_Shop_step: function 62 -/
def impl_Shop_step.j0 : Nat → Bool → Int → Int → Int → Int → Int → List (S34) → Int → Option (Int × Int × (List (S34)) × Int × Bool)
  | 0, _, _, _, _, _, _, _, _ => none
  | k + 1, x34, x172000, x172001, x172002, x181000, x181001, x181002, x181003 => if x34 = true then (some (0, 0, ([] : List (S34)), 0, false)) else ((impl_Shop_change.f x181000 x181001 x181002 x181003 x172000 x172001 x172002).bind fun bt189 => ((impl_IsShop.f k bt189.1 bt189.2.1 bt189.2.2.1 bt189.2.2.2).bind fun t195 => (if t195 = true then (some (bt189.1, bt189.2.1, bt189.2.2.1, bt189.2.2.2, true)) else (some (0, 0, ([] : List (S34)), 0, false)))))
def impl_Shop_step.f (k : Nat) (a0_0 : Int) (a0_1 : Int) (l0_2 : List (S34)) (a0_3 : Int) (a1_0 : Int) (a1_1 : Int) (a1_2 : Int) : Option (Int × Int × (List (S34)) × Int × Bool) := (impl_ShopStep_isValid.f k a1_0 a1_1 a1_2).bind fun t173 => (if t173 = true then ((impl_Shop_copied.f a0_0 a0_1 l0_2 a0_3).bind fun bt174 => (if a1_0 = 1 then ((impl_IsShop.f k (wrap64 (bt174.1 + a1_2)) bt174.2.1 bt174.2.2.1 bt174.2.2.2).bind fun t181 => (if t181 = true then (some (wrap64 (bt174.1 + a1_2), bt174.2.1, bt174.2.2.1, bt174.2.2.2, true)) else (some (0, 0, ([] : List (S34)), 0, false)))) else (if a1_0 = 2 then (if bt174.2.2.1.length < 3518437208883 then ((some (bt174.2.2.1 ++ [(⟨a1_2, 0, 0, 0, a0_0⟩ : S34)] : List (S34))).bind fun y182 => ((impl_IsShop.f k bt174.1 bt174.2.1 y182 bt174.2.2.2).bind fun t185 => (if t185 = true then (some (bt174.1, bt174.2.1, y182, bt174.2.2.2, true)) else (some (0, 0, ([] : List (S34)), 0, false))))) else (none)) else ((impl_in.f a1_1 0 (wrap64 ((l0_2.length : Int) - 1))).bind fun t186 => (if t186 = true then (if 0 ≤ a1_1 then (if a1_1 < (l0_2.length : Int) then ((impl_Shop_canChange.f k a0_0 a0_1 l0_2 a0_3 a1_0 a1_1 a1_2 ((rd_T34 l0_2 a1_1).f0) ((rd_T34 l0_2 a1_1).f1) ((rd_T34 l0_2 a1_1).f2) ((rd_T34 l0_2 a1_1).f3) ((rd_T34 l0_2 a1_1).f4)).bind fun t188 => (impl_Shop_step.j0 k (!t188) a1_0 a1_1 a1_2 bt174.1 bt174.2.1 bt174.2.2.1 bt174.2.2.2)) else (none)) else (none)) else (impl_Shop_step.j0 k true a1_0 a1_1 a1_2 bt174.1 bt174.2.1 bt174.2.2.1 bt174.2.2.2)))))) else (some (0, 0, ([] : List (S34)), 0, false)))
theorem impl_Shop_step.mono_l : ∀ k, (∀ y0 y1 y2 y3 y4 y5 y6 y7, LeO (impl_Shop_step.j0 k y0 y1 y2 y3 y4 y5 y6 y7) (impl_Shop_step.j0 (k + 1) y0 y1 y2 y3 y4 y5 y6 y7))
  | 0 => fun _ _ _ _ _ _ _ _ r h => by simp [impl_Shop_step.j0] at h
  | k + 1 => by
    have ih0 := impl_Shop_step.mono_l k
    · intro y0 y1 y2 y3 y4 y5 y6 y7
      unfold impl_Shop_step.j0
      repeat' first
      | (with_reducible exact ih0 _ _ _ _ _ _ _ _)
      | (with_reducible exact impl_IsShop.mono _ _ _ _ _)
      | (with_reducible exact impl_ShopStep_isValid.mono _ _ _ _)
      | (with_reducible exact impl_Shop_canChange.mono _ _ _ _ _ _ _ _ _ _ _ _ _)
      | (with_reducible exact LeO.refl _)
      | (with_reducible exact LeO.none _)
      | (with_reducible refine LeO.ite ?_ ?_)
      | (with_reducible refine LeO.bind ?_ (fun _ => ?_))
      | exact ih0 _ _ _ _ _ _ _ _
      | exact impl_IsShop.mono _ _ _ _ _
      | exact impl_ShopStep_isValid.mono _ _ _ _
      | exact impl_Shop_canChange.mono _ _ _ _ _ _ _ _ _ _ _ _ _
      | exact LeO.none _
      | refine LeO.ite ?_ ?_
      | refine LeO.bind ?_ (fun _ => ?_)
theorem impl_Shop_step.mono : ∀ a0 a1 a2 a3 a4 a5 a6 k, LeO (impl_Shop_step.f k a0 a1 a2 a3 a4 a5 a6) (impl_Shop_step.f (k + 1) a0 a1 a2 a3 a4 a5 a6) := by
  intro a0 a1 a2 a3 a4 a5 a6 k
  have ih0 := impl_Shop_step.mono_l k
  unfold impl_Shop_step.f
  repeat' first
      | (with_reducible exact ih0 _ _ _ _ _ _ _ _)
      | (with_reducible exact impl_IsShop.mono _ _ _ _ _)
      | (with_reducible exact impl_ShopStep_isValid.mono _ _ _ _)
      | (with_reducible exact impl_Shop_canChange.mono _ _ _ _ _ _ _ _ _ _ _ _ _)
      | (with_reducible exact LeO.refl _)
      | (with_reducible exact LeO.none _)
      | (with_reducible refine LeO.ite ?_ ?_)
      | (with_reducible refine LeO.bind ?_ (fun _ => ?_))
      | exact ih0 _ _ _ _ _ _ _ _
      | exact impl_IsShop.mono _ _ _ _ _
      | exact impl_ShopStep_isValid.mono _ _ _ _
      | exact impl_Shop_canChange.mono _ _ _ _ _ _ _ _ _ _ _ _ _
      | exact LeO.none _
      | refine LeO.ite ?_ ?_
      | refine LeO.bind ?_ (fun _ => ?_)
def impl_Shop_step.T5 : Bool × List (List Nat × List Nat) := (true, [([], []), ([0], [0]), ([], []), ([2], [2]), ([3], [3]), ([4], [4]), ([1, 5], [1, 5]), ([6], [6]), ([7, 6], [7]), ([8], [8]), ([8], [8]), ([8], [8]), ([11, 8], [8, 11]), ([8], [8]), ([13, 8], [8, 13]), ([12, 14, 8], [8, 12, 14]), ([15, 8], [8, 15]), ([9, 10, 16, 8, 8], [8, 9, 10, 16]), ([17, 8], [8, 17]), ([8, 18], [8, 18])])
def impl_Shop_step.B5 : List Nat := [0, 1, 0, 4, 12, 28, 63, 127, 255, 511, 511, 511, 2559, 511, 8703, 31231, 63999, 131071, 262143, 524287]
theorem impl_Shop_step.tab5 : rtab .any (opsOf Try.f62 5) = impl_Shop_step.T5 := by kernel_rfl
theorem impl_Shop_step.bits5 : waitsOk impl_Shop_step.T5.2 impl_Shop_step.B5 = true := by kernel_rfl
set_option maxHeartbeats 8000000 in
set_option maxRecDepth 100000 in
theorem impl_Shop_step.calls (k : Nat) (a0_0 : Int) (a0_1 : Int) (A0_2 : Option Addr) (c0_2 : Nat) (l0_2 : List (S34)) (a0_3 : Int) (a1_0 : Int) (a1_1 : Int) (a1_2 : Int) (r1 : Int) (r2 : Int) (r3 : List (S34)) (r4 : Int) (r5 : Bool) (w : World) (hr0_2 : Kd.C k34 w A0_2 l0_2.length l0_2) (hc0_2 : l0_2.length ≤ c0_2) (h : impl_Shop_step.f k a0_0 a0_1 l0_2 a0_3 a1_0 a1_1 a1_2 = some (r1, r2, r3, r4, r5)) :
  Calls Try.prog 62 #[.agg #[.int .i64 a0_0, .int .i64 a0_1, .slice A0_2 l0_2.length c0_2, .int .i64 a0_3], .agg #[.int .i64 a1_0, .int .i64 a1_1, .int .i64 a1_2]] w fun e w' => ∃ v2_ : Value, e = .returned (.tuple #[.agg #[.int .i64 r1, .int .i64 r2, v2_, .int .i64 r4], .bool r5]) ∧ Kd.R k34 34 w' w.heap.size (fun _ => True) v2_ r3 ∧ Below w.heap.size w w' := by
 have hu24 := Try.underlying24
 have hu30 := Try.underlying30
 have hu34 := Try.underlying34
 have HR0_2 := Aside0.mk hr0_2
 have HC0_2 := Aside0.mk hc0_2
 clear hr0_2 hc0_2
 have HB := Aside0.mk (Below.refl w.heap.size w)
 have H : ((impl_ShopStep_isValid.f k a1_0 a1_1 a1_2).bind fun t173 => (if t173 = true then ((impl_Shop_copied.f a0_0 a0_1 l0_2 a0_3).bind fun bt174 => (if a1_0 = 1 then ((impl_IsShop.f k (wrap64 (bt174.1 + a1_2)) bt174.2.1 bt174.2.2.1 bt174.2.2.2).bind fun t181 => (if t181 = true then (some (wrap64 (bt174.1 + a1_2), bt174.2.1, bt174.2.2.1, bt174.2.2.2, true)) else (some (0, 0, ([] : List (S34)), 0, false)))) else (if a1_0 = 2 then (if bt174.2.2.1.length < 3518437208883 then ((some (bt174.2.2.1 ++ [(⟨a1_2, 0, 0, 0, a0_0⟩ : S34)] : List (S34))).bind fun y182 => ((impl_IsShop.f k bt174.1 bt174.2.1 y182 bt174.2.2.2).bind fun t185 => (if t185 = true then (some (bt174.1, bt174.2.1, y182, bt174.2.2.2, true)) else (some (0, 0, ([] : List (S34)), 0, false))))) else (none)) else ((impl_in.f a1_1 0 (wrap64 ((l0_2.length : Int) - 1))).bind fun t186 => (if t186 = true then (if 0 ≤ a1_1 then (if a1_1 < (l0_2.length : Int) then ((impl_Shop_canChange.f k a0_0 a0_1 l0_2 a0_3 a1_0 a1_1 a1_2 ((rd_T34 l0_2 a1_1).f0) ((rd_T34 l0_2 a1_1).f1) ((rd_T34 l0_2 a1_1).f2) ((rd_T34 l0_2 a1_1).f3) ((rd_T34 l0_2 a1_1).f4)).bind fun t188 => (impl_Shop_step.j0 k (!t188) a1_0 a1_1 a1_2 bt174.1 bt174.2.1 bt174.2.2.1 bt174.2.2.2)) else (none)) else (none)) else (impl_Shop_step.j0 k true a1_0 a1_1 a1_2 bt174.1 bt174.2.1 bt174.2.2.1 bt174.2.2.2)))))) else (some (0, 0, ([] : List (S34)), 0, false)))) = some (r1, r2, r3, r4, r5) := h
 clear h
 replace H := Option.bind_eq_some_iff.mp H
 obtain ⟨t173, A30, H⟩ := H
 (try dsimp only at H)
 have A3 := Aside0.mk A30
 clear A30
 by_cases c4 : t173 = true
 ·subst c4
  rw [if_pos rfl] at H
  replace H := Option.bind_eq_some_iff.mp H
  obtain ⟨⟨t174, t175, t176, t179⟩, A50, H⟩ := H
  (try dsimp only at H)
  have A5 := Aside0.mk A50
  clear A50
  by_cases c6 : a1_0 = 1
  ·rw [if_pos c6] at H
   have c6b0 := beq_iff_eq.mpr c6
   have c6b1 := bne_eq_false_iff_eq.mpr c6
   clear c6
   replace H := Option.bind_eq_some_iff.mp H
   obtain ⟨t181, A70, H⟩ := H
   (try dsimp only at H)
   have A7 := Aside0.mk A70
   clear A70
   by_cases c8 : t181 = true
   ·subst c8
    rw [if_pos rfl] at H
    simp only [Option.some.injEq, Prod.mk.injEq] at H
    obtain ⟨rfl, rfl, rfl, rfl, rfl⟩ := H
    go_enter Try.func62, Try.ntmps62
    go_wp2_with (first | ((with_reducible refine gate_dst (N := 2) rfl ?_); refine box_ (N := 2) (cs := #[.int .i64 a0_0, .int .i64 a0_1, .slice A0_2 l0_2.length c0_2, .int .i64 a0_3]) (t := 24) ?_; intro gb170 hg w9 hbox hb; have BK170 := Aside0.mk (hbox); have GW170 := gz_ w hg; have GE170 := gz_ w hg; replace HB := hb_ w hb; clear hb hbox hg) | ((with_reducible refine gate_dst (N := 3) rfl ?_); refine box_ (N := 3) (cs := #[.int .i64 a1_0, .int .i64 a1_1, .int .i64 a1_2]) (t := 30) ?_; intro gb171 hg w10 hbox hb; have BK171 := Aside0.mk (hbox); have GW171 := gz_ w hg; have GE171 := gz_ w hg; have NB170_171 := ne_ hg BK170; have NB171_170 := en_ hg BK170; replace BK170 := bb_ BK170 hb; replace HB := hb_ w hb; clear hb hbox hg) | ((with_reducible refine gate_dst (N := 4) rfl ?_); refine box_ (N := 4) (cs := #[.int .i64 0, .int .i64 0, .slice none 0 0, .int .i64 0]) (t := 24) ?_; intro gb172 hg w11 hbox hb; have BK172 := Aside0.mk (hbox); have GW172 := gz_ w hg; have GE172 := gz_ w hg; have NB170_172 := ne_ hg BK170; have NB172_170 := en_ hg BK170; have NB171_172 := ne_ hg BK171; have NB172_171 := en_ hg BK171; replace BK170 := bb_ BK170 hb; replace BK171 := bb_ BK171 hb; replace HB := hb_ w hb; clear hb hbox hg; have hnb12 := NB171_170.out; have hnc12 := NB170_171.out; have hnb13 := NB171_172.out; have hnc13 := NB172_171.out; obtain ⟨hcz14_0, hcz14_1, hcz14_2, hfz14_0, hfz14_1, hfz14_2⟩ := bc3_ (w := w11) BK171) | ((with_reducible refine gate_callee (f := 110) rfl ?_); refine goesB (some 8) Try.func110 #[.agg #[.int .i64 a1_0, .int .i64 a1_1, .int .i64 a1_2]] ?_; (with_reducible refine (impl_ShopStep_isValid.calls k a1_0 a1_1 a1_2 true _ A3.out).mono ?_); rintro e w15 ⟨rfl, hb⟩; refine ⟨_, rfl, ?_⟩; replace BK170 := bb_ BK170 hb; replace BK171 := bb_ BK171 hb; replace BK172 := bb_ BK172 hb; replace HB := hb_ w hb; clear hb; have hnb16 := NB170_172.out; have hnc16 := NB172_170.out; obtain ⟨hcz17_0, hcz17_1, hcz17_2, hcz17_3, hfz17_0, hfz17_1, hfz17_2, hfz17_3⟩ := bc4_ (w := w15) BK170) | ((with_reducible refine gate_callee (f := 61) rfl ?_); refine goesB (some 12) Try.func61 #[.agg #[.int .i64 a0_0, .int .i64 a0_1, .slice A0_2 l0_2.length c0_2, .int .i64 a0_3]] ?_; (with_reducible refine (impl_Shop_copied.calls a0_0 a0_1 _ _ l0_2 a0_3 t174 t175 t176 t179 _ ?side1 ?side2 A5.out).mono ?_); (case side1 => exact cb_ HR0_2 HB); (case side2 => exact HC0_2.out); rintro e w18 ⟨v177, rfl, ho0, hb⟩; refine ⟨_, rfl, ?_⟩; have HO178 := Aside0.mk (Kd.R_lower ho0 (below_size (bw_ w))); replace BK170 := bb_ BK170 hb; replace BK171 := bb_ BK171 hb; replace BK172 := bb_ BK172 hb; replace HB := hb_ w hb; (try clear hb); (try clear hb2); (try clear hk); (try clear hi); (try clear ho0)) | ((with_reducible refine gate_dst (N := 6) rfl ?_); refine box_ (N := 6) (cs := #[.int .i64 0, .int .i64 0, .slice none 0 0, .int .i64 0]) (t := 24) ?_; intro gb180 hg w19 hbox hb; have BK180 := Aside0.mk (hbox); have GW180 := gz_ w hg; have GE180 := gz_ w hg; have NB170_180 := ne_ hg BK170; have NB180_170 := en_ hg BK170; have NB171_180 := ne_ hg BK171; have NB180_171 := en_ hg BK171; have NB172_180 := ne_ hg BK172; have NB180_172 := en_ hg BK172; replace HO178 := Aside0.mk (Kd.R_below (ra_ HO178) hb); replace BK170 := bb_ BK170 hb; replace BK171 := bb_ BK171 hb; replace BK172 := bb_ BK172 hb; replace HB := hb_ w hb; clear hb hbox hg; have hnb20 := NB180_170.out; have hnc20 := NB170_180.out; have hnb21 := NB180_171.out; have hnc21 := NB171_180.out; have hnb22 := NB180_172.out; have hnc22 := NB172_180.out; obtain ⟨hcz23_0, hcz23_1, hcz23_2, hcz23_3, hfz23_0, hfz23_1, hfz23_2, hfz23_3⟩ := bc4_ (w := w19) BK180; obtain ⟨Ao24, co24, eo24⟩ := Kd.R_slice HO178.out; subst eo24; obtain ⟨hcz25_0, hcz25_1, hcz25_2, hfz25_0, hfz25_1, hfz25_2⟩ := bc3_ (w := w19) BK171) | ((with_reducible refine gate_store (t := 3) (p := 45) rfl ?_); refine store_event (t := 3) (p := 45) (v := ?vo_w26) (w1 := (((((w19.setCell ⟨gb180, 0, none⟩ (.int .i64 t174)).setCell ⟨gb180, 1, none⟩ (.int .i64 t175)).setCell ⟨gb180, 2, none⟩ (.slice Ao24 t176.length co24)).setCell ⟨gb180, 3, none⟩ (.int .i64 t179)).setCell ⟨gb180, 0, none⟩ (.int .i64 (wrap64 (t174 + a1_2))))) ?hg ?ho ?hn ?hr ?_; (case ho => rfl); (case hg => rfl); (case hn => rfl); (case hr => first | (go_simp; done) | (go_simp; rfl)); intro w26 hw; replace HO178 : Aside0 (Kd.R k34 34 w26 w.heap.size (fun _ => True) (.slice Ao24 t176.length co24) t176) := ⟨(by rw [hw]; exact (by exact rf_ (Kd.R_types HO178.out BK180.out (by decide)) (fun _ hk => trivial)))⟩; replace BK170 := bs_ hw (bk_ BK170); replace BK171 := bs_ hw (bk_ BK171); replace BK172 := bs_ hw (bk_ BK172); replace BK180 : Aside0 (w26.heap[gb180]? = some (.cells #[.int .i64 (wrap64 (t174 + a1_2)), .int .i64 t175, .slice Ao24 t176.length co24, .int .i64 t179] 24 (0, 0))) := bs_ hw (bq_ BK180); replace HB := bl_ hw (bw_ w); clear hw; obtain ⟨hcz27_0, hcz27_1, hcz27_2, hcz27_3, hfz27_0, hfz27_1, hfz27_2, hfz27_3⟩ := bc4_ (w := w26) BK180) | ((with_reducible refine gate_callee (f := 25) rfl ?_); refine goesB (some 59) Try.func25 #[.agg #[.int .i64 (wrap64 (t174 + a1_2)), .int .i64 t175, .slice Ao24 t176.length co24, .int .i64 t179]] ?_; (with_reducible refine (impl_IsShop.calls k (wrap64 (t174 + a1_2)) t175 _ _ t176 t179 true _ ?side1 ?side2 A7.out).mono ?_); (case side1 => exact co_ (Kd.R_reads' HO178.out).2.2); (case side2 => exact (Kd.R_reads' HO178.out).2.1); rintro e w28 ⟨rfl, hb⟩; refine ⟨_, rfl, ?_⟩; replace HO178 := Aside0.mk (Kd.R_below (ra_ HO178) hb); replace BK170 := bb_ BK170 hb; replace BK171 := bb_ BK171 hb; replace BK172 := bb_ BK172 hb; replace BK180 := bb_ BK180 hb; replace HB := hb_ w hb; clear hb; obtain ⟨hcz29_0, hcz29_1, hcz29_2, hcz29_3, hfz29_0, hfz29_1, hfz29_2, hfz29_3⟩ := bc4_ (w := w28) BK180; obtain ⟨hcz30_0, hcz30_1, hcz30_2, hcz30_3, hfz30_0, hfz30_1, hfz30_2, hfz30_3⟩ := bc4_ (w := w28) BK172))
    refine bodyPost_ret (results_ct rfl _ _ gb172 24 #[.int .i64 (wrap64 (t174 + a1_2)), .int .i64 t175, .slice Ao24 t176.length co24, .int .i64 t179] (0, 0) _ rfl (bq_ BK172) Try.underlying24 rfl (by kernel_rfl)) rfl ?_
    exact ⟨_, by first | rfl | (simp [errW_none, errW_some] <;> rfl) | (simp [*, errW_none, errW_some] <;> rfl), by exact rf_ (Kd.R_types HO178.out BK172.out (by decide)) (fun _ hk => trivial), (bw_ w)⟩
   ·replace c8 := Bool.eq_false_iff.mpr c8
    subst c8
    rw [if_neg (show ¬ (false = true) by decide)] at H
    simp only [Option.some.injEq, Prod.mk.injEq] at H
    obtain ⟨rfl, rfl, rfl, rfl, rfl⟩ := H
    go_enter Try.func62, Try.ntmps62
    go_wp2_with (first | ((with_reducible refine gate_dst (N := 2) rfl ?_); refine box_ (N := 2) (cs := #[.int .i64 a0_0, .int .i64 a0_1, .slice A0_2 l0_2.length c0_2, .int .i64 a0_3]) (t := 24) ?_; intro gb170 hg w31 hbox hb; have BK170 := Aside0.mk (hbox); have GW170 := gz_ w hg; have GE170 := gz_ w hg; replace HB := hb_ w hb; clear hb hbox hg) | ((with_reducible refine gate_dst (N := 3) rfl ?_); refine box_ (N := 3) (cs := #[.int .i64 a1_0, .int .i64 a1_1, .int .i64 a1_2]) (t := 30) ?_; intro gb171 hg w32 hbox hb; have BK171 := Aside0.mk (hbox); have GW171 := gz_ w hg; have GE171 := gz_ w hg; have NB170_171 := ne_ hg BK170; have NB171_170 := en_ hg BK170; replace BK170 := bb_ BK170 hb; replace HB := hb_ w hb; clear hb hbox hg) | ((with_reducible refine gate_dst (N := 4) rfl ?_); refine box_ (N := 4) (cs := #[.int .i64 0, .int .i64 0, .slice none 0 0, .int .i64 0]) (t := 24) ?_; intro gb172 hg w33 hbox hb; have BK172 := Aside0.mk (hbox); have GW172 := gz_ w hg; have GE172 := gz_ w hg; have NB170_172 := ne_ hg BK170; have NB172_170 := en_ hg BK170; have NB171_172 := ne_ hg BK171; have NB172_171 := en_ hg BK171; replace BK170 := bb_ BK170 hb; replace BK171 := bb_ BK171 hb; replace HB := hb_ w hb; clear hb hbox hg; have hnb34 := NB171_170.out; have hnc34 := NB170_171.out; have hnb35 := NB171_172.out; have hnc35 := NB172_171.out; obtain ⟨hcz36_0, hcz36_1, hcz36_2, hfz36_0, hfz36_1, hfz36_2⟩ := bc3_ (w := w33) BK171) | ((with_reducible refine gate_callee (f := 110) rfl ?_); refine goesB (some 8) Try.func110 #[.agg #[.int .i64 a1_0, .int .i64 a1_1, .int .i64 a1_2]] ?_; (with_reducible refine (impl_ShopStep_isValid.calls k a1_0 a1_1 a1_2 true _ A3.out).mono ?_); rintro e w37 ⟨rfl, hb⟩; refine ⟨_, rfl, ?_⟩; replace BK170 := bb_ BK170 hb; replace BK171 := bb_ BK171 hb; replace BK172 := bb_ BK172 hb; replace HB := hb_ w hb; clear hb; have hnb38 := NB170_172.out; have hnc38 := NB172_170.out; obtain ⟨hcz39_0, hcz39_1, hcz39_2, hcz39_3, hfz39_0, hfz39_1, hfz39_2, hfz39_3⟩ := bc4_ (w := w37) BK170) | ((with_reducible refine gate_callee (f := 61) rfl ?_); refine goesB (some 12) Try.func61 #[.agg #[.int .i64 a0_0, .int .i64 a0_1, .slice A0_2 l0_2.length c0_2, .int .i64 a0_3]] ?_; (with_reducible refine (impl_Shop_copied.calls a0_0 a0_1 _ _ l0_2 a0_3 t174 t175 t176 t179 _ ?side1 ?side2 A5.out).mono ?_); (case side1 => exact cb_ HR0_2 HB); (case side2 => exact HC0_2.out); rintro e w40 ⟨v177, rfl, ho0, hb⟩; refine ⟨_, rfl, ?_⟩; have HO178 := Aside0.mk (Kd.R_lower ho0 (below_size (bw_ w))); replace BK170 := bb_ BK170 hb; replace BK171 := bb_ BK171 hb; replace BK172 := bb_ BK172 hb; replace HB := hb_ w hb; (try clear hb); (try clear hb2); (try clear hk); (try clear hi); (try clear ho0)) | ((with_reducible refine gate_dst (N := 6) rfl ?_); refine box_ (N := 6) (cs := #[.int .i64 0, .int .i64 0, .slice none 0 0, .int .i64 0]) (t := 24) ?_; intro gb180 hg w41 hbox hb; have BK180 := Aside0.mk (hbox); have GW180 := gz_ w hg; have GE180 := gz_ w hg; have NB170_180 := ne_ hg BK170; have NB180_170 := en_ hg BK170; have NB171_180 := ne_ hg BK171; have NB180_171 := en_ hg BK171; have NB172_180 := ne_ hg BK172; have NB180_172 := en_ hg BK172; replace HO178 := Aside0.mk (Kd.R_below (ra_ HO178) hb); replace BK170 := bb_ BK170 hb; replace BK171 := bb_ BK171 hb; replace BK172 := bb_ BK172 hb; replace HB := hb_ w hb; clear hb hbox hg; have hnb42 := NB180_170.out; have hnc42 := NB170_180.out; have hnb43 := NB180_171.out; have hnc43 := NB171_180.out; have hnb44 := NB180_172.out; have hnc44 := NB172_180.out; obtain ⟨hcz45_0, hcz45_1, hcz45_2, hcz45_3, hfz45_0, hfz45_1, hfz45_2, hfz45_3⟩ := bc4_ (w := w41) BK180; obtain ⟨Ao46, co46, eo46⟩ := Kd.R_slice HO178.out; subst eo46; obtain ⟨hcz47_0, hcz47_1, hcz47_2, hfz47_0, hfz47_1, hfz47_2⟩ := bc3_ (w := w41) BK171) | ((with_reducible refine gate_store (t := 3) (p := 45) rfl ?_); refine store_event (t := 3) (p := 45) (v := ?vo_w48) (w1 := (((((w41.setCell ⟨gb180, 0, none⟩ (.int .i64 t174)).setCell ⟨gb180, 1, none⟩ (.int .i64 t175)).setCell ⟨gb180, 2, none⟩ (.slice Ao46 t176.length co46)).setCell ⟨gb180, 3, none⟩ (.int .i64 t179)).setCell ⟨gb180, 0, none⟩ (.int .i64 (wrap64 (t174 + a1_2))))) ?hg ?ho ?hn ?hr ?_; (case ho => rfl); (case hg => rfl); (case hn => rfl); (case hr => first | (go_simp; done) | (go_simp; rfl)); intro w48 hw; replace HO178 : Aside0 (Kd.R k34 34 w48 w.heap.size (fun _ => True) (.slice Ao46 t176.length co46) t176) := ⟨(by rw [hw]; exact (by exact rf_ (Kd.R_types HO178.out BK180.out (by decide)) (fun _ hk => trivial)))⟩; replace BK170 := bs_ hw (bk_ BK170); replace BK171 := bs_ hw (bk_ BK171); replace BK172 := bs_ hw (bk_ BK172); replace BK180 : Aside0 (w48.heap[gb180]? = some (.cells #[.int .i64 (wrap64 (t174 + a1_2)), .int .i64 t175, .slice Ao46 t176.length co46, .int .i64 t179] 24 (0, 0))) := bs_ hw (bq_ BK180); replace HB := bl_ hw (bw_ w); clear hw; obtain ⟨hcz49_0, hcz49_1, hcz49_2, hcz49_3, hfz49_0, hfz49_1, hfz49_2, hfz49_3⟩ := bc4_ (w := w48) BK180) | ((with_reducible refine gate_callee (f := 25) rfl ?_); refine goesB (some 59) Try.func25 #[.agg #[.int .i64 (wrap64 (t174 + a1_2)), .int .i64 t175, .slice Ao46 t176.length co46, .int .i64 t179]] ?_; (with_reducible refine (impl_IsShop.calls k (wrap64 (t174 + a1_2)) t175 _ _ t176 t179 false _ ?side1 ?side2 A7.out).mono ?_); (case side1 => exact co_ (Kd.R_reads' HO178.out).2.2); (case side2 => exact (Kd.R_reads' HO178.out).2.1); rintro e w50 ⟨rfl, hb⟩; refine ⟨_, rfl, ?_⟩; replace HO178 := Aside0.mk (Kd.R_below (ra_ HO178) hb); replace BK170 := bb_ BK170 hb; replace BK171 := bb_ BK171 hb; replace BK172 := bb_ BK172 hb; replace BK180 := bb_ BK180 hb; replace HB := hb_ w hb; clear hb; obtain ⟨hcz51_0, hcz51_1, hcz51_2, hcz51_3, hfz51_0, hfz51_1, hfz51_2, hfz51_3⟩ := bc4_ (w := w50) BK172))
    refine bodyPost_ret (results_ct rfl _ _ gb172 24 #[.int .i64 0, .int .i64 0, .slice none 0 0, .int .i64 0] (0, 0) _ rfl (bq_ BK172) Try.underlying24 rfl (by kernel_rfl)) rfl ?_
    exact ⟨_, by first | rfl | (simp [errW_none, errW_some] <;> rfl) | (simp [*, errW_none, errW_some] <;> rfl), by first | exact Kd.R_nil _ _ _ _ _ | exact Kd.N_nil _ _ _ _ _ | exact Kd.V_nil _ _ _ _ _ | exact Kd.Q_nil _ _ _ _ _ | exact Kd.S_nil _ _ _ _ _, (bw_ w)⟩
  ·rw [if_neg c6] at H
   have c6b0 := beq_eq_false_iff_ne.mpr c6
   have c6b1 := bne_iff_ne.mpr c6
   by_cases c52 : a1_0 = 2
   ·rw [if_pos c52] at H
    have c52b0 := beq_iff_eq.mpr c52
    have c52b1 := bne_eq_false_iff_eq.mpr c52
    clear c52
    by_cases c53 : t176.length < 3518437208883
    ·rw [if_pos c53] at H
     have LMc53 := Aside0.mk c53
     clear c53
     obtain ⟨y182, hy182⟩ : ∃ y_ : List (S34), y_ = (t176 ++ [(⟨a1_2, 0, 0, 0, a0_0⟩ : S34)]) := ⟨_, rfl⟩
     replace H : ((impl_IsShop.f k t174 t175 y182 t179).bind fun t185 => (if t185 = true then (some (t174, t175, y182, t179, true)) else (some (0, 0, ([] : List (S34)), 0, false)))) = some (r1, r2, r3, r4, r5) := by first | (rw [hy182]; with_reducible exact H) | (have H2_ := (Option.bind_some _ _).symm.trans H; rw [hy182]; with_reducible exact H2_) | (have H2_ := (Option.bind_some _ _).symm.trans H; with_reducible exact H2_) | with_reducible exact H | (rw [hy182]; exact H) | exact H
     have Ny182 := Aside0.mk hy182
     clear hy182
     replace H := Option.bind_eq_some_iff.mp H
     obtain ⟨t185, A540, H⟩ := H
     (try dsimp only at H)
     have A54 := Aside0.mk A540
     clear A540
     by_cases c55 : t185 = true
     ·subst c55
      rw [if_pos rfl] at H
      simp only [Option.some.injEq, Prod.mk.injEq] at H
      obtain ⟨rfl, rfl, rfl, rfl, rfl⟩ := H
      go_enter Try.func62, Try.ntmps62
      go_wp2_with (first | ((with_reducible refine gate_dst (N := 2) rfl ?_); refine box_ (N := 2) (cs := #[.int .i64 a0_0, .int .i64 a0_1, .slice A0_2 l0_2.length c0_2, .int .i64 a0_3]) (t := 24) ?_; intro gb170 hg w56 hbox hb; have BK170 := Aside0.mk (hbox); have GW170 := gz_ w hg; have GE170 := gz_ w hg; replace HB := hb_ w hb; clear hb hbox hg) | ((with_reducible refine gate_dst (N := 3) rfl ?_); refine box_ (N := 3) (cs := #[.int .i64 a1_0, .int .i64 a1_1, .int .i64 a1_2]) (t := 30) ?_; intro gb171 hg w57 hbox hb; have BK171 := Aside0.mk (hbox); have GW171 := gz_ w hg; have GE171 := gz_ w hg; have NB170_171 := ne_ hg BK170; have NB171_170 := en_ hg BK170; replace BK170 := bb_ BK170 hb; replace HB := hb_ w hb; clear hb hbox hg) | ((with_reducible refine gate_dst (N := 4) rfl ?_); refine box_ (N := 4) (cs := #[.int .i64 0, .int .i64 0, .slice none 0 0, .int .i64 0]) (t := 24) ?_; intro gb172 hg w58 hbox hb; have BK172 := Aside0.mk (hbox); have GW172 := gz_ w hg; have GE172 := gz_ w hg; have NB170_172 := ne_ hg BK170; have NB172_170 := en_ hg BK170; have NB171_172 := ne_ hg BK171; have NB172_171 := en_ hg BK171; replace BK170 := bb_ BK170 hb; replace BK171 := bb_ BK171 hb; replace HB := hb_ w hb; clear hb hbox hg; have hnb59 := NB171_170.out; have hnc59 := NB170_171.out; have hnb60 := NB171_172.out; have hnc60 := NB172_171.out; obtain ⟨hcz61_0, hcz61_1, hcz61_2, hfz61_0, hfz61_1, hfz61_2⟩ := bc3_ (w := w58) BK171) | ((with_reducible refine gate_callee (f := 110) rfl ?_); refine goesB (some 8) Try.func110 #[.agg #[.int .i64 a1_0, .int .i64 a1_1, .int .i64 a1_2]] ?_; (with_reducible refine (impl_ShopStep_isValid.calls k a1_0 a1_1 a1_2 true _ A3.out).mono ?_); rintro e w62 ⟨rfl, hb⟩; refine ⟨_, rfl, ?_⟩; replace BK170 := bb_ BK170 hb; replace BK171 := bb_ BK171 hb; replace BK172 := bb_ BK172 hb; replace HB := hb_ w hb; clear hb; have hnb63 := NB170_172.out; have hnc63 := NB172_170.out; obtain ⟨hcz64_0, hcz64_1, hcz64_2, hcz64_3, hfz64_0, hfz64_1, hfz64_2, hfz64_3⟩ := bc4_ (w := w62) BK170) | ((with_reducible refine gate_callee (f := 61) rfl ?_); refine goesB (some 12) Try.func61 #[.agg #[.int .i64 a0_0, .int .i64 a0_1, .slice A0_2 l0_2.length c0_2, .int .i64 a0_3]] ?_; (with_reducible refine (impl_Shop_copied.calls a0_0 a0_1 _ _ l0_2 a0_3 t174 t175 t176 t179 _ ?side1 ?side2 A5.out).mono ?_); (case side1 => exact cb_ HR0_2 HB); (case side2 => exact HC0_2.out); rintro e w65 ⟨v177, rfl, ho0, hb⟩; refine ⟨_, rfl, ?_⟩; have HO178 := Aside0.mk (Kd.R_lower ho0 (below_size (bw_ w))); replace BK170 := bb_ BK170 hb; replace BK171 := bb_ BK171 hb; replace BK172 := bb_ BK172 hb; replace HB := hb_ w hb; (try clear hb); (try clear hb2); (try clear hk); (try clear hi); (try clear ho0)) | ((with_reducible refine gate_dst (N := 6) rfl ?_); refine box_ (N := 6) (cs := #[.int .i64 0, .int .i64 0, .slice none 0 0, .int .i64 0]) (t := 24) ?_; intro gb180 hg w66 hbox hb; have BK180 := Aside0.mk (hbox); have GW180 := gz_ w hg; have GE180 := gz_ w hg; have NB170_180 := ne_ hg BK170; have NB180_170 := en_ hg BK170; have NB171_180 := ne_ hg BK171; have NB180_171 := en_ hg BK171; have NB172_180 := ne_ hg BK172; have NB180_172 := en_ hg BK172; replace HO178 := Aside0.mk (Kd.R_below (ra_ HO178) hb); replace BK170 := bb_ BK170 hb; replace BK171 := bb_ BK171 hb; replace BK172 := bb_ BK172 hb; replace HB := hb_ w hb; clear hb hbox hg; have hnb67 := NB180_170.out; have hnc67 := NB170_180.out; have hnb68 := NB180_171.out; have hnc68 := NB171_180.out; have hnb69 := NB180_172.out; have hnc69 := NB172_180.out; obtain ⟨hcz70_0, hcz70_1, hcz70_2, hcz70_3, hfz70_0, hfz70_1, hfz70_2, hfz70_3⟩ := bc4_ (w := w66) BK180; obtain ⟨Ao71, co71, eo71⟩ := Kd.R_slice HO178.out; subst eo71; obtain ⟨hcz72_0, hcz72_1, hcz72_2, hfz72_0, hfz72_1, hfz72_2⟩ := bc3_ (w := w66) BK171; obtain ⟨hcz73_0, hcz73_1, hcz73_2, hcz73_3, hfz73_0, hfz73_1, hfz73_2, hfz73_3⟩ := bc4_ (w := w66) BK170) | ((with_reducible refine gate_builtin (b := .append) (xs := #[.tmp 49, .tmp 55]) rfl ?_); at_builtin; refine Kd.R_append k34 (w0 := w) w.heap.size rfl (.tmp 49) (.tmp 55) 22 34 (.agg #[(.int .i64 0), (.int .i64 0), (.int .i64 0), (.int .i64 0), (.int .i64 0)]) 40 rfl Try.underlying22 info34 rfl (by decide) (by omega) (.slice Ao71 t176.length co71) t176 (⟨a1_2, 0, 0, 0, a0_0⟩ : S34) [.int .i64 a1_2, .int .i64 0, .int .i64 0, .int .i64 0, .int .i64 a0_0] (fun _ => True) (fun _ => False) rfl (by first | (go_simp; done) | (go_simp; rfl)) ?aP (fun _ hk => hk.elim) ?aF ?aO ?aB ?aS ?aL ?_; (case aP => exact k34_mkM _ _ _ (⟨a1_2, 0, 0, 0, a0_0⟩ : S34)); (case aB => exact (bw_ w)); (case aF => exact (fun _ _ => trivial)); (case aO => exact (by exact rf_ (Kd.R_types HO178.out BK180.out (by decide)) (fun _ hk => trivial))); (case aS => exact (below_size (bw_ w))); (case aL => have := LMc53.out; omega); intro v183 w74 ho hb hg hat; rw [← Ny182.out] at ho; replace BK170 := Aside0.mk (blk_grown (g := gb170) (o := .cells #[.int .i64 a0_0, .int .i64 a0_1, .slice A0_2 l0_2.length c0_2, .int .i64 a0_3] 24 (0, 0)) (bk_ BK170) hg (Kd.R_ne HO178.out BK170.out (by decide))); replace BK171 := Aside0.mk (blk_grown (g := gb171) (o := .cells #[.int .i64 a1_0, .int .i64 a1_1, .int .i64 a1_2] 30 (0, 0)) (bk_ BK171) hg (Kd.R_ne HO178.out BK171.out (by decide))); replace BK172 := Aside0.mk (blk_grown (g := gb172) (o := .cells #[.int .i64 0, .int .i64 0, .slice none 0 0, .int .i64 0] 24 (0, 0)) (bk_ BK172) hg (Kd.R_ne HO178.out BK172.out (by decide))); replace BK180 := Aside0.mk (blk_grown (g := gb180) (o := .cells #[.int .i64 t174, .int .i64 t175, .slice Ao71 t176.length co71, .int .i64 t179] 24 (0, 0)) (bq_ BK180) hg (Kd.R_ne HO178.out BK180.out (by decide))); have HO184 := Aside0.mk (ho); replace HB := Aside0.mk (hb); clear HO178; clear ho hb hg hat; obtain ⟨Ao75, co75, eo75⟩ := Kd.R_slice HO184.out; subst eo75; obtain ⟨hcz76_0, hcz76_1, hcz76_2, hcz76_3, hfz76_0, hfz76_1, hfz76_2, hfz76_3⟩ := bc4_ (w := w74) BK180) | ((with_reducible refine gate_callee (f := 25) rfl ?_); refine goesB (some 59) Try.func25 #[.agg #[.int .i64 t174, .int .i64 t175, .slice Ao75 y182.length co75, .int .i64 t179]] ?_; (with_reducible refine (impl_IsShop.calls k t174 t175 _ _ y182 t179 true _ ?side1 ?side2 A54.out).mono ?_); (case side1 => refine (Kd.R_reads' (e := 34) (base := w.heap.size) (ok := fun k_ => True) (n := y182.length) (c := co75) ?_).2.2; exact (by exact rf_ (Kd.R_types HO184.out BK180.out (by decide)) (fun _ h_ => h_.1))); (case side2 => exact (Kd.R_reads' HO184.out).2.1); rintro e w77 ⟨rfl, hb⟩; refine ⟨_, rfl, ?_⟩; replace HO184 := Aside0.mk (Kd.R_below (by exact rf_ (Kd.R_types HO184.out BK180.out (by decide)) (fun _ h_ => h_.1)) hb); replace BK170 := bb_ BK170 hb; replace BK171 := bb_ BK171 hb; replace BK172 := bb_ BK172 hb; replace BK180 := Aside0.mk (blk_below (g := gb180) (o := .cells #[.int .i64 t174, .int .i64 t175, .slice Ao75 y182.length co75, .int .i64 t179] 24 (0, 0)) (bq_ BK180) hb); replace HB := hb_ w hb; clear hb; obtain ⟨hcz78_0, hcz78_1, hcz78_2, hcz78_3, hfz78_0, hfz78_1, hfz78_2, hfz78_3⟩ := bc4_ (w := w77) BK180; obtain ⟨hcz79_0, hcz79_1, hcz79_2, hcz79_3, hfz79_0, hfz79_1, hfz79_2, hfz79_3⟩ := bc4_ (w := w77) BK172))
      refine bodyPost_ret (results_ct rfl _ _ gb172 24 #[.int .i64 t174, .int .i64 t175, .slice Ao75 y182.length co75, .int .i64 t179] (0, 0) _ rfl (bq_ BK172) Try.underlying24 rfl (by kernel_rfl)) rfl ?_
      exact ⟨_, by first | rfl | (simp [errW_none, errW_some] <;> rfl) | (simp [*, errW_none, errW_some] <;> rfl), by exact rf_ (Kd.R_types HO184.out BK172.out (by decide)) (fun _ hk => trivial), (bw_ w)⟩
     ·replace c55 := Bool.eq_false_iff.mpr c55
      subst c55
      rw [if_neg (show ¬ (false = true) by decide)] at H
      simp only [Option.some.injEq, Prod.mk.injEq] at H
      obtain ⟨rfl, rfl, rfl, rfl, rfl⟩ := H
      go_enter Try.func62, Try.ntmps62
      go_wp2_with (first | ((with_reducible refine gate_dst (N := 2) rfl ?_); refine box_ (N := 2) (cs := #[.int .i64 a0_0, .int .i64 a0_1, .slice A0_2 l0_2.length c0_2, .int .i64 a0_3]) (t := 24) ?_; intro gb170 hg w80 hbox hb; have BK170 := Aside0.mk (hbox); have GW170 := gz_ w hg; have GE170 := gz_ w hg; replace HB := hb_ w hb; clear hb hbox hg) | ((with_reducible refine gate_dst (N := 3) rfl ?_); refine box_ (N := 3) (cs := #[.int .i64 a1_0, .int .i64 a1_1, .int .i64 a1_2]) (t := 30) ?_; intro gb171 hg w81 hbox hb; have BK171 := Aside0.mk (hbox); have GW171 := gz_ w hg; have GE171 := gz_ w hg; have NB170_171 := ne_ hg BK170; have NB171_170 := en_ hg BK170; replace BK170 := bb_ BK170 hb; replace HB := hb_ w hb; clear hb hbox hg) | ((with_reducible refine gate_dst (N := 4) rfl ?_); refine box_ (N := 4) (cs := #[.int .i64 0, .int .i64 0, .slice none 0 0, .int .i64 0]) (t := 24) ?_; intro gb172 hg w82 hbox hb; have BK172 := Aside0.mk (hbox); have GW172 := gz_ w hg; have GE172 := gz_ w hg; have NB170_172 := ne_ hg BK170; have NB172_170 := en_ hg BK170; have NB171_172 := ne_ hg BK171; have NB172_171 := en_ hg BK171; replace BK170 := bb_ BK170 hb; replace BK171 := bb_ BK171 hb; replace HB := hb_ w hb; clear hb hbox hg; have hnb83 := NB171_170.out; have hnc83 := NB170_171.out; have hnb84 := NB171_172.out; have hnc84 := NB172_171.out; obtain ⟨hcz85_0, hcz85_1, hcz85_2, hfz85_0, hfz85_1, hfz85_2⟩ := bc3_ (w := w82) BK171) | ((with_reducible refine gate_callee (f := 110) rfl ?_); refine goesB (some 8) Try.func110 #[.agg #[.int .i64 a1_0, .int .i64 a1_1, .int .i64 a1_2]] ?_; (with_reducible refine (impl_ShopStep_isValid.calls k a1_0 a1_1 a1_2 true _ A3.out).mono ?_); rintro e w86 ⟨rfl, hb⟩; refine ⟨_, rfl, ?_⟩; replace BK170 := bb_ BK170 hb; replace BK171 := bb_ BK171 hb; replace BK172 := bb_ BK172 hb; replace HB := hb_ w hb; clear hb; have hnb87 := NB170_172.out; have hnc87 := NB172_170.out; obtain ⟨hcz88_0, hcz88_1, hcz88_2, hcz88_3, hfz88_0, hfz88_1, hfz88_2, hfz88_3⟩ := bc4_ (w := w86) BK170) | ((with_reducible refine gate_callee (f := 61) rfl ?_); refine goesB (some 12) Try.func61 #[.agg #[.int .i64 a0_0, .int .i64 a0_1, .slice A0_2 l0_2.length c0_2, .int .i64 a0_3]] ?_; (with_reducible refine (impl_Shop_copied.calls a0_0 a0_1 _ _ l0_2 a0_3 t174 t175 t176 t179 _ ?side1 ?side2 A5.out).mono ?_); (case side1 => exact cb_ HR0_2 HB); (case side2 => exact HC0_2.out); rintro e w89 ⟨v177, rfl, ho0, hb⟩; refine ⟨_, rfl, ?_⟩; have HO178 := Aside0.mk (Kd.R_lower ho0 (below_size (bw_ w))); replace BK170 := bb_ BK170 hb; replace BK171 := bb_ BK171 hb; replace BK172 := bb_ BK172 hb; replace HB := hb_ w hb; (try clear hb); (try clear hb2); (try clear hk); (try clear hi); (try clear ho0)) | ((with_reducible refine gate_dst (N := 6) rfl ?_); refine box_ (N := 6) (cs := #[.int .i64 0, .int .i64 0, .slice none 0 0, .int .i64 0]) (t := 24) ?_; intro gb180 hg w90 hbox hb; have BK180 := Aside0.mk (hbox); have GW180 := gz_ w hg; have GE180 := gz_ w hg; have NB170_180 := ne_ hg BK170; have NB180_170 := en_ hg BK170; have NB171_180 := ne_ hg BK171; have NB180_171 := en_ hg BK171; have NB172_180 := ne_ hg BK172; have NB180_172 := en_ hg BK172; replace HO178 := Aside0.mk (Kd.R_below (ra_ HO178) hb); replace BK170 := bb_ BK170 hb; replace BK171 := bb_ BK171 hb; replace BK172 := bb_ BK172 hb; replace HB := hb_ w hb; clear hb hbox hg; have hnb91 := NB180_170.out; have hnc91 := NB170_180.out; have hnb92 := NB180_171.out; have hnc92 := NB171_180.out; have hnb93 := NB180_172.out; have hnc93 := NB172_180.out; obtain ⟨hcz94_0, hcz94_1, hcz94_2, hcz94_3, hfz94_0, hfz94_1, hfz94_2, hfz94_3⟩ := bc4_ (w := w90) BK180; obtain ⟨Ao95, co95, eo95⟩ := Kd.R_slice HO178.out; subst eo95; obtain ⟨hcz96_0, hcz96_1, hcz96_2, hfz96_0, hfz96_1, hfz96_2⟩ := bc3_ (w := w90) BK171; obtain ⟨hcz97_0, hcz97_1, hcz97_2, hcz97_3, hfz97_0, hfz97_1, hfz97_2, hfz97_3⟩ := bc4_ (w := w90) BK170) | ((with_reducible refine gate_builtin (b := .append) (xs := #[.tmp 49, .tmp 55]) rfl ?_); at_builtin; refine Kd.R_append k34 (w0 := w) w.heap.size rfl (.tmp 49) (.tmp 55) 22 34 (.agg #[(.int .i64 0), (.int .i64 0), (.int .i64 0), (.int .i64 0), (.int .i64 0)]) 40 rfl Try.underlying22 info34 rfl (by decide) (by omega) (.slice Ao95 t176.length co95) t176 (⟨a1_2, 0, 0, 0, a0_0⟩ : S34) [.int .i64 a1_2, .int .i64 0, .int .i64 0, .int .i64 0, .int .i64 a0_0] (fun _ => True) (fun _ => False) rfl (by first | (go_simp; done) | (go_simp; rfl)) ?aP (fun _ hk => hk.elim) ?aF ?aO ?aB ?aS ?aL ?_; (case aP => exact k34_mkM _ _ _ (⟨a1_2, 0, 0, 0, a0_0⟩ : S34)); (case aB => exact (bw_ w)); (case aF => exact (fun _ _ => trivial)); (case aO => exact (by exact rf_ (Kd.R_types HO178.out BK180.out (by decide)) (fun _ hk => trivial))); (case aS => exact (below_size (bw_ w))); (case aL => have := LMc53.out; omega); intro v183 w98 ho hb hg hat; rw [← Ny182.out] at ho; replace BK170 := Aside0.mk (blk_grown (g := gb170) (o := .cells #[.int .i64 a0_0, .int .i64 a0_1, .slice A0_2 l0_2.length c0_2, .int .i64 a0_3] 24 (0, 0)) (bk_ BK170) hg (Kd.R_ne HO178.out BK170.out (by decide))); replace BK171 := Aside0.mk (blk_grown (g := gb171) (o := .cells #[.int .i64 a1_0, .int .i64 a1_1, .int .i64 a1_2] 30 (0, 0)) (bk_ BK171) hg (Kd.R_ne HO178.out BK171.out (by decide))); replace BK172 := Aside0.mk (blk_grown (g := gb172) (o := .cells #[.int .i64 0, .int .i64 0, .slice none 0 0, .int .i64 0] 24 (0, 0)) (bk_ BK172) hg (Kd.R_ne HO178.out BK172.out (by decide))); replace BK180 := Aside0.mk (blk_grown (g := gb180) (o := .cells #[.int .i64 t174, .int .i64 t175, .slice Ao95 t176.length co95, .int .i64 t179] 24 (0, 0)) (bq_ BK180) hg (Kd.R_ne HO178.out BK180.out (by decide))); have HO184 := Aside0.mk (ho); replace HB := Aside0.mk (hb); clear HO178; clear ho hb hg hat; obtain ⟨Ao99, co99, eo99⟩ := Kd.R_slice HO184.out; subst eo99; obtain ⟨hcz100_0, hcz100_1, hcz100_2, hcz100_3, hfz100_0, hfz100_1, hfz100_2, hfz100_3⟩ := bc4_ (w := w98) BK180) | ((with_reducible refine gate_callee (f := 25) rfl ?_); refine goesB (some 59) Try.func25 #[.agg #[.int .i64 t174, .int .i64 t175, .slice Ao99 y182.length co99, .int .i64 t179]] ?_; (with_reducible refine (impl_IsShop.calls k t174 t175 _ _ y182 t179 false _ ?side1 ?side2 A54.out).mono ?_); (case side1 => refine (Kd.R_reads' (e := 34) (base := w.heap.size) (ok := fun k_ => True) (n := y182.length) (c := co99) ?_).2.2; exact (by exact rf_ (Kd.R_types HO184.out BK180.out (by decide)) (fun _ h_ => h_.1))); (case side2 => exact (Kd.R_reads' HO184.out).2.1); rintro e w101 ⟨rfl, hb⟩; refine ⟨_, rfl, ?_⟩; replace HO184 := Aside0.mk (Kd.R_below (by exact rf_ (Kd.R_types HO184.out BK180.out (by decide)) (fun _ h_ => h_.1)) hb); replace BK170 := bb_ BK170 hb; replace BK171 := bb_ BK171 hb; replace BK172 := bb_ BK172 hb; replace BK180 := Aside0.mk (blk_below (g := gb180) (o := .cells #[.int .i64 t174, .int .i64 t175, .slice Ao99 y182.length co99, .int .i64 t179] 24 (0, 0)) (bq_ BK180) hb); replace HB := hb_ w hb; clear hb; obtain ⟨hcz102_0, hcz102_1, hcz102_2, hcz102_3, hfz102_0, hfz102_1, hfz102_2, hfz102_3⟩ := bc4_ (w := w101) BK172))
      refine bodyPost_ret (results_ct rfl _ _ gb172 24 #[.int .i64 0, .int .i64 0, .slice none 0 0, .int .i64 0] (0, 0) _ rfl (bq_ BK172) Try.underlying24 rfl (by kernel_rfl)) rfl ?_
      exact ⟨_, by first | rfl | (simp [errW_none, errW_some] <;> rfl) | (simp [*, errW_none, errW_some] <;> rfl), by first | exact Kd.R_nil _ _ _ _ _ | exact Kd.N_nil _ _ _ _ _ | exact Kd.V_nil _ _ _ _ _ | exact Kd.Q_nil _ _ _ _ _ | exact Kd.S_nil _ _ _ _ _, (bw_ w)⟩
    ·rw [if_neg c53] at H
     exact absurd H (by simp)
   ·rw [if_neg c52] at H
    have c52b0 := beq_eq_false_iff_ne.mpr c52
    have c52b1 := bne_iff_ne.mpr c52
    have HC103 := Aside0.mk H
    clear H
    go_enter Try.func62, Try.ntmps62
    go_upto_region 5 with (first | ((with_reducible refine gate_dst (N := 2) rfl ?_); refine box_ (N := 2) (cs := #[.int .i64 a0_0, .int .i64 a0_1, .slice A0_2 l0_2.length c0_2, .int .i64 a0_3]) (t := 24) ?_; intro gb170 hg w104 hbox hb; have BK170 := Aside0.mk (hbox); have GW170 := gz_ w hg; have GE170 := gz_ w hg; replace HB := hb_ w hb; clear hb hbox hg) | ((with_reducible refine gate_dst (N := 3) rfl ?_); refine box_ (N := 3) (cs := #[.int .i64 a1_0, .int .i64 a1_1, .int .i64 a1_2]) (t := 30) ?_; intro gb171 hg w105 hbox hb; have BK171 := Aside0.mk (hbox); have GW171 := gz_ w hg; have GE171 := gz_ w hg; have NB170_171 := ne_ hg BK170; have NB171_170 := en_ hg BK170; replace BK170 := bb_ BK170 hb; replace HB := hb_ w hb; clear hb hbox hg) | ((with_reducible refine gate_dst (N := 4) rfl ?_); refine box_ (N := 4) (cs := #[.int .i64 0, .int .i64 0, .slice none 0 0, .int .i64 0]) (t := 24) ?_; intro gb172 hg w106 hbox hb; have BK172 := Aside0.mk (hbox); have GW172 := gz_ w hg; have GE172 := gz_ w hg; have NB170_172 := ne_ hg BK170; have NB172_170 := en_ hg BK170; have NB171_172 := ne_ hg BK171; have NB172_171 := en_ hg BK171; replace BK170 := bb_ BK170 hb; replace BK171 := bb_ BK171 hb; replace HB := hb_ w hb; clear hb hbox hg; have hnb107 := NB171_170.out; have hnc107 := NB170_171.out; have hnb108 := NB171_172.out; have hnc108 := NB172_171.out; obtain ⟨hcz109_0, hcz109_1, hcz109_2, hfz109_0, hfz109_1, hfz109_2⟩ := bc3_ (w := w106) BK171) | ((with_reducible refine gate_callee (f := 110) rfl ?_); refine goesB (some 8) Try.func110 #[.agg #[.int .i64 a1_0, .int .i64 a1_1, .int .i64 a1_2]] ?_; (with_reducible refine (impl_ShopStep_isValid.calls k a1_0 a1_1 a1_2 true _ A3.out).mono ?_); rintro e w110 ⟨rfl, hb⟩; refine ⟨_, rfl, ?_⟩; replace BK170 := bb_ BK170 hb; replace BK171 := bb_ BK171 hb; replace BK172 := bb_ BK172 hb; replace HB := hb_ w hb; clear hb; have hnb111 := NB170_172.out; have hnc111 := NB172_170.out; obtain ⟨hcz112_0, hcz112_1, hcz112_2, hcz112_3, hfz112_0, hfz112_1, hfz112_2, hfz112_3⟩ := bc4_ (w := w110) BK170) | ((with_reducible refine gate_callee (f := 61) rfl ?_); refine goesB (some 12) Try.func61 #[.agg #[.int .i64 a0_0, .int .i64 a0_1, .slice A0_2 l0_2.length c0_2, .int .i64 a0_3]] ?_; (with_reducible refine (impl_Shop_copied.calls a0_0 a0_1 _ _ l0_2 a0_3 t174 t175 t176 t179 _ ?side1 ?side2 A5.out).mono ?_); (case side1 => exact cb_ HR0_2 HB); (case side2 => exact HC0_2.out); rintro e w113 ⟨v177, rfl, ho0, hb⟩; refine ⟨_, rfl, ?_⟩; have HO178 := Aside0.mk (Kd.R_lower ho0 (below_size (bw_ w))); replace BK170 := bb_ BK170 hb; replace BK171 := bb_ BK171 hb; replace BK172 := bb_ BK172 hb; replace HB := hb_ w hb; (try clear hb); (try clear hb2); (try clear hk); (try clear hi); (try clear ho0)) | ((with_reducible refine gate_dst (N := 6) rfl ?_); refine box_ (N := 6) (cs := #[.int .i64 0, .int .i64 0, .slice none 0 0, .int .i64 0]) (t := 24) ?_; intro gb180 hg w114 hbox hb; have BK180 := Aside0.mk (hbox); have GW180 := gz_ w hg; have GE180 := gz_ w hg; have NB170_180 := ne_ hg BK170; have NB180_170 := en_ hg BK170; have NB171_180 := ne_ hg BK171; have NB180_171 := en_ hg BK171; have NB172_180 := ne_ hg BK172; have NB180_172 := en_ hg BK172; replace HO178 := Aside0.mk (Kd.R_below (ra_ HO178) hb); replace BK170 := bb_ BK170 hb; replace BK171 := bb_ BK171 hb; replace BK172 := bb_ BK172 hb; replace HB := hb_ w hb; clear hb hbox hg; have hnb115 := NB180_170.out; have hnc115 := NB170_180.out; have hnb116 := NB180_171.out; have hnc116 := NB171_180.out; have hnb117 := NB180_172.out; have hnc117 := NB172_180.out; obtain ⟨hcz118_0, hcz118_1, hcz118_2, hcz118_3, hfz118_0, hfz118_1, hfz118_2, hfz118_3⟩ := bc4_ (w := w114) BK180; obtain ⟨Ao119, co119, eo119⟩ := Kd.R_slice HO178.out; subst eo119; obtain ⟨hcz120_0, hcz120_1, hcz120_2, hfz120_0, hfz120_1, hfz120_2⟩ := bc3_ (w := w114) BK171))
    (try simp only [Act.put, List.setIfInBounds_toArray, List.set_cons_zero, List.set_cons_succ])
    go_cut [34] (fun v34 wc => ∃ (kq : Nat) (x34_102 : Bool), v34 = .bool x34_102 ∧ Aside0 (impl_Shop_step.j0 kq x34_102 a1_0 a1_1 a1_2 t174 t175 t176 t179 = some (r1, r2, r3, r4, r5)) ∧ Aside0 (kq ≤ k) ∧ Aside0 (Kd.R k34 34 wc w.heap.size (fun _ => True) (.slice Ao119 t176.length co119) t176) ∧ Aside0 (wc.heap[gb170]? = some (.cells #[.int .i64 a0_0, .int .i64 a0_1, (.slice A0_2 l0_2.length c0_2), .int .i64 a0_3] 24 (0, 0))) ∧ Aside0 (wc.heap[gb171]? = some (.cells #[.int .i64 a1_0, .int .i64 a1_1, .int .i64 a1_2] 30 (0, 0))) ∧ Aside0 (wc.heap[gb172]? = some (.cells #[.int .i64 0, .int .i64 0, (.slice none 0 0), .int .i64 0] 24 (0, 0))) ∧ Aside0 (wc.heap[gb180]? = some (.cells #[.int .i64 t174, .int .i64 t175, (.slice Ao119 t176.length co119), .int .i64 t179] 24 (0, 0))) ∧ Aside0 (Below w.heap.size w wc))
    case first =>
     have H := HC103.out
     clear HC103
     replace H := Option.bind_eq_some_iff.mp H
     obtain ⟨t186, A1210, H⟩ := H
     (try dsimp only at H)
     have A121 := Aside0.mk A1210
     clear A1210
     by_cases c122 : t186 = true
     ·subst c122
      rw [if_pos rfl] at H
      by_cases c123 : 0 ≤ a1_1
      ·rw [if_pos c123] at H
       have c123b0 := decide_eq_true c123
       clear c123
       (first | rw [c123b0] | (simp only [i64_w, i32_w]; rw [c123b0]) | skip)
       by_cases c124 : a1_1 < (l0_2.length : Int)
       ·rw [if_pos c124] at H
        have c124b0 := decide_eq_true c124
        clear c124
        replace H := Option.bind_eq_some_iff.mp H
        obtain ⟨t188, A1250, H⟩ := H
        (try dsimp only at H)
        have A125 := Aside0.mk A1250
        clear A1250
        have H' := Aside0.mk H
        clear H
        try go_wp2
        have n0_ : Aside0 (Kd.R k34 34 ((((w114.setCell ⟨gb180, 0, none⟩ (.int .i64 t174)).setCell ⟨gb180, 1, none⟩ (.int .i64 t175)).setCell ⟨gb180, 2, none⟩ (.slice Ao119 t176.length co119)).setCell ⟨gb180, 3, none⟩ (.int .i64 t179)) w.heap.size (fun _ => True) (.slice Ao119 t176.length co119) t176) := ⟨by exact rf_ (Kd.R_types HO178.out BK180.out (by decide)) (fun _ hk => trivial)⟩
        have n1_ : Aside0 (((((w114.setCell ⟨gb180, 0, none⟩ (.int .i64 t174)).setCell ⟨gb180, 1, none⟩ (.int .i64 t175)).setCell ⟨gb180, 2, none⟩ (.slice Ao119 t176.length co119)).setCell ⟨gb180, 3, none⟩ (.int .i64 t179)).heap[gb170]? = some (.cells #[.int .i64 a0_0, .int .i64 a0_1, .slice A0_2 l0_2.length c0_2, .int .i64 a0_3] 24 (0, 0))) := ⟨bk_ BK170⟩
        have n2_ : Aside0 (((((w114.setCell ⟨gb180, 0, none⟩ (.int .i64 t174)).setCell ⟨gb180, 1, none⟩ (.int .i64 t175)).setCell ⟨gb180, 2, none⟩ (.slice Ao119 t176.length co119)).setCell ⟨gb180, 3, none⟩ (.int .i64 t179)).heap[gb171]? = some (.cells #[.int .i64 a1_0, .int .i64 a1_1, .int .i64 a1_2] 30 (0, 0))) := ⟨bk_ BK171⟩
        have n3_ : Aside0 (((((w114.setCell ⟨gb180, 0, none⟩ (.int .i64 t174)).setCell ⟨gb180, 1, none⟩ (.int .i64 t175)).setCell ⟨gb180, 2, none⟩ (.slice Ao119 t176.length co119)).setCell ⟨gb180, 3, none⟩ (.int .i64 t179)).heap[gb172]? = some (.cells #[.int .i64 0, .int .i64 0, .slice none 0 0, .int .i64 0] 24 (0, 0))) := ⟨bk_ BK172⟩
        have n4_ : Aside0 (((((w114.setCell ⟨gb180, 0, none⟩ (.int .i64 t174)).setCell ⟨gb180, 1, none⟩ (.int .i64 t175)).setCell ⟨gb180, 2, none⟩ (.slice Ao119 t176.length co119)).setCell ⟨gb180, 3, none⟩ (.int .i64 t179)).heap[gb180]? = some (.cells #[.int .i64 t174, .int .i64 t175, .slice Ao119 t176.length co119, .int .i64 t179] 24 (0, 0))) := ⟨bq_ BK180⟩
        have n5_ : Aside0 (Below w.heap.size w ((((w114.setCell ⟨gb180, 0, none⟩ (.int .i64 t174)).setCell ⟨gb180, 1, none⟩ (.int .i64 t175)).setCell ⟨gb180, 2, none⟩ (.slice Ao119 t176.length co119)).setCell ⟨gb180, 3, none⟩ (.int .i64 t179))) := ⟨(bw_ w)⟩
        (try clear HO178)
        (try clear BK170)
        (try clear BK171)
        (try clear BK172)
        (try clear BK180)
        (try clear HB)
        generalize ((((w114.setCell ⟨gb180, 0, none⟩ (.int .i64 t174)).setCell ⟨gb180, 1, none⟩ (.int .i64 t175)).setCell ⟨gb180, 2, none⟩ (.slice Ao119 t176.length co119)).setCell ⟨gb180, 3, none⟩ (.int .i64 t179)) = w126 at n0_ n1_ n2_ n3_ n4_ n5_ ⊢
        have HO178 := n0_
        have BK170 := n1_
        have BK171 := n2_
        have BK172 := n3_
        have BK180 := n4_
        have HB := n5_
        clear n0_ n1_ n2_ n3_ n4_ n5_
        replace HO178 := Aside0.mk (Kd.R_drew HO178.out)
        replace BK170 := Aside0.mk (blk_drew BK170.out)
        replace BK171 := Aside0.mk (blk_drew BK171.out)
        replace BK172 := Aside0.mk (blk_drew BK172.out)
        replace BK180 := Aside0.mk (blk_drew BK180.out)
        replace HB := Aside0.mk (below_drew1 HB.out)
        have p187 : 0 ≤ (a1_1 : Int) := of_decide_eq_true (by first | (with_reducible assumption) | assumption)
        have q187 : a1_1 < (l0_2.length : Int) := of_decide_eq_true (by first | (with_reducible assumption) | assumption)
        obtain ⟨ad187, e187, hx187_0, hx187_1, hx187_2, hx187_3, hx187_4⟩ := at_T34 HR0_2.out a1_1 p187 q187
        have hw187_4 := hx187_4
        have hw187_3 := hx187_3
        have hw187_2 := hx187_2
        have hw187_1 := hx187_1
        have hw187_0 := hx187_0
        cases e187
        replace hx187_0 := (HB.out.cell (World.block_lt_of_cell? w _ hx187_0)).trans hx187_0
        replace hx187_1 := (HB.out.cell (World.block_lt_of_cell? w _ hx187_1)).trans hx187_1
        replace hx187_2 := (HB.out.cell (World.block_lt_of_cell? w _ hx187_2)).trans hx187_2
        replace hx187_3 := (HB.out.cell (World.block_lt_of_cell? w _ hx187_3)).trans hx187_3
        replace hx187_4 := (HB.out.cell (World.block_lt_of_cell? w _ hx187_4)).trans hx187_4
        replace p187 := eq_true p187
        replace q187 := eq_true q187
        refine start_ (n := 20) (S := fun w' => w'.cell? ⟨gb171, 0, none⟩ = some (.int .i64 a1_0) ∧ w'.cell? ⟨gb171, 1, none⟩ = some (.int .i64 a1_1) ∧ w'.cell? ⟨gb171, 2, none⟩ = some (.int .i64 a1_2) ∧ w'.cell? ⟨gb170, 0, none⟩ = some (.int .i64 a0_0) ∧ w'.cell? ⟨gb170, 1, none⟩ = some (.int .i64 a0_1) ∧ w'.cell? ⟨gb170, 2, none⟩ = some (.slice (some ad187) l0_2.length c0_2) ∧ w'.cell? ⟨gb170, 3, none⟩ = some (.int .i64 a0_3) ∧ w'.cell? (ad187.add ((a1_1).toNat * 5)) = some (.int .i64 ((rd_T34 l0_2 a1_1).f0)) ∧ w'.cell? ⟨(ad187.add ((a1_1).toNat * 5)).block, (ad187.add ((a1_1).toNat * 5)).off + 1, none⟩ = some (.int .i64 ((rd_T34 l0_2 a1_1).f1)) ∧ w'.cell? ⟨(ad187.add ((a1_1).toNat * 5)).block, (ad187.add ((a1_1).toNat * 5)).off + 2, none⟩ = some (.int .i64 ((rd_T34 l0_2 a1_1).f2)) ∧ w'.cell? ⟨(ad187.add ((a1_1).toNat * 5)).block, (ad187.add ((a1_1).toNat * 5)).off + 3, none⟩ = some (.int .i64 ((rd_T34 l0_2 a1_1).f3)) ∧ w'.cell? ⟨(ad187.add ((a1_1).toNat * 5)).block, (ad187.add ((a1_1).toNat * 5)).off + 4, none⟩ = some (.int .i64 ((rd_T34 l0_2 a1_1).f4))) (ds := []) #[false, false, false, false, false, false, false, false, false, false, false, false, false, false, false, false, false, false, false, false] (by kernel_rfl) rfl rfl ⟨bc_ BK171 0, bc_ BK171 1, bc_ BK171 2, bc_ BK170 0, bc_ BK170 1, bc_ BK170 2, bc_ BK170 3, (bh_ HB hw187_0 :), (bh_ HB hw187_1 :), (bh_ HB hw187_2 :), (bh_ HB hw187_3 :), (bh_ HB hw187_4 :)⟩ (fun hHeld => ?_); refine with_tabW impl_Shop_step.tab5 impl_Shop_step.bits5 (fun HT_ HW_ => ?_)
        generalize w126.drew = w127 at HO178 BK170 BK171 BK172 BK180 HB hx187_0 hx187_1 hx187_2 hx187_3 hx187_4 hHeld ⊢
        refine pureA (N := some 15) 0 HT_ ?_
        refine pureA (N := some 17) 2 HT_ ?_
        refine takeA (N := some 16) 1 HT_ HW_ hHeld ?_
        refine takeA (N := some 18) 3 HT_ HW_ hHeld ?_
        refine pureA (N := some 19) 4 HT_ ?_
        refine pureA (N := some 20) 5 HT_ ?_
        refine oneA (N := some 21) 6 HT_ (fun K hK => ?_)
        refine goesA Try.func76 #[.int .i64 a1_1, .int .i64 0, .int .i64 (wrap64 ((l0_2.length : Int) - 1))] ?_
        with_reducible refine (impl_in.calls a1_1 0 (wrap64 ((l0_2.length : Int) - 1)) true _ A121.out).mono ?_
        rintro e w' ⟨rfl, ⟨nd, rfl⟩⟩
        refine ⟨_, rfl, ?_⟩
        refine hK.out _ _ ⟨bc_ BK171 0, bc_ BK171 1, bc_ BK171 2, bc_ BK170 0, bc_ BK170 1, bc_ BK170 2, bc_ BK170 3, (bh_ HB hw187_0 :), (bh_ HB hw187_1 :), (bh_ HB hw187_2 :), (bh_ HB hw187_3 :), (bh_ HB hw187_4 :)⟩ (fun hHeld => ?_)
        clear hK K
        refine normA (N := some 21) ?_
        refine pureA (N := some 22) 7 HT_ ?_
        refine pureA (N := some 23) 8 HT_ ?_
        refine pureA (N := some 26) 11 HT_ ?_
        refine pureA (N := some 28) 13 HT_ ?_
        refine takeA (N := some 24) 9 HT_ HW_ hHeld ?_
        refine takeA (N := some 25) 10 HT_ HW_ hHeld ?_
        refine takeA (N := some 27) 12 HT_ HW_ hHeld ?_
        refine takeA (N := some 29) 14 HT_ HW_ hHeld ?_
        refine pureA (N := some 30) 15 HT_ ?_
        refine takeA (N := some 31) 16 HT_ HW_ hHeld ?_
        refine oneA (N := some 32) 17 HT_ (fun K hK => ?_)
        refine goesA Try.func111 #[.agg #[.int .i64 a0_0, .int .i64 a0_1, .slice (some ad187) l0_2.length c0_2, .int .i64 a0_3], .agg #[.int .i64 a1_0, .int .i64 a1_1, .int .i64 a1_2], .agg #[.int .i64 ((rd_T34 l0_2 a1_1).f0), .int .i64 ((rd_T34 l0_2 a1_1).f1), .int .i64 ((rd_T34 l0_2 a1_1).f2), .int .i64 ((rd_T34 l0_2 a1_1).f3), .int .i64 ((rd_T34 l0_2 a1_1).f4)]] ?_
        with_reducible refine (impl_Shop_canChange.calls k a0_0 a0_1 _ _ l0_2 a0_3 a1_0 a1_1 a1_2 ((rd_T34 l0_2 a1_1).f0) ((rd_T34 l0_2 a1_1).f1) ((rd_T34 l0_2 a1_1).f2) ((rd_T34 l0_2 a1_1).f3) ((rd_T34 l0_2 a1_1).f4) t188 _ ?side1 ?side2 A125.out).mono ?_
        (case side1 => repeat (first | exact (Kd.C_below HR0_2.out (bw_ w)) | (with_reducible refine Kd.C_alloc ?_ _) | (with_reducible refine Kd.C_drewN ?_ _) | (with_reducible refine Kd.C_drew ?_)))
        (case side2 => exact HC0_2.out)
        rintro e w128 ⟨rfl, hb⟩
        refine ⟨_, rfl, ?_⟩
        replace HO178 := Aside0.mk (Kd.R_below (ra_ HO178) hb)
        replace BK170 := bb_ BK170 hb
        replace BK171 := bb_ BK171 hb
        replace BK172 := bb_ BK172 hb
        replace BK180 := bb_ BK180 hb
        replace HB := hb_ w hb
        clear hb
        refine hK.out _ _ ⟨bc_ BK171 0, bc_ BK171 1, bc_ BK171 2, bc_ BK170 0, bc_ BK170 1, bc_ BK170 2, bc_ BK170 3, (bh_ HB hw187_0 :), (bh_ HB hw187_1 :), (bh_ HB hw187_2 :), (bh_ HB hw187_3 :), (bh_ HB hw187_4 :)⟩ (fun hHeld => ?_)
        clear hK K
        refine normA (N := some 32) ?_
        refine pureA (N := some 33) 18 HT_ ?_
        refine pureA (N := some 34) 19 HT_ ?_
        refine done_ (done_of HT_.out (by kernel_rfl)) ?_
        try go_wp2
        go_meet
        case rel => exact ⟨_, (!t188), (by first | rfl | (simp; done) | (simp [*]; done)), H', ⟨by first | omega | exact Nat.le_refl _⟩, ⟨ra_ HO178⟩, ⟨bk_ BK170⟩, ⟨bk_ BK171⟩, ⟨bk_ BK172⟩, ⟨bk_ BK180⟩, ⟨(bw_ w)⟩⟩
       ·rw [if_neg c124] at H
        exact absurd H (by simp)
      ·rw [if_neg c123] at H
       exact absurd H (by simp)
     ·replace c122 := Bool.eq_false_iff.mpr c122
      subst c122
      rw [if_neg (show ¬ (false = true) by decide)] at H
      have H' := Aside0.mk H
      clear H
      try go_wp2
      have n0_ : Aside0 (Kd.R k34 34 ((((w114.setCell ⟨gb180, 0, none⟩ (.int .i64 t174)).setCell ⟨gb180, 1, none⟩ (.int .i64 t175)).setCell ⟨gb180, 2, none⟩ (.slice Ao119 t176.length co119)).setCell ⟨gb180, 3, none⟩ (.int .i64 t179)) w.heap.size (fun _ => True) (.slice Ao119 t176.length co119) t176) := ⟨by exact rf_ (Kd.R_types HO178.out BK180.out (by decide)) (fun _ hk => trivial)⟩
      have n1_ : Aside0 (((((w114.setCell ⟨gb180, 0, none⟩ (.int .i64 t174)).setCell ⟨gb180, 1, none⟩ (.int .i64 t175)).setCell ⟨gb180, 2, none⟩ (.slice Ao119 t176.length co119)).setCell ⟨gb180, 3, none⟩ (.int .i64 t179)).heap[gb170]? = some (.cells #[.int .i64 a0_0, .int .i64 a0_1, .slice A0_2 l0_2.length c0_2, .int .i64 a0_3] 24 (0, 0))) := ⟨bk_ BK170⟩
      have n2_ : Aside0 (((((w114.setCell ⟨gb180, 0, none⟩ (.int .i64 t174)).setCell ⟨gb180, 1, none⟩ (.int .i64 t175)).setCell ⟨gb180, 2, none⟩ (.slice Ao119 t176.length co119)).setCell ⟨gb180, 3, none⟩ (.int .i64 t179)).heap[gb171]? = some (.cells #[.int .i64 a1_0, .int .i64 a1_1, .int .i64 a1_2] 30 (0, 0))) := ⟨bk_ BK171⟩
      have n3_ : Aside0 (((((w114.setCell ⟨gb180, 0, none⟩ (.int .i64 t174)).setCell ⟨gb180, 1, none⟩ (.int .i64 t175)).setCell ⟨gb180, 2, none⟩ (.slice Ao119 t176.length co119)).setCell ⟨gb180, 3, none⟩ (.int .i64 t179)).heap[gb172]? = some (.cells #[.int .i64 0, .int .i64 0, .slice none 0 0, .int .i64 0] 24 (0, 0))) := ⟨bk_ BK172⟩
      have n4_ : Aside0 (((((w114.setCell ⟨gb180, 0, none⟩ (.int .i64 t174)).setCell ⟨gb180, 1, none⟩ (.int .i64 t175)).setCell ⟨gb180, 2, none⟩ (.slice Ao119 t176.length co119)).setCell ⟨gb180, 3, none⟩ (.int .i64 t179)).heap[gb180]? = some (.cells #[.int .i64 t174, .int .i64 t175, .slice Ao119 t176.length co119, .int .i64 t179] 24 (0, 0))) := ⟨bq_ BK180⟩
      have n5_ : Aside0 (Below w.heap.size w ((((w114.setCell ⟨gb180, 0, none⟩ (.int .i64 t174)).setCell ⟨gb180, 1, none⟩ (.int .i64 t175)).setCell ⟨gb180, 2, none⟩ (.slice Ao119 t176.length co119)).setCell ⟨gb180, 3, none⟩ (.int .i64 t179))) := ⟨(bw_ w)⟩
      (try clear HO178)
      (try clear BK170)
      (try clear BK171)
      (try clear BK172)
      (try clear BK180)
      (try clear HB)
      generalize ((((w114.setCell ⟨gb180, 0, none⟩ (.int .i64 t174)).setCell ⟨gb180, 1, none⟩ (.int .i64 t175)).setCell ⟨gb180, 2, none⟩ (.slice Ao119 t176.length co119)).setCell ⟨gb180, 3, none⟩ (.int .i64 t179)) = w129 at n0_ n1_ n2_ n3_ n4_ n5_ ⊢
      have HO178 := n0_
      have BK170 := n1_
      have BK171 := n2_
      have BK172 := n3_
      have BK180 := n4_
      have HB := n5_
      clear n0_ n1_ n2_ n3_ n4_ n5_
      replace HO178 := Aside0.mk (Kd.R_drew HO178.out)
      replace BK170 := Aside0.mk (blk_drew BK170.out)
      replace BK171 := Aside0.mk (blk_drew BK171.out)
      replace BK172 := Aside0.mk (blk_drew BK172.out)
      replace BK180 := Aside0.mk (blk_drew BK180.out)
      replace HB := Aside0.mk (below_drew1 HB.out)
      refine start_ (n := 20) (S := fun w' => w'.cell? ⟨gb171, 0, none⟩ = some (.int .i64 a1_0) ∧ w'.cell? ⟨gb171, 1, none⟩ = some (.int .i64 a1_1) ∧ w'.cell? ⟨gb171, 2, none⟩ = some (.int .i64 a1_2) ∧ w'.cell? ⟨gb170, 0, none⟩ = some (.int .i64 a0_0) ∧ w'.cell? ⟨gb170, 1, none⟩ = some (.int .i64 a0_1) ∧ w'.cell? ⟨gb170, 2, none⟩ = some (.slice A0_2 l0_2.length c0_2) ∧ w'.cell? ⟨gb170, 3, none⟩ = some (.int .i64 a0_3)) (ds := []) #[false, false, false, false, false, false, false, false, false, false, false, false, false, false, false, false, false, false, false, false] (by kernel_rfl) rfl rfl ⟨bc_ BK171 0, bc_ BK171 1, bc_ BK171 2, bc_ BK170 0, bc_ BK170 1, bc_ BK170 2, bc_ BK170 3⟩ (fun hHeld => ?_); refine with_tabW impl_Shop_step.tab5 impl_Shop_step.bits5 (fun HT_ HW_ => ?_)
      generalize w129.drew = w130 at HO178 BK170 BK171 BK172 BK180 HB hHeld ⊢
      refine pureA (N := some 15) 0 HT_ ?_
      refine pureA (N := some 17) 2 HT_ ?_
      refine takeA (N := some 16) 1 HT_ HW_ hHeld ?_
      refine takeA (N := some 18) 3 HT_ HW_ hHeld ?_
      refine pureA (N := some 19) 4 HT_ ?_
      refine pureA (N := some 20) 5 HT_ ?_
      refine oneA (N := some 21) 6 HT_ (fun K hK => ?_)
      refine goesA Try.func76 #[.int .i64 a1_1, .int .i64 0, .int .i64 (wrap64 ((l0_2.length : Int) - 1))] ?_
      with_reducible refine (impl_in.calls a1_1 0 (wrap64 ((l0_2.length : Int) - 1)) false _ A121.out).mono ?_
      rintro e w' ⟨rfl, ⟨nd, rfl⟩⟩
      refine ⟨_, rfl, ?_⟩
      refine hK.out _ _ ⟨bc_ BK171 0, bc_ BK171 1, bc_ BK171 2, bc_ BK170 0, bc_ BK170 1, bc_ BK170 2, bc_ BK170 3⟩ (fun hHeld => ?_)
      clear hK K
      refine normA (N := some 21) ?_
      refine pureA (N := some 22) 7 HT_ ?_
      refine pureA (N := some 23) 8 HT_ ?_
      refine pure_ (i := 9) (N := some 24) (v := undef) (a' := ?_) #[true, true, true, true, true, true, true, true, true, true, false, false, false, false, false, false, false, false, false, false] rfl rfl (any_of HT_.out (by kernel_rfl)) (fun _ _ _ h => h) (Or.inr ⟨by rfl, rfl⟩) ?_ ?_
      rotate_left
      ·simp only [Act.put, List.setIfInBounds_toArray, List.set_cons_zero, List.set_cons_succ, i64_w, i32_w]
       rfl
      refine pure_ (i := 10) (N := some 25) (v := undef) (a' := ?_) #[true, true, true, true, true, true, true, true, true, true, true, false, false, false, false, false, false, false, false, false] rfl rfl (any_of HT_.out (by kernel_rfl)) (fun _ _ _ h => h) (Or.inr ⟨by rfl, rfl⟩) ?_ ?_
      rotate_left
      ·simp only [Act.put, List.setIfInBounds_toArray, List.set_cons_zero, List.set_cons_succ, i64_w, i32_w]
       rfl
      refine pure_ (i := 11) (N := some 26) (v := undef) (a' := ?_) #[true, true, true, true, true, true, true, true, true, true, true, true, false, false, false, false, false, false, false, false] rfl rfl (any_of HT_.out (by kernel_rfl)) (fun _ _ _ h => h) (Or.inr ⟨by rfl, rfl⟩) ?_ ?_
      rotate_left
      ·simp only [Act.put, List.setIfInBounds_toArray, List.set_cons_zero, List.set_cons_succ, i64_w, i32_w]
       rfl
      refine pure_ (i := 12) (N := some 27) (v := undef) (a' := ?_) #[true, true, true, true, true, true, true, true, true, true, true, true, true, false, false, false, false, false, false, false] rfl rfl (any_of HT_.out (by kernel_rfl)) (fun _ _ _ h => h) (Or.inr ⟨by rfl, rfl⟩) ?_ ?_
      rotate_left
      ·simp only [Act.put, List.setIfInBounds_toArray, List.set_cons_zero, List.set_cons_succ, i64_w, i32_w]
       rfl
      refine pure_ (i := 13) (N := some 28) (v := undef) (a' := ?_) #[true, true, true, true, true, true, true, true, true, true, true, true, true, true, false, false, false, false, false, false] rfl rfl (any_of HT_.out (by kernel_rfl)) (fun _ _ _ h => h) (Or.inr ⟨by rfl, rfl⟩) ?_ ?_
      rotate_left
      ·simp only [Act.put, List.setIfInBounds_toArray, List.set_cons_zero, List.set_cons_succ, i64_w, i32_w]
       rfl
      refine pure_ (i := 14) (N := some 29) (v := undef) (a' := ?_) #[true, true, true, true, true, true, true, true, true, true, true, true, true, true, true, false, false, false, false, false] rfl rfl (any_of HT_.out (by kernel_rfl)) (fun _ _ _ h => h) (Or.inr ⟨by rfl, rfl⟩) ?_ ?_
      rotate_left
      ·simp only [Act.put, List.setIfInBounds_toArray, List.set_cons_zero, List.set_cons_succ, i64_w, i32_w]
       rfl
      refine pure_ (i := 15) (N := some 30) (v := undef) (a' := ?_) #[true, true, true, true, true, true, true, true, true, true, true, true, true, true, true, true, false, false, false, false] rfl rfl (any_of HT_.out (by kernel_rfl)) (fun _ _ _ h => h) (Or.inr ⟨by rfl, rfl⟩) ?_ ?_
      rotate_left
      ·simp only [Act.put, List.setIfInBounds_toArray, List.set_cons_zero, List.set_cons_succ, i64_w, i32_w]
       rfl
      refine pure_ (i := 16) (N := some 31) (v := undef) (a' := ?_) #[true, true, true, true, true, true, true, true, true, true, true, true, true, true, true, true, true, false, false, false] rfl rfl (any_of HT_.out (by kernel_rfl)) (fun _ _ _ h => h) (Or.inr ⟨by rfl, rfl⟩) ?_ ?_
      rotate_left
      ·simp only [Act.put, List.setIfInBounds_toArray, List.set_cons_zero, List.set_cons_succ, i64_w, i32_w]
       rfl
      refine pure_ (i := 17) (N := some 32) (v := undef) (a' := ?_) #[true, true, true, true, true, true, true, true, true, true, true, true, true, true, true, true, true, true, false, false] rfl rfl (any_of HT_.out (by kernel_rfl)) (fun _ _ _ h => h) (Or.inr ⟨by rfl, rfl⟩) ?_ ?_
      rotate_left
      ·simp only [Act.put, List.setIfInBounds_toArray, List.set_cons_zero, List.set_cons_succ, i64_w, i32_w]
       rfl
      refine pure_ (i := 18) (N := some 33) (v := undef) (a' := ?_) #[true, true, true, true, true, true, true, true, true, true, true, true, true, true, true, true, true, true, true, false] rfl rfl (any_of HT_.out (by kernel_rfl)) (fun _ _ _ h => h) (Or.inr ⟨by rfl, rfl⟩) ?_ ?_
      rotate_left
      ·simp only [Act.put, List.setIfInBounds_toArray, List.set_cons_zero, List.set_cons_succ, i64_w, i32_w]
       rfl
      refine pureA (N := some 34) 19 HT_ ?_
      refine done_ (done_of HT_.out (by kernel_rfl)) ?_
      try go_wp2
      go_meet
      case rel => exact ⟨_, (true), (by first | rfl | (simp; done) | (simp [*]; done)), H', ⟨by first | omega | exact Nat.le_refl _⟩, ⟨ra_ HO178⟩, ⟨bk_ BK170⟩, ⟨bk_ BK171⟩, ⟨bk_ BK172⟩, ⟨bk_ BK180⟩, ⟨(bw_ w)⟩⟩
    case rest =>
     clear HC103
     try clear c1
     try clear p1
     try clear q1
     try clear hx1
     try clear c2
     try clear p2
     try clear c3
     try clear c4
     try clear c5
     try clear c6
     try clear c6b0
     try clear c6b1
     try clear p6
     try clear c7
     try clear c8
     try clear c9
     try clear c10
     try clear c11
     try clear c12
     try clear c13
     try clear c16
     try clear p18
     try clear q18
     try clear hx18
     try clear c20
     try clear c21
     try clear c22
     try clear c25
     try clear c34
     try clear c35
     try clear c38
     try clear c42
     try clear c43
     try clear c44
     try clear c52
     try clear c52b0
     try clear c52b1
     try clear c53
     try clear c55
     try clear c59
     try clear c60
     try clear c61
     try clear c62
     try clear c63
     try clear p64
     try clear c67
     try clear c68
     try clear c69
     try clear c76
     try clear c83
     try clear c84
     try clear c87
     try clear c91
     try clear c92
     try clear c93
     try clear c107
     try clear c108
     try clear c110
     try clear c111
     try clear c115
     try clear c116
     try clear c117
     try clear c122
     try clear c123
     try clear c123b0
     try clear c124
     try clear c124b0
     try clear hcz100_0 hcz100_1 hcz100_2 hcz100_3
     try clear hcz102_0 hcz102_1 hcz102_2 hcz102_3
     try clear hcz109_0 hcz109_1 hcz109_2
     try clear hcz112_0 hcz112_1 hcz112_2 hcz112_3
     try clear hcz118_0 hcz118_1 hcz118_2 hcz118_3
     try clear hcz120_0 hcz120_1 hcz120_2
     try clear hcz14_0 hcz14_1 hcz14_2
     try clear hcz17_0 hcz17_1 hcz17_2 hcz17_3
     try clear hcz23_0 hcz23_1 hcz23_2 hcz23_3
     try clear hcz25_0 hcz25_1 hcz25_2
     try clear hcz27_0 hcz27_1 hcz27_2 hcz27_3
     try clear hcz29_0 hcz29_1 hcz29_2 hcz29_3
     try clear hcz30_0 hcz30_1 hcz30_2 hcz30_3
     try clear hcz36_0 hcz36_1 hcz36_2
     try clear hcz39_0 hcz39_1 hcz39_2 hcz39_3
     try clear hcz45_0 hcz45_1 hcz45_2 hcz45_3
     try clear hcz47_0 hcz47_1 hcz47_2
     try clear hcz49_0 hcz49_1 hcz49_2 hcz49_3
     try clear hcz51_0 hcz51_1 hcz51_2 hcz51_3
     try clear hcz61_0 hcz61_1 hcz61_2
     try clear hcz64_0 hcz64_1 hcz64_2 hcz64_3
     try clear hcz70_0 hcz70_1 hcz70_2 hcz70_3
     try clear hcz72_0 hcz72_1 hcz72_2
     try clear hcz73_0 hcz73_1 hcz73_2 hcz73_3
     try clear hcz76_0 hcz76_1 hcz76_2 hcz76_3
     try clear hcz78_0 hcz78_1 hcz78_2 hcz78_3
     try clear hcz79_0 hcz79_1 hcz79_2 hcz79_3
     try clear hcz85_0 hcz85_1 hcz85_2
     try clear hcz88_0 hcz88_1 hcz88_2 hcz88_3
     try clear hcz94_0 hcz94_1 hcz94_2 hcz94_3
     try clear hcz96_0 hcz96_1 hcz96_2
     try clear hcz97_0 hcz97_1 hcz97_2 hcz97_3
     try clear hfz100_0 hfz100_1 hfz100_2 hfz100_3
     try clear hfz102_0 hfz102_1 hfz102_2 hfz102_3
     try clear hfz109_0 hfz109_1 hfz109_2
     try clear hfz112_0 hfz112_1 hfz112_2 hfz112_3
     try clear hfz118_0 hfz118_1 hfz118_2 hfz118_3
     try clear hfz120_0 hfz120_1 hfz120_2
     try clear hfz14_0 hfz14_1 hfz14_2
     try clear hfz17_0 hfz17_1 hfz17_2 hfz17_3
     try clear hfz23_0 hfz23_1 hfz23_2 hfz23_3
     try clear hfz25_0 hfz25_1 hfz25_2
     try clear hfz27_0 hfz27_1 hfz27_2 hfz27_3
     try clear hfz29_0 hfz29_1 hfz29_2 hfz29_3
     try clear hfz30_0 hfz30_1 hfz30_2 hfz30_3
     try clear hfz36_0 hfz36_1 hfz36_2
     try clear hfz39_0 hfz39_1 hfz39_2 hfz39_3
     try clear hfz45_0 hfz45_1 hfz45_2 hfz45_3
     try clear hfz47_0 hfz47_1 hfz47_2
     try clear hfz49_0 hfz49_1 hfz49_2 hfz49_3
     try clear hfz51_0 hfz51_1 hfz51_2 hfz51_3
     try clear hfz61_0 hfz61_1 hfz61_2
     try clear hfz64_0 hfz64_1 hfz64_2 hfz64_3
     try clear hfz70_0 hfz70_1 hfz70_2 hfz70_3
     try clear hfz72_0 hfz72_1 hfz72_2
     try clear hfz73_0 hfz73_1 hfz73_2 hfz73_3
     try clear hfz76_0 hfz76_1 hfz76_2 hfz76_3
     try clear hfz78_0 hfz78_1 hfz78_2 hfz78_3
     try clear hfz79_0 hfz79_1 hfz79_2 hfz79_3
     try clear hfz85_0 hfz85_1 hfz85_2
     try clear hfz88_0 hfz88_1 hfz88_2 hfz88_3
     try clear hfz94_0 hfz94_1 hfz94_2 hfz94_3
     try clear hfz96_0 hfz96_1 hfz96_2
     try clear hfz97_0 hfz97_1 hfz97_2 hfz97_3
     try clear hx187_0
     try clear hx187_1
     try clear hx187_2
     try clear hx187_3
     try clear hx187_4
     try clear p187
     try clear q187
     obtain ⟨kq, x34_102, rfl, HA, HJ102, HO_181002, BK170, BK171, BK172, BK180, HB⟩ := hcut
     cases kq with
     | zero => exact absurd HA.out (by simp [impl_Shop_step.j0])
     | succ kj102 =>
      have H := HA.out
      clear HA
      simp only [impl_Shop_step.j0] at H
      by_cases c131 : x34_102 = true
      ·subst c131
       rw [if_pos rfl] at H
       simp only [Option.some.injEq, Prod.mk.injEq] at H
       obtain ⟨rfl, rfl, rfl, rfl, rfl⟩ := H
       have hnb132 := NB172_170.out
       have hnc132 := NB170_172.out
       have hnb133 := NB172_171.out
       have hnc133 := NB171_172.out
       have hnb134 := NB172_180.out
       have hnc134 := NB180_172.out
       obtain ⟨hcz135_0, hcz135_1, hcz135_2, hcz135_3, hfz135_0, hfz135_1, hfz135_2, hfz135_3⟩ := bc4_ (w := wc) BK172
       go_wp2
       refine bodyPost_ret (results_ct rfl _ _ gb172 24 #[.int .i64 0, .int .i64 0, .slice none 0 0, .int .i64 0] (0, 0) _ rfl (bq_ BK172) Try.underlying24 rfl (by kernel_rfl)) rfl ?_
       exact ⟨_, by first | rfl | (simp [errW_none, errW_some] <;> rfl) | (simp [*, errW_none, errW_some] <;> rfl), by first | exact Kd.R_nil _ _ _ _ _ | exact Kd.N_nil _ _ _ _ _ | exact Kd.V_nil _ _ _ _ _ | exact Kd.Q_nil _ _ _ _ _ | exact Kd.S_nil _ _ _ _ _, (bw_ w)⟩
      ·replace c131 := Bool.eq_false_iff.mpr c131
       subst c131
       rw [if_neg (show ¬ (false = true) by decide)] at H
       replace H := Option.bind_eq_some_iff.mp H
       obtain ⟨⟨t189, t190, t191, t194⟩, A1360, H⟩ := H
       (try dsimp only at H)
       have A136 := Aside0.mk A1360
       clear A1360
       replace H := Option.bind_eq_some_iff.mp H
       obtain ⟨t195, A1370, H⟩ := H
       (try dsimp only at H)
       have A137 := Aside0.mk A1370
       clear A1370
       by_cases c138 : t195 = true
       ·subst c138
        rw [if_pos rfl] at H
        simp only [Option.some.injEq, Prod.mk.injEq] at H
        obtain ⟨rfl, rfl, rfl, rfl, rfl⟩ := H
        have hnb139 := NB171_170.out
        have hnc139 := NB170_171.out
        have hnb140 := NB171_172.out
        have hnc140 := NB172_171.out
        have hnb141 := NB171_180.out
        have hnc141 := NB180_171.out
        obtain ⟨hcz142_0, hcz142_1, hcz142_2, hfz142_0, hfz142_1, hfz142_2⟩ := bc3_ (w := wc) BK171
        go_wp2_with (first | ((with_reducible refine gate_callee (f := 112) rfl ?_); refine goesB (some 37) Try.func112 #[.pointer (some ⟨gb180, 0, none⟩), .agg #[.int .i64 a1_0, .int .i64 a1_1, .int .i64 a1_2]] ?_; (with_reducible refine (impl_Shop_change.calls gb180 t174 t175 (fun k_ => some k_ = (.slice Ao119 t176.length co119 : Value).ownBlock) (.slice Ao119 t176.length co119) t176 t179 a1_0 a1_1 a1_2 t189 t190 t191 t194 w _ ?side1 ?side2 ?side3 ?side4 A136.out).mono ?_); (case side1 => repeat (first | (with_reducible first | exact HB.out | apply below_alloc | apply pw_below_drewN | apply below_drew1 | refine below_set ?_ GE170.out | refine below_set ?_ GE171.out | refine below_set ?_ GE172.out | refine below_set ?_ GE180.out) | exact HB.out)); (case side2 => (with_reducible repeat (first | refine blk_drewN ?_ _ | refine blk_drew ?_ | refine blk_alloc ?_ _)); exact BK180.out); (case side3 => exact GE180.out); (case side4 => exact Kd.R_tight rfl HO_181002.out); rintro e w143 ⟨v192, hi, rfl, ho0, hb, hkp⟩; refine ⟨_, rfl, ?_⟩; replace BK170 := Aside0.mk (blk_kept (bk_ BK170) hkp (fun hs_ => Or.elim hs_ (fun hs_ => (fun e_ => (Kd.R_ne HO_181002.out BK170.out (by decide)) e_) hs_) (fun e_ => NB170_180.out e_))); replace BK171 := Aside0.mk (blk_kept (bk_ BK171) hkp (fun hs_ => Or.elim hs_ (fun hs_ => (fun e_ => (Kd.R_ne HO_181002.out BK171.out (by decide)) e_) hs_) (fun e_ => NB171_180.out e_))); replace BK172 := Aside0.mk (blk_kept (bk_ BK172) hkp (fun hs_ => Or.elim hs_ (fun hs_ => (fun e_ => (Kd.R_ne HO_181002.out BK172.out (by decide)) e_) hs_) (fun e_ => NB172_180.out e_))); replace BK180 := Aside0.mk (hi); have HO193 := Aside0.mk (Kd.R_mono (ok' := fun k_ => True) ho0 (fun k_ hk_ => trivial)); replace HB := Aside0.mk (hb); clear HO_181002; (try clear hb); (try clear hkp); (try clear ho0); have hnb144 := NB180_170.out; have hnc144 := NB170_180.out; have hnb145 := NB180_172.out; have hnc145 := NB172_180.out; obtain ⟨hcz146_0, hcz146_1, hcz146_2, hcz146_3, hfz146_0, hfz146_1, hfz146_2, hfz146_3⟩ := bc4_ (w := w143) BK180; obtain ⟨Ao147, co147, eo147⟩ := Kd.R_slice HO193.out; subst eo147) | ((with_reducible refine gate_callee (f := 25) rfl ?_); refine goesB (some 59) Try.func25 #[.agg #[.int .i64 t189, .int .i64 t190, .slice Ao147 t191.length co147, .int .i64 t194]] ?_; (with_reducible refine (impl_IsShop.calls kj102 t189 t190 _ _ t191 t194 true _ ?side1 ?side2 A137.out).mono ?_); (case side1 => exact co_ (Kd.R_reads' HO193.out).2.2); (case side2 => exact (Kd.R_reads' HO193.out).2.1); rintro e w148 ⟨rfl, hb⟩; refine ⟨_, rfl, ?_⟩; replace HO193 := Aside0.mk (Kd.R_below (ra_ HO193) hb); replace BK170 := bb_ BK170 hb; replace BK171 := bb_ BK171 hb; replace BK172 := bb_ BK172 hb; replace BK180 := bb_ BK180 hb; replace HB := hb_ w hb; clear hb; obtain ⟨hcz149_0, hcz149_1, hcz149_2, hcz149_3, hfz149_0, hfz149_1, hfz149_2, hfz149_3⟩ := bc4_ (w := w148) BK180; have hnb150 := NB172_170.out; have hnc150 := NB170_172.out; obtain ⟨hcz151_0, hcz151_1, hcz151_2, hcz151_3, hfz151_0, hfz151_1, hfz151_2, hfz151_3⟩ := bc4_ (w := w148) BK172))
        refine bodyPost_ret (results_ct rfl _ _ gb172 24 #[.int .i64 t189, .int .i64 t190, .slice Ao147 t191.length co147, .int .i64 t194] (0, 0) _ rfl (bq_ BK172) Try.underlying24 rfl (by kernel_rfl)) rfl ?_
        exact ⟨_, by first | rfl | (simp [errW_none, errW_some] <;> rfl) | (simp [*, errW_none, errW_some] <;> rfl), by exact rf_ (Kd.R_types HO193.out BK172.out (by decide)) (fun _ hk => trivial), (bw_ w)⟩
       ·replace c138 := Bool.eq_false_iff.mpr c138
        subst c138
        rw [if_neg (show ¬ (false = true) by decide)] at H
        simp only [Option.some.injEq, Prod.mk.injEq] at H
        obtain ⟨rfl, rfl, rfl, rfl, rfl⟩ := H
        have hnb152 := NB171_170.out
        have hnc152 := NB170_171.out
        have hnb153 := NB171_172.out
        have hnc153 := NB172_171.out
        have hnb154 := NB171_180.out
        have hnc154 := NB180_171.out
        obtain ⟨hcz155_0, hcz155_1, hcz155_2, hfz155_0, hfz155_1, hfz155_2⟩ := bc3_ (w := wc) BK171
        go_wp2_with (first | ((with_reducible refine gate_callee (f := 112) rfl ?_); refine goesB (some 37) Try.func112 #[.pointer (some ⟨gb180, 0, none⟩), .agg #[.int .i64 a1_0, .int .i64 a1_1, .int .i64 a1_2]] ?_; (with_reducible refine (impl_Shop_change.calls gb180 t174 t175 (fun k_ => some k_ = (.slice Ao119 t176.length co119 : Value).ownBlock) (.slice Ao119 t176.length co119) t176 t179 a1_0 a1_1 a1_2 t189 t190 t191 t194 w _ ?side1 ?side2 ?side3 ?side4 A136.out).mono ?_); (case side1 => repeat (first | (with_reducible first | exact HB.out | apply below_alloc | apply pw_below_drewN | apply below_drew1 | refine below_set ?_ GE170.out | refine below_set ?_ GE171.out | refine below_set ?_ GE172.out | refine below_set ?_ GE180.out) | exact HB.out)); (case side2 => (with_reducible repeat (first | refine blk_drewN ?_ _ | refine blk_drew ?_ | refine blk_alloc ?_ _)); exact BK180.out); (case side3 => exact GE180.out); (case side4 => exact Kd.R_tight rfl HO_181002.out); rintro e w156 ⟨v192, hi, rfl, ho0, hb, hkp⟩; refine ⟨_, rfl, ?_⟩; replace BK170 := Aside0.mk (blk_kept (bk_ BK170) hkp (fun hs_ => Or.elim hs_ (fun hs_ => (fun e_ => (Kd.R_ne HO_181002.out BK170.out (by decide)) e_) hs_) (fun e_ => NB170_180.out e_))); replace BK171 := Aside0.mk (blk_kept (bk_ BK171) hkp (fun hs_ => Or.elim hs_ (fun hs_ => (fun e_ => (Kd.R_ne HO_181002.out BK171.out (by decide)) e_) hs_) (fun e_ => NB171_180.out e_))); replace BK172 := Aside0.mk (blk_kept (bk_ BK172) hkp (fun hs_ => Or.elim hs_ (fun hs_ => (fun e_ => (Kd.R_ne HO_181002.out BK172.out (by decide)) e_) hs_) (fun e_ => NB172_180.out e_))); replace BK180 := Aside0.mk (hi); have HO193 := Aside0.mk (Kd.R_mono (ok' := fun k_ => True) ho0 (fun k_ hk_ => trivial)); replace HB := Aside0.mk (hb); clear HO_181002; (try clear hb); (try clear hkp); (try clear ho0); have hnb157 := NB180_170.out; have hnc157 := NB170_180.out; have hnb158 := NB180_172.out; have hnc158 := NB172_180.out; obtain ⟨hcz159_0, hcz159_1, hcz159_2, hcz159_3, hfz159_0, hfz159_1, hfz159_2, hfz159_3⟩ := bc4_ (w := w156) BK180; obtain ⟨Ao160, co160, eo160⟩ := Kd.R_slice HO193.out; subst eo160) | ((with_reducible refine gate_callee (f := 25) rfl ?_); refine goesB (some 59) Try.func25 #[.agg #[.int .i64 t189, .int .i64 t190, .slice Ao160 t191.length co160, .int .i64 t194]] ?_; (with_reducible refine (impl_IsShop.calls kj102 t189 t190 _ _ t191 t194 false _ ?side1 ?side2 A137.out).mono ?_); (case side1 => exact co_ (Kd.R_reads' HO193.out).2.2); (case side2 => exact (Kd.R_reads' HO193.out).2.1); rintro e w161 ⟨rfl, hb⟩; refine ⟨_, rfl, ?_⟩; replace HO193 := Aside0.mk (Kd.R_below (ra_ HO193) hb); replace BK170 := bb_ BK170 hb; replace BK171 := bb_ BK171 hb; replace BK172 := bb_ BK172 hb; replace BK180 := bb_ BK180 hb; replace HB := hb_ w hb; clear hb; have hnb162 := NB172_170.out; have hnc162 := NB170_172.out; obtain ⟨hcz163_0, hcz163_1, hcz163_2, hcz163_3, hfz163_0, hfz163_1, hfz163_2, hfz163_3⟩ := bc4_ (w := w161) BK172))
        refine bodyPost_ret (results_ct rfl _ _ gb172 24 #[.int .i64 0, .int .i64 0, .slice none 0 0, .int .i64 0] (0, 0) _ rfl (bq_ BK172) Try.underlying24 rfl (by kernel_rfl)) rfl ?_
        exact ⟨_, by first | rfl | (simp [errW_none, errW_some] <;> rfl) | (simp [*, errW_none, errW_some] <;> rfl), by first | exact Kd.R_nil _ _ _ _ _ | exact Kd.N_nil _ _ _ _ _ | exact Kd.V_nil _ _ _ _ _ | exact Kd.Q_nil _ _ _ _ _ | exact Kd.S_nil _ _ _ _ _, (bw_ w)⟩
 ·replace c4 := Bool.eq_false_iff.mpr c4
  subst c4
  rw [if_neg (show ¬ (false = true) by decide)] at H
  simp only [Option.some.injEq, Prod.mk.injEq] at H
  obtain ⟨rfl, rfl, rfl, rfl, rfl⟩ := H
  go_enter Try.func62, Try.ntmps62
  go_wp2_with (first | ((with_reducible refine gate_dst (N := 2) rfl ?_); refine box_ (N := 2) (cs := #[.int .i64 a0_0, .int .i64 a0_1, .slice A0_2 l0_2.length c0_2, .int .i64 a0_3]) (t := 24) ?_; intro gb170 hg w164 hbox hb; have BK170 := Aside0.mk (hbox); have GW170 := gz_ w hg; have GE170 := gz_ w hg; replace HB := hb_ w hb; clear hb hbox hg) | ((with_reducible refine gate_dst (N := 3) rfl ?_); refine box_ (N := 3) (cs := #[.int .i64 a1_0, .int .i64 a1_1, .int .i64 a1_2]) (t := 30) ?_; intro gb171 hg w165 hbox hb; have BK171 := Aside0.mk (hbox); have GW171 := gz_ w hg; have GE171 := gz_ w hg; have NB170_171 := ne_ hg BK170; have NB171_170 := en_ hg BK170; replace BK170 := bb_ BK170 hb; replace HB := hb_ w hb; clear hb hbox hg) | ((with_reducible refine gate_dst (N := 4) rfl ?_); refine box_ (N := 4) (cs := #[.int .i64 0, .int .i64 0, .slice none 0 0, .int .i64 0]) (t := 24) ?_; intro gb172 hg w166 hbox hb; have BK172 := Aside0.mk (hbox); have GW172 := gz_ w hg; have GE172 := gz_ w hg; have NB170_172 := ne_ hg BK170; have NB172_170 := en_ hg BK170; have NB171_172 := ne_ hg BK171; have NB172_171 := en_ hg BK171; replace BK170 := bb_ BK170 hb; replace BK171 := bb_ BK171 hb; replace HB := hb_ w hb; clear hb hbox hg; have hnb167 := NB171_170.out; have hnc167 := NB170_171.out; have hnb168 := NB171_172.out; have hnc168 := NB172_171.out; obtain ⟨hcz169_0, hcz169_1, hcz169_2, hfz169_0, hfz169_1, hfz169_2⟩ := bc3_ (w := w166) BK171) | ((with_reducible refine gate_callee (f := 110) rfl ?_); refine goesB (some 8) Try.func110 #[.agg #[.int .i64 a1_0, .int .i64 a1_1, .int .i64 a1_2]] ?_; (with_reducible refine (impl_ShopStep_isValid.calls k a1_0 a1_1 a1_2 false _ A3.out).mono ?_); rintro e w170 ⟨rfl, hb⟩; refine ⟨_, rfl, ?_⟩; replace BK170 := bb_ BK170 hb; replace BK171 := bb_ BK171 hb; replace BK172 := bb_ BK172 hb; replace HB := hb_ w hb; clear hb; have hnb171 := NB172_170.out; have hnc171 := NB170_172.out; obtain ⟨hcz172_0, hcz172_1, hcz172_2, hcz172_3, hfz172_0, hfz172_1, hfz172_2, hfz172_3⟩ := bc4_ (w := w170) BK172))
  refine bodyPost_ret (results_ct rfl _ _ gb172 24 #[.int .i64 0, .int .i64 0, .slice none 0 0, .int .i64 0] (0, 0) _ rfl (bq_ BK172) Try.underlying24 rfl (by kernel_rfl)) rfl ?_
  exact ⟨_, by first | rfl | (simp [errW_none, errW_some] <;> rfl) | (simp [*, errW_none, errW_some] <;> rfl), by first | exact Kd.R_nil _ _ _ _ _ | exact Kd.N_nil _ _ _ _ _ | exact Kd.V_nil _ _ _ _ _ | exact Kd.Q_nil _ _ _ _ _ | exact Kd.S_nil _ _ _ _ _, (bw_ w)⟩

/-! ### impl_RunShop: function 11 -/
mutual
def impl_RunShop.j0 : Nat → List (S30) → Bool → Int → Int → List (S34) → Int → Option (Int × Int × (List (S34)) × Int × Int × Bool)
  | 0, _, _, _, _, _, _ => none
  | k + 1, x1, x20, x197000, x197001, x197002, x197003 => if x20 = true then (some (0, 0, ([] : List (S34)), 0, 0, false)) else ((impl_Shop_copied.f x197000 x197001 x197002 x197003).bind fun bt199 => (impl_RunShop.l0 k 0 x1 (x1.length : Int) 0 bt199.1 bt199.2.1 bt199.2.2.1 bt199.2.2.2))
def impl_RunShop.l0 : Nat → Int → List (S30) → Int → Int → Int → Int → List (S34) → Int → Option (Int × Int × (List (S34)) × Int × Int × Bool)
  | 0, _, _, _, _, _, _, _, _ => none
  | k + 1, x8, x24, x25, x26, x206000, x206001, x206002, x206003 => if x26 < x25 then (if 0 ≤ x26 then (if x26 < (x24.length : Int) then ((impl_Shop_step.f k x206000 x206001 x206002 x206003 ((rd_T30 x24 x26).f0) ((rd_T30 x24 x26).f1) ((rd_T30 x24 x26).f2)).bind fun bt208 => (if bt208.2.2.2.2 = true then (impl_RunShop.l0 k (wrap64 (x8 + 1)) x24 x25 (wrap64 (x26 + 1)) bt208.1 bt208.2.1 bt208.2.2.1 bt208.2.2.2.1) else (impl_RunShop.l0 k x8 x24 x25 (wrap64 (x26 + 1)) x206000 x206001 x206002 x206003))) else (none)) else (none)) else (some (x206000, x206001, x206002, x206003, x8, true))
end
def impl_RunShop.f (k : Nat) (a0_0 : Int) (a0_1 : Int) (l0_2 : List (S34)) (a0_3 : Int) (l1 : List (S30)) : Option (Int × Int × (List (S34)) × Int × Int × Bool) := (impl_IsShop.f k a0_0 a0_1 l0_2 a0_3).bind fun t198 => (if t198 = true then (impl_RunShop.j0 k l1 (decide ((l1.length : Int) > 40)) a0_0 a0_1 l0_2 a0_3) else (impl_RunShop.j0 k l1 true a0_0 a0_1 l0_2 a0_3))
theorem impl_RunShop.mono_l : ∀ k, (∀ y0 y1 y2 y3 y4 y5, LeO (impl_RunShop.j0 k y0 y1 y2 y3 y4 y5) (impl_RunShop.j0 (k + 1) y0 y1 y2 y3 y4 y5)) ∧ (∀ y0 y1 y2 y3 y4 y5 y6 y7, LeO (impl_RunShop.l0 k y0 y1 y2 y3 y4 y5 y6 y7) (impl_RunShop.l0 (k + 1) y0 y1 y2 y3 y4 y5 y6 y7))
  | 0 => ⟨fun _ _ _ _ _ _ r h => by simp [impl_RunShop.j0] at h, fun _ _ _ _ _ _ _ _ r h => by simp [impl_RunShop.l0] at h⟩
  | k + 1 => by
    obtain ⟨ih0, ih1⟩ := impl_RunShop.mono_l k
    refine ⟨?_, ?_⟩
    · intro y0 y1 y2 y3 y4 y5
      unfold impl_RunShop.j0
      repeat' first
      | (with_reducible exact ih0 _ _ _ _ _ _)
      | (with_reducible exact ih1 _ _ _ _ _ _ _ _)
      | (with_reducible exact impl_IsShop.mono _ _ _ _ _)
      | (with_reducible exact impl_Shop_step.mono _ _ _ _ _ _ _ _)
      | (with_reducible exact LeO.refl _)
      | (with_reducible exact LeO.none _)
      | (with_reducible refine LeO.ite ?_ ?_)
      | (with_reducible refine LeO.bind ?_ (fun _ => ?_))
      | exact ih0 _ _ _ _ _ _
      | exact ih1 _ _ _ _ _ _ _ _
      | exact impl_IsShop.mono _ _ _ _ _
      | exact impl_Shop_step.mono _ _ _ _ _ _ _ _
      | exact LeO.none _
      | refine LeO.ite ?_ ?_
      | refine LeO.bind ?_ (fun _ => ?_)
    · intro y0 y1 y2 y3 y4 y5 y6 y7
      unfold impl_RunShop.l0
      repeat' first
      | (with_reducible exact ih0 _ _ _ _ _ _)
      | (with_reducible exact ih1 _ _ _ _ _ _ _ _)
      | (with_reducible exact impl_IsShop.mono _ _ _ _ _)
      | (with_reducible exact impl_Shop_step.mono _ _ _ _ _ _ _ _)
      | (with_reducible exact LeO.refl _)
      | (with_reducible exact LeO.none _)
      | (with_reducible refine LeO.ite ?_ ?_)
      | (with_reducible refine LeO.bind ?_ (fun _ => ?_))
      | exact ih0 _ _ _ _ _ _
      | exact ih1 _ _ _ _ _ _ _ _
      | exact impl_IsShop.mono _ _ _ _ _
      | exact impl_Shop_step.mono _ _ _ _ _ _ _ _
      | exact LeO.none _
      | refine LeO.ite ?_ ?_
      | refine LeO.bind ?_ (fun _ => ?_)
theorem impl_RunShop.mono : ∀ a0 a1 a2 a3 a4 k, LeO (impl_RunShop.f k a0 a1 a2 a3 a4) (impl_RunShop.f (k + 1) a0 a1 a2 a3 a4) := by
  intro a0 a1 a2 a3 a4 k
  obtain ⟨ih0, ih1⟩ := impl_RunShop.mono_l k
  unfold impl_RunShop.f
  repeat' first
      | (with_reducible exact ih0 _ _ _ _ _ _)
      | (with_reducible exact ih1 _ _ _ _ _ _ _ _)
      | (with_reducible exact impl_IsShop.mono _ _ _ _ _)
      | (with_reducible exact impl_Shop_step.mono _ _ _ _ _ _ _ _)
      | (with_reducible exact LeO.refl _)
      | (with_reducible exact LeO.none _)
      | (with_reducible refine LeO.ite ?_ ?_)
      | (with_reducible refine LeO.bind ?_ (fun _ => ?_))
      | exact ih0 _ _ _ _ _ _
      | exact ih1 _ _ _ _ _ _ _ _
      | exact impl_IsShop.mono _ _ _ _ _
      | exact impl_Shop_step.mono _ _ _ _ _ _ _ _
      | exact LeO.none _
      | refine LeO.ite ?_ ?_
      | refine LeO.bind ?_ (fun _ => ?_)
set_option maxHeartbeats 8000000 in
set_option maxRecDepth 100000 in
theorem impl_RunShop.calls (k : Nat) (a0_0 : Int) (a0_1 : Int) (A0_2 : Option Addr) (c0_2 : Nat) (l0_2 : List (S34)) (a0_3 : Int) (A1 : Option Addr) (c1 : Nat) (l1 : List (S30)) (r1 : Int) (r2 : Int) (r3 : List (S34)) (r4 : Int) (r5 : Int) (r6 : Bool) (w : World) (hr0_2 : Kd.C k34 w A0_2 l0_2.length l0_2) (hc0_2 : l0_2.length ≤ c0_2) (hr1 : Kd.C k30 w A1 l1.length l1) (hc1 : l1.length ≤ c1) (h : impl_RunShop.f k a0_0 a0_1 l0_2 a0_3 l1 = some (r1, r2, r3, r4, r5, r6)) :
  Calls Try.prog 11 #[.agg #[.int .i64 a0_0, .int .i64 a0_1, .slice A0_2 l0_2.length c0_2, .int .i64 a0_3], .slice A1 l1.length c1] w fun e w' => ∃ v2_ : Value, e = .returned (.tuple #[.agg #[.int .i64 r1, .int .i64 r2, v2_, .int .i64 r4], .int .i64 r5, .bool r6]) ∧ Kd.R k34 34 w' w.heap.size (fun _ => True) v2_ r3 ∧ Below w.heap.size w w' := by
 have hu24 := Try.underlying24
 have hu30 := Try.underlying30
 have HR0_2 := Aside0.mk hr0_2
 have HC0_2 := Aside0.mk hc0_2
 clear hr0_2 hc0_2
 have HR1 := Aside0.mk hr1
 have HC1 := Aside0.mk hc1
 clear hr1 hc1
 have HB := Aside0.mk (Below.refl w.heap.size w)
 have H : ((impl_IsShop.f k a0_0 a0_1 l0_2 a0_3).bind fun t198 => (if t198 = true then (impl_RunShop.j0 k l1 (decide ((l1.length : Int) > 40)) a0_0 a0_1 l0_2 a0_3) else (impl_RunShop.j0 k l1 true a0_0 a0_1 l0_2 a0_3))) = some (r1, r2, r3, r4, r5, r6) := h
 clear h
 have HC3 := Aside0.mk H
 clear H
 go_enter Try.func11, Try.ntmps11
 go_upto_region 1 with (first | ((with_reducible refine gate_dst (N := 2) rfl ?_); refine box_ (N := 2) (cs := #[.int .i64 a0_0, .int .i64 a0_1, .slice A0_2 l0_2.length c0_2, .int .i64 a0_3]) (t := 24) ?_; intro gb196 hg w4 hbox hb; have BK196 := Aside0.mk (hbox); have GW196 := gz_ w hg; have GE196 := gz_ w hg; replace HB := hb_ w hb; clear hb hbox hg) | ((with_reducible refine gate_dst (N := 4) rfl ?_); refine box_ (N := 4) (cs := #[.int .i64 0, .int .i64 0, .slice none 0 0, .int .i64 0]) (t := 24) ?_; intro gb197 hg w5 hbox hb; have BK197 := Aside0.mk (hbox); have GW197 := gz_ w hg; have GE197 := gz_ w hg; have NB196_197 := ne_ hg BK196; have NB197_196 := en_ hg BK196; replace BK196 := bb_ BK196 hb; replace HB := hb_ w hb; clear hb hbox hg))
 (try simp only [Act.put, List.setIfInBounds_toArray, List.set_cons_zero, List.set_cons_succ])
 go_cut [20] (fun v20 wc => ∃ (kq : Nat) (x20_2 : Bool), v20 = .bool x20_2 ∧ Aside0 (impl_RunShop.j0 kq l1 x20_2 a0_0 a0_1 l0_2 a0_3 = some (r1, r2, r3, r4, r5, r6)) ∧ Aside0 (kq ≤ k) ∧ Aside0 (wc.heap[gb196]? = some (.cells #[.int .i64 a0_0, .int .i64 a0_1, (.slice A0_2 l0_2.length c0_2), .int .i64 a0_3] 24 (0, 0))) ∧ Aside0 (wc.heap[gb197]? = some (.cells #[.int .i64 0, .int .i64 0, (.slice none 0 0), .int .i64 0] 24 (0, 0))) ∧ Aside0 (Below w.heap.size w wc))
 case first =>
  have H := HC3.out
  clear HC3
  replace H := Option.bind_eq_some_iff.mp H
  obtain ⟨t198, A60, H⟩ := H
  (try dsimp only at H)
  have A6 := Aside0.mk A60
  clear A60
  by_cases c7 : t198 = true
  ·subst c7
   rw [if_pos rfl] at H
   have H' := Aside0.mk H
   clear H
   have hnb8 := NB196_197.out
   have hnc8 := NB197_196.out
   obtain ⟨hcz9_0, hcz9_1, hcz9_2, hcz9_3, hfz9_0, hfz9_1, hfz9_2, hfz9_3⟩ := bc4_ (w := w5) BK196
   go_wp2_with (first | ((with_reducible refine gate_callee (f := 25) rfl ?_); refine goesB (some 14) Try.func25 #[.agg #[.int .i64 a0_0, .int .i64 a0_1, .slice A0_2 l0_2.length c0_2, .int .i64 a0_3]] ?_; (with_reducible refine (impl_IsShop.calls k a0_0 a0_1 _ _ l0_2 a0_3 true _ ?side1 ?side2 A6.out).mono ?_); (case side1 => exact cb_ HR0_2 HB); (case side2 => exact HC0_2.out); rintro e w10 ⟨rfl, hb⟩; refine ⟨_, rfl, ?_⟩; replace BK196 := bb_ BK196 hb; replace BK197 := bb_ BK197 hb; replace HB := hb_ w hb; clear hb))
   go_meet
   case rel => exact ⟨_, (decide ((l1.length : Int) > 40)), (by first | rfl | (simp; done) | (simp [*]; done)), H', ⟨by first | omega | exact Nat.le_refl _⟩, ⟨bk_ BK196⟩, ⟨bk_ BK197⟩, ⟨(bw_ w)⟩⟩
  ·replace c7 := Bool.eq_false_iff.mpr c7
   subst c7
   rw [if_neg (show ¬ (false = true) by decide)] at H
   have H' := Aside0.mk H
   clear H
   have hnb11 := NB196_197.out
   have hnc11 := NB197_196.out
   obtain ⟨hcz12_0, hcz12_1, hcz12_2, hcz12_3, hfz12_0, hfz12_1, hfz12_2, hfz12_3⟩ := bc4_ (w := w5) BK196
   go_wp2_with (first | ((with_reducible refine gate_callee (f := 25) rfl ?_); refine goesB (some 14) Try.func25 #[.agg #[.int .i64 a0_0, .int .i64 a0_1, .slice A0_2 l0_2.length c0_2, .int .i64 a0_3]] ?_; (with_reducible refine (impl_IsShop.calls k a0_0 a0_1 _ _ l0_2 a0_3 false _ ?side1 ?side2 A6.out).mono ?_); (case side1 => exact cb_ HR0_2 HB); (case side2 => exact HC0_2.out); rintro e w13 ⟨rfl, hb⟩; refine ⟨_, rfl, ?_⟩; replace BK196 := bb_ BK196 hb; replace BK197 := bb_ BK197 hb; replace HB := hb_ w hb; clear hb))
   go_meet
   case rel => exact ⟨_, (true), (by first | rfl | (simp; done) | (simp [*]; done)), H', ⟨by first | omega | exact Nat.le_refl _⟩, ⟨bk_ BK196⟩, ⟨bk_ BK197⟩, ⟨(bw_ w)⟩⟩
 case rest =>
  clear HC3
  try clear c1
  try clear c2
  try clear p2
  try clear c7
  try clear c8
  try clear c11
  try clear hcz12_0 hcz12_1 hcz12_2 hcz12_3
  try clear hcz9_0 hcz9_1 hcz9_2 hcz9_3
  try clear hfz12_0 hfz12_1 hfz12_2 hfz12_3
  try clear hfz9_0 hfz9_1 hfz9_2 hfz9_3
  obtain ⟨kq, x20_2, rfl, HA, HJ2, BK196, BK197, HB⟩ := hcut
  cases kq with
  | zero => exact absurd HA.out (by simp [impl_RunShop.j0])
  | succ kj2 =>
   have H := HA.out
   clear HA
   simp only [impl_RunShop.j0] at H
   by_cases c14 : x20_2 = true
   ·subst c14
    rw [if_pos rfl] at H
    simp only [Option.some.injEq, Prod.mk.injEq] at H
    obtain ⟨rfl, rfl, rfl, rfl, rfl, rfl⟩ := H
    have hnb15 := NB197_196.out
    have hnc15 := NB196_197.out
    obtain ⟨hcz16_0, hcz16_1, hcz16_2, hcz16_3, hfz16_0, hfz16_1, hfz16_2, hfz16_3⟩ := bc4_ (w := wc) BK197
    go_wp2
    refine bodyPost_ret (results_ctt rfl _ _ gb197 24 #[.int .i64 0, .int .i64 0, .slice none 0 0, .int .i64 0] (0, 0) _ rfl (bq_ BK197) Try.underlying24 rfl (by kernel_rfl)) rfl ?_
    exact ⟨_, by first | rfl | (simp [errW_none, errW_some] <;> rfl) | (simp [*, errW_none, errW_some] <;> rfl), by first | exact Kd.R_nil _ _ _ _ _ | exact Kd.N_nil _ _ _ _ _ | exact Kd.V_nil _ _ _ _ _ | exact Kd.Q_nil _ _ _ _ _ | exact Kd.S_nil _ _ _ _ _, (bw_ w)⟩
   ·replace c14 := Bool.eq_false_iff.mpr c14
    subst c14
    rw [if_neg (show ¬ (false = true) by decide)] at H
    replace H := Option.bind_eq_some_iff.mp H
    obtain ⟨⟨t199, t200, t201, t204⟩, A170, H⟩ := H
    (try dsimp only at H)
    have A17 := Aside0.mk A170
    clear A170
    have H' := Aside0.mk H
    clear H
    have hnb18 := NB196_197.out
    have hnc18 := NB197_196.out
    obtain ⟨hcz19_0, hcz19_1, hcz19_2, hcz19_3, hfz19_0, hfz19_1, hfz19_2, hfz19_3⟩ := bc4_ (w := wc) BK196
    go_wp2_with (first | ((with_reducible refine gate_callee (f := 61) rfl ?_); refine goesB (some 23) Try.func61 #[.agg #[.int .i64 a0_0, .int .i64 a0_1, .slice A0_2 l0_2.length c0_2, .int .i64 a0_3]] ?_; (with_reducible refine (impl_Shop_copied.calls a0_0 a0_1 _ _ l0_2 a0_3 t199 t200 t201 t204 _ ?side1 ?side2 A17.out).mono ?_); (case side1 => exact cb_ HR0_2 HB); (case side2 => exact HC0_2.out); rintro e w20 ⟨v202, rfl, ho0, hb⟩; refine ⟨_, rfl, ?_⟩; have HO203 := Aside0.mk (Kd.R_lower ho0 (below_size (bw_ w))); replace BK196 := bb_ BK196 hb; replace BK197 := bb_ BK197 hb; replace HB := hb_ w hb; (try clear hb); (try clear hb2); (try clear hk); (try clear hi); (try clear ho0)) | ((with_reducible refine gate_dst (N := 7) rfl ?_); refine box_ (N := 7) (cs := #[.int .i64 0, .int .i64 0, .slice none 0 0, .int .i64 0]) (t := 24) ?_; intro gb205 hg w21 hbox hb; have BK205 := Aside0.mk (hbox); have GW205 := gz_ w hg; have GE205 := gz_ w hg; have NB196_205 := ne_ hg BK196; have NB205_196 := en_ hg BK196; have NB197_205 := ne_ hg BK197; have NB205_197 := en_ hg BK197; replace HO203 := Aside0.mk (Kd.R_below (ra_ HO203) hb); replace BK196 := bb_ BK196 hb; replace BK197 := bb_ BK197 hb; replace HB := hb_ w hb; clear hb hbox hg; have hnb22 := NB205_196.out; have hnc22 := NB196_205.out; have hnb23 := NB205_197.out; have hnc23 := NB197_205.out; obtain ⟨hcz24_0, hcz24_1, hcz24_2, hcz24_3, hfz24_0, hfz24_1, hfz24_2, hfz24_3⟩ := bc4_ (w := w21) BK205; obtain ⟨Ao25, co25, eo25⟩ := Kd.R_slice HO203.out; subst eo25))
    go_loopg [8, 26] kj2 (fun kq v8 v26 w' => ∃ (x8_2 : Int) (x26_2 : Int) (x206000_2 : Int) (x206001_2 : Int) (x206002_2 : List (S34)) (x206003_2 : Int) (u206002 : Value), v8 = .int .i64 x8_2 ∧ v26 = .int .i64 x26_2 ∧ Aside0 (impl_RunShop.l0 kq x8_2 l1 (l1.length : Int) x26_2 x206000_2 x206001_2 x206002_2 x206003_2 = some (r1, r2, r3, r4, r5, r6)) ∧ Aside0 (kq ≤ kj2) ∧ Aside0 (Kd.R k34 34 w' w.heap.size (fun _ => True) u206002 x206002_2) ∧ Aside0 (w'.heap[gb196]? = some (.cells #[.int .i64 a0_0, .int .i64 a0_1, (.slice A0_2 l0_2.length c0_2), .int .i64 a0_3] 24 (0, 0))) ∧ Aside0 (w'.heap[gb197]? = some (.cells #[.int .i64 0, .int .i64 0, (.slice none 0 0), .int .i64 0] 24 (0, 0))) ∧ Aside0 (w'.heap[gb205]? = some (.cells #[.int .i64 x206000_2, .int .i64 x206001_2, u206002, .int .i64 x206003_2] 24 (0, 0))) ∧ Aside0 (Below w.heap.size w w'))
    case atStart => exact ⟨(0), (0), (t199), (t200), (t201), (t204), (.slice Ao25 t201.length co25), (by first | rfl | (simp; done) | (simp [*]; done)), (by first | rfl | (simp; done) | (simp [*]; done)), H', ⟨Nat.le_refl _⟩, ⟨by exact rf_ (Kd.R_types HO203.out BK205.out (by decide)) (fun _ hk => trivial)⟩, ⟨bk_ BK196⟩, ⟨bk_ BK197⟩, ⟨bq_ BK205⟩, ⟨(bw_ w)⟩⟩
    case round =>
     clear H'
     try clear c1
     try clear c2
     try clear p2
     try clear c6
     try clear c7
     try clear c8
     try clear c11
     try clear c14
     try clear c15
     try clear c18
     try clear c22
     try clear c23
     try clear c25
     try clear hcz12_0 hcz12_1 hcz12_2 hcz12_3
     try clear hcz16_0 hcz16_1 hcz16_2 hcz16_3
     try clear hcz19_0 hcz19_1 hcz19_2 hcz19_3
     try clear hcz24_0 hcz24_1 hcz24_2 hcz24_3
     try clear hcz9_0 hcz9_1 hcz9_2 hcz9_3
     try clear hfz12_0 hfz12_1 hfz12_2 hfz12_3
     try clear hfz16_0 hfz16_1 hfz16_2 hfz16_3
     try clear hfz19_0 hfz19_1 hfz19_2 hfz19_3
     try clear hfz24_0 hfz24_1 hfz24_2 hfz24_3
     try clear hfz9_0 hfz9_1 hfz9_2 hfz9_3
     try clear p2
     obtain ⟨x8_2, x26_2, x206000_2, x206001_2, x206002_2, x206003_2, u206002, rfl, rfl, HA, HK2, HO_206002, BK196, BK197, BK205, HB⟩ := hrel
     cases gk with
     | zero => exact absurd HA.out (by simp [impl_RunShop.l0])
     | succ k2 =>
      have H := HA.out
      clear HA
      simp only [impl_RunShop.l0] at H
      by_cases c26 : x26_2 < (l1.length : Int)
      ·rw [if_pos c26] at H
       have c26b0 := decide_eq_true c26
       clear c26
       by_cases c27 : 0 ≤ x26_2
       ·rw [if_pos c27] at H
        have c27b0 := decide_eq_true c27
        clear c27
        by_cases c28 : x26_2 < (l1.length : Int)
        ·rw [if_pos c28] at H
         have c28b0 := decide_eq_true c28
         clear c28
         replace H := Option.bind_eq_some_iff.mp H
         obtain ⟨⟨t208, t209, t210, t213, t214⟩, A290, H⟩ := H
         (try dsimp only at H)
         have A29 := Aside0.mk A290
         clear A290
         by_cases c30 : t214 = true
         ·subst c30
          rw [if_pos rfl] at H
          have H' := Aside0.mk H
          clear H
          have p206 : 0 ≤ (x26_2 : Int) := of_decide_eq_true (by first | (with_reducible assumption) | assumption)
          have q206 : x26_2 < (l1.length : Int) := of_decide_eq_true (by first | (with_reducible assumption) | assumption)
          obtain ⟨ad206, e206, hx206_0, hx206_1, hx206_2⟩ := at_T30 HR1.out x26_2 p206 q206
          cases e206
          replace hx206_0 := (HB.out.cell (World.block_lt_of_cell? w _ hx206_0)).trans hx206_0
          replace hx206_1 := (HB.out.cell (World.block_lt_of_cell? w _ hx206_1)).trans hx206_1
          replace hx206_2 := (HB.out.cell (World.block_lt_of_cell? w _ hx206_2)).trans hx206_2
          replace p206 := eq_true p206
          replace q206 := eq_true q206
          go_wp2_with (first | ((with_reducible refine gate_dst (N := 10) rfl ?_); refine box_ (N := 10) (cs := #[.int .i64 0, .int .i64 0, .int .i64 0]) (t := 30) ?_; intro gb207 hg w31 hbox hb; have BK207 := Aside0.mk (hbox); have GW207 := gz_ w hg; have GE207 := gz_ w hg; have NB196_207 := ne_ hg BK196; have NB207_196 := en_ hg BK196; have NB197_207 := ne_ hg BK197; have NB207_197 := en_ hg BK197; have NB205_207 := ne_ hg BK205; have NB207_205 := en_ hg BK205; replace HO_206002 := Aside0.mk (Kd.R_below (ra_ HO_206002) hb); replace BK196 := bb_ BK196 hb; replace BK197 := bb_ BK197 hb; replace BK205 := bb_ BK205 hb; replace HB := hb_ w hb; clear hb hbox hg; have hnb32 := NB207_196.out; have hnc32 := NB196_207.out; have hnb33 := NB207_197.out; have hnc33 := NB197_207.out; have hnb34 := NB207_205.out; have hnc34 := NB205_207.out; obtain ⟨hcz35_0, hcz35_1, hcz35_2, hfz35_0, hfz35_1, hfz35_2⟩ := bc3_ (w := w31) BK207; have hnb36 := NB205_196.out; have hnc36 := NB196_205.out; have hnb37 := NB205_197.out; have hnc37 := NB197_205.out; obtain ⟨hcz38_0, hcz38_1, hcz38_2, hcz38_3, hfz38_0, hfz38_1, hfz38_2, hfz38_3⟩ := bc4_ (w := w31) BK205; obtain ⟨Ao39, co39, eo39⟩ := Kd.R_slice HO_206002.out; subst eo39) | ((with_reducible refine gate_callee (f := 62) rfl ?_); refine goesB (some 33) Try.func62 #[.agg #[.int .i64 x206000_2, .int .i64 x206001_2, .slice Ao39 x206002_2.length co39, .int .i64 x206003_2], .agg #[.int .i64 ((rd_T30 l1 x26_2).f0), .int .i64 ((rd_T30 l1 x26_2).f1), .int .i64 ((rd_T30 l1 x26_2).f2)]] ?_; (with_reducible refine (impl_Shop_step.calls k2 x206000_2 x206001_2 _ _ x206002_2 x206003_2 ((rd_T30 l1 x26_2).f0) ((rd_T30 l1 x26_2).f1) ((rd_T30 l1 x26_2).f2) t208 t209 t210 t213 true _ ?side1 ?side2 A29.out).mono ?_); (case side1 => refine (Kd.R_reads' (e := 34) (base := w.heap.size) (ok := fun k_ => True) (n := x206002_2.length) (c := co39) ?_).2.2; exact (by exact rf_ (Kd.R_types HO_206002.out BK207.out (by decide)) (fun _ h_ => h_.1))); (case side2 => exact (Kd.R_reads' HO_206002.out).2.1); rintro e w40 ⟨v211, rfl, ho0, hb⟩; refine ⟨_, rfl, ?_⟩; have HO212 := Aside0.mk (Kd.R_lower (Kd.R_new' ho0 (Kd.R_lt (by exact rf_ (Kd.R_types HO_206002.out BK207.out (by decide)) (fun _ h_ => h_.1)))) (below_size (bw_ w))); replace HO_206002 := Aside0.mk (Kd.R_elder' (by exact rf_ (Kd.R_types HO_206002.out BK207.out (by decide)) (fun _ h_ => h_.1)) (Kd.R_base ho0) hb); replace BK196 := bb_ BK196 hb; replace BK197 := bb_ BK197 hb; replace BK205 := bb_ BK205 hb; replace BK207 := Aside0.mk (blk_below (g := gb207) (o := .cells #[.int .i64 ((rd_T30 l1 x26_2).f0), .int .i64 ((rd_T30 l1 x26_2).f1), .int .i64 ((rd_T30 l1 x26_2).f2)] 30 (0, 0)) (bq_ BK207) hb); replace HB := hb_ w hb; (try clear hb); (try clear hb2); (try clear hk); (try clear hi); (try clear ho0)) | ((with_reducible refine gate_dst (N := 11) rfl ?_); refine box_ (N := 11) (cs := #[.int .i64 0, .int .i64 0, .slice none 0 0, .int .i64 0]) (t := 24) ?_; intro gb215 hg w41 hbox hb; have BK215 := Aside0.mk (hbox); have GW215 := gz_ w hg; have GE215 := gz_ w hg; have NB196_215 := ne_ hg BK196; have NB215_196 := en_ hg BK196; have NB197_215 := ne_ hg BK197; have NB215_197 := en_ hg BK197; have NB205_215 := ne_ hg BK205; have NB215_205 := en_ hg BK205; have NB207_215 := ne_ hg BK207; have NB215_207 := en_ hg BK207; replace HO_206002 := Aside0.mk (Kd.R_below (ra_ HO_206002) hb); replace HO212 := Aside0.mk (Kd.R_below (ra_ HO212) hb); replace BK196 := bb_ BK196 hb; replace BK197 := bb_ BK197 hb; replace BK205 := bb_ BK205 hb; replace BK207 := bb_ BK207 hb; replace HB := hb_ w hb; clear hb hbox hg; have hnb42 := NB215_196.out; have hnc42 := NB196_215.out; have hnb43 := NB215_197.out; have hnc43 := NB197_215.out; have hnb44 := NB215_205.out; have hnc44 := NB205_215.out; have hnb45 := NB215_207.out; have hnc45 := NB207_215.out; obtain ⟨hcz46_0, hcz46_1, hcz46_2, hcz46_3, hfz46_0, hfz46_1, hfz46_2, hfz46_3⟩ := bc4_ (w := w41) BK215; obtain ⟨Ao47, co47, eo47⟩ := Kd.R_slice HO212.out; subst eo47; obtain ⟨hcz48_0, hcz48_1, hcz48_2, hcz48_3, hfz48_0, hfz48_1, hfz48_2, hfz48_3⟩ := bc4_ (w := w41) BK205) | ((with_reducible refine gate_store (t := 24) (p := 7) rfl ?_); refine store_event (t := 24) (p := 7) (v := ?vo_w49) (w1 := ((((((((w41.setCell ⟨gb215, 0, none⟩ (.int .i64 t208)).setCell ⟨gb215, 1, none⟩ (.int .i64 t209)).setCell ⟨gb215, 2, none⟩ (.slice Ao47 t210.length co47)).setCell ⟨gb215, 3, none⟩ (.int .i64 t213)).setCell ⟨gb205, 0, none⟩ (.int .i64 t208)).setCell ⟨gb205, 1, none⟩ (.int .i64 t209)).setCell ⟨gb205, 2, none⟩ (.slice Ao47 t210.length co47)).setCell ⟨gb205, 3, none⟩ (.int .i64 t213))) ?hg ?ho ?hn ?hr ?_; (case ho => rfl); (case hg => rfl); (case hn => rfl); (case hr => first | (go_simp; done) | (go_simp; rfl)); intro w49 hw; replace HO_206002 : Aside0 (Kd.R k34 34 w49 w.heap.size (fun k_ => some k_ ≠ (.slice Ao47 t210.length co47 : Value).ownBlock) (.slice Ao39 x206002_2.length co39) x206002_2) := ⟨(by rw [hw]; exact (by exact rf_ (Kd.R_types (Kd.R_types HO_206002.out BK215.out (by decide)) BK205.out (by decide)) (fun _ hk => hk.1.1.2)))⟩; replace HO212 : Aside0 (Kd.R k34 34 w49 w.heap.size (fun k_ => some k_ ≠ (.slice Ao39 x206002_2.length co39 : Value).ownBlock) (.slice Ao47 t210.length co47) t210) := ⟨(by rw [hw]; exact (by exact rf_ (Kd.R_types (Kd.R_types HO212.out BK215.out (by decide)) BK205.out (by decide)) (fun _ hk => hk.1.1.2)))⟩; replace BK196 := bs_ hw (bk_ BK196); replace BK197 := bs_ hw (bk_ BK197); replace BK205 : Aside0 (w49.heap[gb205]? = some (.cells #[.int .i64 t208, .int .i64 t209, .slice Ao47 t210.length co47, .int .i64 t213] 24 (0, 0))) := bs_ hw (bq_ BK205); replace BK207 := bs_ hw (bk_ BK207); replace BK215 : Aside0 (w49.heap[gb215]? = some (.cells #[.int .i64 t208, .int .i64 t209, .slice Ao47 t210.length co47, .int .i64 t213] 24 (0, 0))) := bs_ hw (bq_ BK215); replace HB := bl_ hw (bw_ w); clear hw))
          go_roundg k2
          case measure => have := HJ2.out; have := HK2.out; omega
          case rel => exact ⟨(wrap64 (x8_2 + 1)), (wrap64 (x26_2 + 1)), (t208), (t209), (t210), (t213), (.slice Ao47 t210.length co47), (by first | rfl | (simp; done) | (simp [*]; done)), (by first | rfl | (simp; done) | (simp [*]; done)), H', ⟨by have := HJ2.out; have := HK2.out; omega⟩, ⟨by exact rf_ HO212.out (fun _ hk => trivial)⟩, ⟨bk_ BK196⟩, ⟨bk_ BK197⟩, ⟨bk_ BK205⟩, ⟨(bw_ w)⟩⟩
         ·replace c30 := Bool.eq_false_iff.mpr c30
          subst c30
          rw [if_neg (show ¬ (false = true) by decide)] at H
          have H' := Aside0.mk H
          clear H
          have p206 : 0 ≤ (x26_2 : Int) := of_decide_eq_true (by first | (with_reducible assumption) | assumption)
          have q206 : x26_2 < (l1.length : Int) := of_decide_eq_true (by first | (with_reducible assumption) | assumption)
          obtain ⟨ad206, e206, hx206_0, hx206_1, hx206_2⟩ := at_T30 HR1.out x26_2 p206 q206
          cases e206
          replace hx206_0 := (HB.out.cell (World.block_lt_of_cell? w _ hx206_0)).trans hx206_0
          replace hx206_1 := (HB.out.cell (World.block_lt_of_cell? w _ hx206_1)).trans hx206_1
          replace hx206_2 := (HB.out.cell (World.block_lt_of_cell? w _ hx206_2)).trans hx206_2
          replace p206 := eq_true p206
          replace q206 := eq_true q206
          go_wp2_with (first | ((with_reducible refine gate_dst (N := 10) rfl ?_); refine box_ (N := 10) (cs := #[.int .i64 0, .int .i64 0, .int .i64 0]) (t := 30) ?_; intro gb207 hg w50 hbox hb; have BK207 := Aside0.mk (hbox); have GW207 := gz_ w hg; have GE207 := gz_ w hg; have NB196_207 := ne_ hg BK196; have NB207_196 := en_ hg BK196; have NB197_207 := ne_ hg BK197; have NB207_197 := en_ hg BK197; have NB205_207 := ne_ hg BK205; have NB207_205 := en_ hg BK205; replace HO_206002 := Aside0.mk (Kd.R_below (ra_ HO_206002) hb); replace BK196 := bb_ BK196 hb; replace BK197 := bb_ BK197 hb; replace BK205 := bb_ BK205 hb; replace HB := hb_ w hb; clear hb hbox hg; have hnb51 := NB207_196.out; have hnc51 := NB196_207.out; have hnb52 := NB207_197.out; have hnc52 := NB197_207.out; have hnb53 := NB207_205.out; have hnc53 := NB205_207.out; obtain ⟨hcz54_0, hcz54_1, hcz54_2, hfz54_0, hfz54_1, hfz54_2⟩ := bc3_ (w := w50) BK207; have hnb55 := NB205_196.out; have hnc55 := NB196_205.out; have hnb56 := NB205_197.out; have hnc56 := NB197_205.out; obtain ⟨hcz57_0, hcz57_1, hcz57_2, hcz57_3, hfz57_0, hfz57_1, hfz57_2, hfz57_3⟩ := bc4_ (w := w50) BK205; obtain ⟨Ao58, co58, eo58⟩ := Kd.R_slice HO_206002.out; subst eo58) | ((with_reducible refine gate_callee (f := 62) rfl ?_); refine goesB (some 33) Try.func62 #[.agg #[.int .i64 x206000_2, .int .i64 x206001_2, .slice Ao58 x206002_2.length co58, .int .i64 x206003_2], .agg #[.int .i64 ((rd_T30 l1 x26_2).f0), .int .i64 ((rd_T30 l1 x26_2).f1), .int .i64 ((rd_T30 l1 x26_2).f2)]] ?_; (with_reducible refine (impl_Shop_step.calls k2 x206000_2 x206001_2 _ _ x206002_2 x206003_2 ((rd_T30 l1 x26_2).f0) ((rd_T30 l1 x26_2).f1) ((rd_T30 l1 x26_2).f2) t208 t209 t210 t213 false _ ?side1 ?side2 A29.out).mono ?_); (case side1 => refine (Kd.R_reads' (e := 34) (base := w.heap.size) (ok := fun k_ => True) (n := x206002_2.length) (c := co58) ?_).2.2; exact (by exact rf_ (Kd.R_types HO_206002.out BK207.out (by decide)) (fun _ h_ => h_.1))); (case side2 => exact (Kd.R_reads' HO_206002.out).2.1); rintro e w59 ⟨v211, rfl, ho0, hb⟩; refine ⟨_, rfl, ?_⟩; have HO212 := Aside0.mk (Kd.R_lower (Kd.R_new' ho0 (Kd.R_lt (by exact rf_ (Kd.R_types HO_206002.out BK207.out (by decide)) (fun _ h_ => h_.1)))) (below_size (bw_ w))); replace HO_206002 := Aside0.mk (Kd.R_elder' (by exact rf_ (Kd.R_types HO_206002.out BK207.out (by decide)) (fun _ h_ => h_.1)) (Kd.R_base ho0) hb); replace BK196 := bb_ BK196 hb; replace BK197 := bb_ BK197 hb; replace BK205 := bb_ BK205 hb; replace BK207 := Aside0.mk (blk_below (g := gb207) (o := .cells #[.int .i64 ((rd_T30 l1 x26_2).f0), .int .i64 ((rd_T30 l1 x26_2).f1), .int .i64 ((rd_T30 l1 x26_2).f2)] 30 (0, 0)) (bq_ BK207) hb); replace HB := hb_ w hb; (try clear hb); (try clear hb2); (try clear hk); (try clear hi); (try clear ho0)) | ((with_reducible refine gate_dst (N := 11) rfl ?_); refine box_ (N := 11) (cs := #[.int .i64 0, .int .i64 0, .slice none 0 0, .int .i64 0]) (t := 24) ?_; intro gb215 hg w60 hbox hb; have BK215 := Aside0.mk (hbox); have GW215 := gz_ w hg; have GE215 := gz_ w hg; have NB196_215 := ne_ hg BK196; have NB215_196 := en_ hg BK196; have NB197_215 := ne_ hg BK197; have NB215_197 := en_ hg BK197; have NB205_215 := ne_ hg BK205; have NB215_205 := en_ hg BK205; have NB207_215 := ne_ hg BK207; have NB215_207 := en_ hg BK207; replace HO_206002 := Aside0.mk (Kd.R_below (ra_ HO_206002) hb); replace HO212 := Aside0.mk (Kd.R_below (ra_ HO212) hb); replace BK196 := bb_ BK196 hb; replace BK197 := bb_ BK197 hb; replace BK205 := bb_ BK205 hb; replace BK207 := bb_ BK207 hb; replace HB := hb_ w hb; clear hb hbox hg; have hnb61 := NB215_196.out; have hnc61 := NB196_215.out; have hnb62 := NB215_197.out; have hnc62 := NB197_215.out; have hnb63 := NB215_205.out; have hnc63 := NB205_215.out; have hnb64 := NB215_207.out; have hnc64 := NB207_215.out; obtain ⟨hcz65_0, hcz65_1, hcz65_2, hcz65_3, hfz65_0, hfz65_1, hfz65_2, hfz65_3⟩ := bc4_ (w := w60) BK215; obtain ⟨Ao66, co66, eo66⟩ := Kd.R_slice HO212.out; subst eo66))
          go_roundg k2
          case measure => have := HJ2.out; have := HK2.out; omega
          case rel => exact ⟨(x8_2), (wrap64 (x26_2 + 1)), (x206000_2), (x206001_2), (x206002_2), (x206003_2), (.slice Ao58 x206002_2.length co58), (by first | rfl | (simp; done) | (simp [*]; done)), (by first | rfl | (simp; done) | (simp [*]; done)), H', ⟨by have := HJ2.out; have := HK2.out; omega⟩, ⟨by exact rf_ (Kd.R_types HO_206002.out BK215.out (by decide)) (fun _ hk => trivial)⟩, ⟨bk_ BK196⟩, ⟨bk_ BK197⟩, ⟨bk_ BK205⟩, ⟨(bw_ w)⟩⟩
        ·rw [if_neg c28] at H
         exact absurd H (by simp)
       ·rw [if_neg c27] at H
        exact absurd H (by simp)
      ·rw [if_neg c26] at H
       have c26b0 := decide_eq_false c26
       clear c26
       simp only [Option.some.injEq, Prod.mk.injEq] at H
       obtain ⟨rfl, rfl, rfl, rfl, rfl, rfl⟩ := H
       have hnb67 := NB205_196.out
       have hnc67 := NB196_205.out
       have hnb68 := NB205_197.out
       have hnc68 := NB197_205.out
       obtain ⟨hcz69_0, hcz69_1, hcz69_2, hcz69_3, hfz69_0, hfz69_1, hfz69_2, hfz69_3⟩ := bc4_ (w := wr) BK205
       have hnb70 := NB197_196.out
       have hnc70 := NB196_197.out
       obtain ⟨hcz71_0, hcz71_1, hcz71_2, hcz71_3, hfz71_0, hfz71_1, hfz71_2, hfz71_3⟩ := bc4_ (w := wr) BK197
       obtain ⟨Ao72, co72, eo72⟩ := Kd.R_slice HO_206002.out
       subst eo72
       go_wp2
       refine bodyPost_ret (results_ctt rfl _ _ gb197 24 #[.int .i64 x206000_2, .int .i64 x206001_2, .slice Ao72 x206002_2.length co72, .int .i64 x206003_2] (0, 0) _ rfl (bq_ BK197) Try.underlying24 rfl (by kernel_rfl)) rfl ?_
       exact ⟨_, by first | rfl | (simp [errW_none, errW_some] <;> rfl) | (simp [*, errW_none, errW_some] <;> rfl), by exact rf_ (Kd.R_types HO_206002.out BK197.out (by decide)) (fun _ hk => trivial), (bw_ w)⟩

/-! ### spec_l1In: function 82 -/
def spec_l1In.f (a0 : Int) (a1 : Int) (a2 : Int) : Option (Bool) := if a0 ≥ a1 then (some (decide (a0 ≤ a2))) else (some false)
set_option maxHeartbeats 8000000 in
set_option maxRecDepth 100000 in
theorem spec_l1In.calls (a0 : Int) (a1 : Int) (a2 : Int) (r : Bool) (w : World) (h : spec_l1In.f a0 a1 a2 = some r) :
  Calls Try.prog 82 #[.int .i64 a0, .int .i64 a1, .int .i64 a2] w fun e w' => e = .returned (.bool r) ∧ Drawn0 w w' := by
 have H : (if a0 ≥ a1 then (some (decide (a0 ≤ a2))) else (some false)) = some r := h
 clear h
 by_cases c4 : a0 ≥ a1
 ·rw [if_pos c4] at H
  have c4b0 : decide (a1 ≤ a0) = true := decide_eq_true c4
  clear c4
  obtain rfl := Option.some.inj H
  go_enter Try.func82, Try.ntmps82
  go_wp2
  go_ret
  exact ⟨by first | rfl | (simp; done) | (simp [*]; done), by repeat (first | exact Drawn0.refl _ | apply Drawn0.step)⟩
 ·rw [if_neg c4] at H
  have c4b0 : decide (a1 ≤ a0) = false := decide_eq_false c4
  clear c4
  obtain rfl := Option.some.inj H
  go_enter Try.func82, Try.ntmps82
  go_wp2
  go_ret
  exact ⟨by first | rfl | (simp; done) | (simp [*]; done), by repeat (first | exact Drawn0.refl _ | apply Drawn0.step)⟩

end Go.Proofs.Ytahglcpndiadnaa.PFnExactRunShop
