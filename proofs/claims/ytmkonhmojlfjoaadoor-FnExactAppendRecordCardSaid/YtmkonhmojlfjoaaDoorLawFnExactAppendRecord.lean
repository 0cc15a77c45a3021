-- Printed by this session's own program (wip/deep/drow.py); Lean checks it.
import Derived.Test.YtmkonhmojlfjoaaDoorTie
import Derived.Test.YtmkonhmojlfjoaaDoorCards
import Derived.Test.YtmkonhmojlfjoaaDoorRows
import Derived.Test.YtmkonhmojlfjoaaDoorPureFnExactAppendRecord
import Derived.WalkKit
import Derived.ProofKit
import Derived.OpenShut
import Derived.ShutString
import Derived.ChangeOld
import Derived.Below
import Derived.SizedLaws
import Derived.ChangeSlices
import Derived.Carry
import Derived.LaidMore
import Derived.Lay
import Derived.LaidOnce
import Derived.SevenTiedAt
import Derived.LaidLaws
import Derived.LaidHandle
namespace Go.Proofs.YtmkonhmojlfjoaaDoor.fnExactAppendRecord
open Go.ChangeShapes Go.WideShapes Go.ChangeAt Go.RowKit Go.Proofs.YtmkonhmojlfjoaaDoor Go.Proofs.YtmkonhmojlfjoaaDoor.DFnExactAppendRecord Go.Proofs.YtmkonhmojlfjoaaDoorD
open Go.ChangeMaps (open_string shut_string)
set_option linter.unusedVariables false
theorem own : ownKnob Tryd.prog.godebug = none := by kernel_rfl
theorem laidOut : laidOutB Tryd.prog = true := by kernel_rfl
theorem opens9 : Opens Tryd.prog 9 .str (fun s => s.size ≤ 140737488351232) := Opens.string Tryd.underlying9 (by kernel_rfl)
theorem opens3 : Opens Tryd.prog 3 (.int .i64) (fun s => (Lit.int .i64 s).wf = true) := Opens.int Tryd.underlying3 (by kernel_rfl)
set_option maxRecDepth 100000 in
theorem opens36 : Opens Tryd.prog 36 (.pair .str (.pair .str (.int .i64))) (fun s => (s.1.size ≤ 140737488351232) ∧ (s.2.1.size ≤ 140737488351232) ∧ (Lit.int .i64 s.2.2).wf = true) := by
  refine Opens.struct (T := (.pair .str (.pair .str (.int .i64)))) (ok := fun s => (s.1.size ≤ 140737488351232) ∧ (s.2.1.size ≤ 140737488351232) ∧ (Lit.int .i64 s.2.2).wf = true) Tryd.underlying36 (by kernel_rfl) ?_
  exact OpensF.cons (off1 := 1) (T := .str) (T1 := (.pair .str (.int .i64))) (ok := (fun a : ByteArray => a.size ≤ 140737488351232)) (ok1 := fun a : ByteArray × Int => (a.1.size ≤ 140737488351232) ∧ (Lit.int .i64 a.2).wf = true) opens9 rfl rfl (OpensF.cons (off1 := 2) (T := .str) (T1 := (.int .i64)) (ok := (fun a : ByteArray => a.size ≤ 140737488351232)) (ok1 := fun a : Int => (Lit.int .i64 a).wf = true) opens9 rfl rfl (OpensF.one (T := (.int .i64)) (ok := (fun a : Int => (Lit.int .i64 a).wf = true)) opens3 rfl))
set_option maxRecDepth 100000 in
theorem opens23 : Opens Tryd.prog 23 (.pair .str .str) (fun s => (s.1.size ≤ 140737488351232) ∧ s.2.size ≤ 140737488351232) := by
  refine Opens.struct (T := (.pair .str .str)) (ok := fun s => (s.1.size ≤ 140737488351232) ∧ s.2.size ≤ 140737488351232) Tryd.underlying23 (by kernel_rfl) ?_
  exact OpensF.cons (off1 := 1) (T := .str) (T1 := .str) (ok := (fun a : ByteArray => a.size ≤ 140737488351232)) (ok1 := fun a : ByteArray => a.size ≤ 140737488351232) opens9 rfl rfl (OpensF.one (T := .str) (ok := (fun a : ByteArray => a.size ≤ 140737488351232)) opens9 rfl)
set_option maxRecDepth 100000 in
theorem lifted (os : Os) (started : os.Started) (H : Type) (enc : TypeId × Value → H) :
    ReturnsInHanded {} Tryd.checked os 8 .any (fun w args => (Rows.fnExactAppendRecordSpec.pre enc Tryd.prog Tryd.f8 Rows.fnExactAppendRecordRow.domain false w args ∧ laidMetH Tryd.prog Rows.fnExactAppendRecordRow.laid w) ∧ sizedMet enc Tryd.prog Tryd.f8 (OpenSpec.ofChange Rows.fnExactAppendRecordSpec) false w args) (Rows.fnExactAppendRecordSpec.post enc Tryd.prog Tryd.f8 false true false false) := by
  refine returns_laid (C := Tryd.checked) (X := fun w _ => laidMetH Tryd.prog Rows.fnExactAppendRecordRow.laid w) (fun _ _ _ hh h => h.of_heap hh) own started (by kernel_rfl) Tryd.func8
    (ChangeSpec.witness_shaped (enc := enc) (C := Tryd.checked) (os := os) (X := fun w _ => laidMetH Tryd.prog Rows.fnExactAppendRecordRow.laid w) false (World.laidAll Tryd.prog os Rows.fnExactAppendRecordRow.laid) #[.agg #[.string ByteArray.empty, .string ByteArray.empty, .int .i64 0], .agg #[.string ByteArray.empty, .string ByteArray.empty]] 8 (World.laidAll_os _ _ _) (World.shaped_of_ZipB (by kernel_rfl) (by kernel_rfl)) (by kernel_rfl) (by kernel_rfl) (by kernel_rfl)
      (by rw [MakeChecks.laidMetH_plain _ _ _ (by kernel_rfl)]; exact laidMet_laidAll _ (by kernel_rfl) (by kernel_rfl))) ?_
  intro W base args ds gs before hval0 hW hcnd hsz0 hL hsh _
  have hL1 : laidMet Tryd.prog Rows.fnExactAppendRecordRow.laid W := by rw [MakeChecks.laidMetH_plain _ _ _ (by kernel_rfl)] at hL; exact hL
  have hL2 : Rows.fnExactAppendRecordRow.laid = [("math/bits.deBruijn32tab", Rows.laid_math_bits_deBruijn32tab), ("math/bits.deBruijn64tab", Rows.laid_math_bits_deBruijn64tab), ("internal/strconv.uint64pow10", Lib.tabData .u64 Lib.pow10Tab)] := by kernel_rfl
  rw [hL2] at hL1
  obtain ⟨g1, g2⟩ := g_of hsh (tab_of hL1.tail.tail)
  have hsz : (DataW.weightsEach Tryd.prog (Tryd.f8.params.toList ++ Rows.fnExactAppendRecordSpec.plain.varTypes Tryd.prog) (ds ++ gs)).all (· ≤ reachBytes) = true := hsz0
  have hval : ∀ (j : Nat) t v, Tryd.f8.params[j]? = some t → args[j]? = some v → Value.okWide Tryd.prog W .any base t v := hval0
  have hW' := hW
  obtain ⟨p, q, hA0, hV, rfl, hfz, hnd⟩ := hW
  have hA : DataW.TrodAll enc Tryd.prog W 0 (fun _ => true) true Tryd.f8.params.toList args.toList ds p := hA0
  rw [Tryd.params8] at hA hval hsz
  obtain ⟨v0, vs0, d0, ds0, p0, q0, hargs, rfl, rfl, h0, r0⟩ := trodAll_cons hA
  obtain ⟨v1, vs1, d1, ds1, p1, q1, rfl, rfl, rfl, h1, r1⟩ := trodAll_cons r0
  obtain ⟨rfl, rfl, rfl⟩ := trodAll_nil r1
  obtain rfl : args = #[v0, v1] := by cases args; simp_all
  obtain ⟨rfl, rfl⟩ := trodVars_none hV
  have hw0 : ∀ n_ ∈ d0.weights Tryd.prog 36, n_ ≤ 140737488351232 := fun n_ hn_ => of_decide_eq_true (List.all_eq_true.1 hsz n_ (DataW.weights_mem_each (j := 0) rfl rfl n_ hn_))
  have k0 := h0
  have lt0 : ∀ x ∈ p0, x.block < W.heap.size := by obtain ⟨m, hm⟩ := k0; exact DataW.trod_lt m _ _ _ hm
  obtain ⟨cs0, rfl, hz0⟩ := okWide_struct Tryd.underlying36 (hval 0 36 v0 rfl rfl)
  obtain ⟨fu0, hf0⟩ := h0
  obtain ⟨x0, hK0, hok0⟩ := opens36.2 _ _ _ _ _ _ _ _ hf0 hw0
  have hw1 : ∀ n_ ∈ d1.weights Tryd.prog 23, n_ ≤ 140737488351232 := fun n_ hn_ => of_decide_eq_true (List.all_eq_true.1 hsz n_ (DataW.weights_mem_each (j := 1) rfl rfl n_ hn_))
  have k1 := h1
  have lt1 : ∀ x ∈ p1, x.block < W.heap.size := by obtain ⟨m, hm⟩ := k1; exact DataW.trod_lt m _ _ _ hm
  obtain ⟨cs1, rfl, hz1⟩ := okWide_struct Tryd.underlying23 (hval 1 23 v1 rfl rfl)
  obtain ⟨fu1, hf1⟩ := h1
  obtain ⟨x1, hK1, hok1⟩ := opens23.2 _ _ _ _ _ _ _ _ hf1 hw1
  clear hA0 hval0 hsz0 hsz
  obtain ⟨kr, hr⟩ := pure_holds x0.1 x0.2.1 x0.2.2 x1.1 x1.2 hok0.1 hok0.2.1 hok0.2.2 hok1.1 hok1.2
  have hv : VRs (Ctx.law W) W [.agg (leaves (.pair .str (.pair .str (.int .i64))) x0), .agg (leaves (.pair .str .str) x1)] [.agg cs0, .agg cs1] := (VRs.cons' (VR.agg' (T := (.pair .str (.pair .str (.int .i64)))) (x := x0) hK0) (VRs.cons' (VR.agg' (T := (.pair .str .str)) (x := x1) hK1) VRs.nil'))
  have hS : Sound Tryd.prog 8 ⟨[.ag [.d .str none, .d .str none, .d (.int .i64) none], .ag [.d .str none, .d .str none]], [.d .bool none], fun x => laws_FnExactAppendRecord.f kr x.1 x.2.1 x.2.2.1 x.2.2.2.1 x.2.2.2.2⟩ := laws_FnExactAppendRecord.sound kr
  have hvs : (inVL [.ag [.d .str none, .d .str none, .d (.int .i64) none], .ag [.d .str none, .d .str none]] (ofRT (tysL [.ag [.d .str none, .d .str none, .d (.int .i64) none], .ag [.d .str none, .d .str none]]) ((x0.1, x0.2.1, x0.2.2, x1.1, x1.2) : RT (tysL [.ag [.d .str none, .d .str none, .d (.int .i64) none], .ag [.d .str none, .d .str none]]))) 0).vs = [.agg (leaves (.pair .str (.pair .str (.int .i64))) x0), .agg (leaves (.pair .str .str) x1)] := by kernel_rfl
  have hhp : (inVL [.ag [.d .str none, .d .str none, .d (.int .i64) none], .ag [.d .str none, .d .str none]] (ofRT (tysL [.ag [.d .str none, .d .str none, .d (.int .i64) none], .ag [.d .str none, .d .str none]]) ((x0.1, x0.2.1, x0.2.2, x1.1, x1.2) : RT (tysL [.ag [.d .str none, .d .str none, .d (.int .i64) none], .ag [.d .str none, .d .str none]]))) 0).heap = [] := by kernel_rfl
  have hrt : ofRT (tysL ([.d .bool none] ++ flatL (bxsL [.ag [.d .str none, .d .str none, .d (.int .i64) none], .ag [.d .str none, .d .str none]]))) (true : RT (tysL ([.d .bool none] ++ flatL (bxsL [.ag [.d .str none, .d .str none, .d (.int .i64) none], .ag [.d .str none, .d .str none]])))) = [⟨.bool, true⟩] := by kernel_rfl
  have hr' : (fun x => laws_FnExactAppendRecord.f kr x.1 x.2.1 x.2.2.1 x.2.2.2.1 x.2.2.2.2 : RT (tysL [.ag [.d .str none, .d .str none, .d (.int .i64) none], .ag [.d .str none, .d .str none]]) → Option (RT (tysL ([.d .bool none] ++ flatL (bxsL [.ag [.d .str none, .d .str none, .d (.int .i64) none], .ag [.d .str none, .d .str none]]))))) (x0.1, x0.2.1, x0.2.2, x1.1, x1.2) = some true := hr
  refine (law_ok hS hr' hrt (by kernel_rfl) hvs hhp hv g1 g2).mono fun e W' ⟨he, bel⟩ => ?_
  subst he
  exact ⟨_, rfl, _, _, _, [], _, [], hW', trodAll_mk1 (shut_bool Tryd.underlying4 _), (trodAll_cons_mk (Below.trod laidOut (by kernel_rfl) (of_decide_eq_true (by kernel_rfl)) k0 bel lt0) (trodAll_cons_mk (Below.trod laidOut (by kernel_rfl) (of_decide_eq_true (by kernel_rfl)) k1 bel lt1) trodAll_mk0)), rfl, bel.frame _, fun h => by cases h⟩
theorem over : Rows.fnExactAppendRecordRow.holds Tryd.pinned (OpenSpec.ofChange Rows.fnExactAppendRecordSpec) :=
  OpenClaim.holds_of_wide 8 Tryd.f8 rfl rfl rfl rfl rfl rfl rfl ⟨rfl, rfl, rfl, rfl, rfl⟩ rfl rfl rfl rfl rfl (by kernel_rfl) Tryd.func8 (by kernel_rfl)
    (of_decide_eq_true (by kernel_rfl)) (by unfold Func.isWrapper; first | (rw [if_pos (by decide +kernel)]; kernel_rfl) | (rw [if_neg (by decide +kernel)]; exact ⟨rfl, rfl⟩))
    (fun os started H enc _ => lifted os started H enc)
theorem proved : Rows.FnExactAppendRecordSaid := over
theorem carded : Rows.FnExactAppendRecordCardSaid :=
  Claim7.holds_tied_plain_at .later [] [.data, .data, .data] true (true, "cc6089f0d06d13c68c9708a172b7ff6dc50cfdb6b3831add508284c25ad83fd6") false proved (fun _ h => by cases h) (by kernel_rfl) (fun _ h => by cases h) fnExactAppendRecord_row_tie rfl ⟨rfl, rfl⟩ (by kernel_rfl) rfl
    (fun f fn hf hfn => by
      obtain rfl : f = 8 := Option.some.inj ((show Tryd.prog.funcNamed Rows.fnExactAppendRecordRow.func = some 8 by kernel_rfl).symm.trans hf) |>.symm
      obtain rfl : fn = Tryd.f8 := (Option.some.inj (Tryd.func8.symm.trans hfn)).symm
      exact ⟨by kernel_rfl, fun j t ht => by
        rw [Tryd.params8] at ht
        have hm : t ∈ [36, 23] := by simpa using Array.mem_of_getElem? ht
        have hall : ([36, 23].all fun u => !Tryd.prog.wantsStandIn u) = true := by kernel_rfl
        exact (show Tryd.prog.wantsStandIn t = false by simpa using List.all_eq_true.1 hall t hm)⟩)
    (by kernel_rfl)
#print axioms carded
end Go.Proofs.YtmkonhmojlfjoaaDoor.fnExactAppendRecord
namespace Go.Proofs.YtmkonhmojlfjoaaDoor
/-- The card, under a short name, for the claim. -/
theorem fnExactAppendRecord_holds : Rows.FnExactAppendRecordCardSaid := fnExactAppendRecord.carded
end Go.Proofs.YtmkonhmojlfjoaaDoor
