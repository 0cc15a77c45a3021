-- Printed by this session's own program (wip/deep/drow.py); Lean checks it.
import Derived.Test.YtiacidpjplmgaaaGreatDoorTie
import Derived.Test.YtiacidpjplmgaaaGreatDoorCards
import Derived.Test.YtiacidpjplmgaaaGreatDoorRows
import Derived.Test.YtiacidpjplmgaaaGreatDoorPureFnExactReplayLog
import Derived.WalkKit
import Derived.ProofKit
import Derived.OpenShut
import Derived.ShutString
import Derived.ChangeOld
import Derived.Below
import Derived.SizedLaws
import Derived.ChangeSlices
import Derived.Carry
import Derived.LaidMore
import Derived.Lay
import Derived.LaidOnce
import Derived.SevenTiedAt
import Derived.LaidLaws
import Derived.LaidHandle
namespace Go.Proofs.YtiacidpjplmgaaaGreatDoor.fnExactReplayLog
open Go.ChangeShapes Go.WideShapes Go.ChangeAt Go.RowKit Go.Proofs.YtiacidpjplmgaaaGreatDoor Go.Proofs.YtiacidpjplmgaaaGreatDoor.DFnExactReplayLog Go.Proofs.YtiacidpjplmgaaaGreatDoorD
open Go.ChangeMaps (open_string shut_string)
set_option linter.unusedVariables false
theorem own : ownKnob Tryz.prog.godebug = none := by kernel_rfl
theorem laidOut : laidOutB Tryz.prog = true := by kernel_rfl
theorem opens9 : Opens Tryz.prog 9 .str (fun s => s.size ≤ 140737488351232) := Opens.string Tryz.underlying9 (by kernel_rfl)
theorem opens3 : Opens Tryz.prog 3 (.int .i64) (fun s => (Lit.int .i64 s).wf = true) := Opens.int Tryz.underlying3 (by kernel_rfl)
set_option maxRecDepth 100000 in
theorem opens23 : Opens Tryz.prog 23 (.pair .str (.pair .str (.int .i64))) (fun s => (s.1.size ≤ 140737488351232) ∧ (s.2.1.size ≤ 140737488351232) ∧ (Lit.int .i64 s.2.2).wf = true) := by
  refine Opens.struct (T := (.pair .str (.pair .str (.int .i64)))) (ok := fun s => (s.1.size ≤ 140737488351232) ∧ (s.2.1.size ≤ 140737488351232) ∧ (Lit.int .i64 s.2.2).wf = true) Tryz.underlying23 (by kernel_rfl) ?_
  exact OpensF.cons (off1 := 1) (T := .str) (T1 := (.pair .str (.int .i64))) (ok := (fun a : ByteArray => a.size ≤ 140737488351232)) (ok1 := fun a : ByteArray × Int => (a.1.size ≤ 140737488351232) ∧ (Lit.int .i64 a.2).wf = true) opens9 rfl rfl (OpensF.cons (off1 := 2) (T := .str) (T1 := (.int .i64)) (ok := (fun a : ByteArray => a.size ≤ 140737488351232)) (ok1 := fun a : Int => (Lit.int .i64 a).wf = true) opens9 rfl rfl (OpensF.one (T := (.int .i64)) (ok := (fun a : Int => (Lit.int .i64 a).wf = true)) opens3 rfl))
set_option maxRecDepth 100000 in
theorem lifted (os : Os) (started : os.Started) (H : Type) (enc : TypeId × Value → H) :
    ReturnsInHanded {} Tryz.checked os 3 .any (fun w args => (Rows.fnExactReplayLogSpec.pre enc Tryz.prog Tryz.f3 Rows.fnExactReplayLogRow.domain false w args ∧ laidMetH Tryz.prog Rows.fnExactReplayLogRow.laid w) ∧ sizedMet enc Tryz.prog Tryz.f3 (OpenSpec.ofChange Rows.fnExactReplayLogSpec) false w args) (Rows.fnExactReplayLogSpec.post enc Tryz.prog Tryz.f3 false true false false) := by
  refine returns_laid (C := Tryz.checked) (X := fun w _ => laidMetH Tryz.prog Rows.fnExactReplayLogRow.laid w) (fun _ _ _ hh h => h.of_heap hh) own started (by kernel_rfl) Tryz.func3
    (ChangeSpec.witness_shaped (enc := enc) (C := Tryz.checked) (os := os) (X := fun w _ => laidMetH Tryz.prog Rows.fnExactReplayLogRow.laid w) false (World.laidAll Tryz.prog os Rows.fnExactReplayLogRow.laid) #[.int .i64 0, .agg #[.string ByteArray.empty, .string ByteArray.empty, .int .i64 0]] 8 (World.laidAll_os _ _ _) (World.shaped_of_ZipB (by kernel_rfl) (by kernel_rfl)) (by kernel_rfl) (by kernel_rfl) (by kernel_rfl)
      (by rw [MakeChecks.laidMetH_plain _ _ _ (by kernel_rfl)]; exact laidMet_laidAll _ (by kernel_rfl) (by kernel_rfl))) ?_
  intro W base args ds gs before hval0 hW hcnd hsz0 hL hsh _
  have hL1 : laidMet Tryz.prog Rows.fnExactReplayLogRow.laid W := by rw [MakeChecks.laidMetH_plain _ _ _ (by kernel_rfl)] at hL; exact hL
  have hL2 : Rows.fnExactReplayLogRow.laid = [("math/bits.deBruijn32tab", Rows.laid_math_bits_deBruijn32tab), ("math/bits.deBruijn64tab", Rows.laid_math_bits_deBruijn64tab), ("internal/strconv.uint64pow10", Lib.tabData .u64 Lib.pow10Tab), ("unicode/utf8.acceptRanges", Rows.laid_unicode_utf8_acceptRanges), ("strconv.ErrRange", Rows.laid_strconv_ErrRange), ("strconv.ErrSyntax", Rows.laid_strconv_ErrSyntax), ("unicode/utf8.first", Rows.laid_unicode_utf8_first)] := by kernel_rfl
  rw [hL2] at hL1
  obtain ⟨g1, g2⟩ := g_of hsh (tab_of hL1.tail.tail) (err0_of hL1.tail.tail.tail.tail.tail) (err1_of hL1.tail.tail.tail.tail)
  have hsz : (DataW.weightsEach Tryz.prog (Tryz.f3.params.toList ++ Rows.fnExactReplayLogSpec.plain.varTypes Tryz.prog) (ds ++ gs)).all (· ≤ reachBytes) = true := hsz0
  have hval : ∀ (j : Nat) t v, Tryz.f3.params[j]? = some t → args[j]? = some v → Value.okWide Tryz.prog W .any base t v := hval0
  have hW' := hW
  obtain ⟨p, q, hA0, hV, rfl, hfz, hnd⟩ := hW
  have hA : DataW.TrodAll enc Tryz.prog W 0 (fun _ => true) true Tryz.f3.params.toList args.toList ds p := hA0
  rw [Tryz.params3] at hA hval hsz
  obtain ⟨v0, vs0, d0, ds0, p0, q0, hargs, rfl, rfl, h0, r0⟩ := trodAll_cons hA
  obtain ⟨v1, vs1, d1, ds1, p1, q1, rfl, rfl, rfl, h1, r1⟩ := trodAll_cons r0
  obtain ⟨rfl, rfl, rfl⟩ := trodAll_nil r1
  obtain rfl : args = #[v0, v1] := by cases args; simp_all
  obtain ⟨rfl, rfl⟩ := trodVars_none hV
  obtain ⟨a0, rfl, rfl, rfl, hok0⟩ := open_int Tryz.underlying3 (hval 0 3 v0 rfl rfl) h0
  have hw1 : ∀ n_ ∈ d1.weights Tryz.prog 23, n_ ≤ 140737488351232 := fun n_ hn_ => of_decide_eq_true (List.all_eq_true.1 hsz n_ (DataW.weights_mem_each (j := 1) rfl rfl n_ hn_))
  have k1 := h1
  have lt1 : ∀ x ∈ p1, x.block < W.heap.size := by obtain ⟨m, hm⟩ := k1; exact DataW.trod_lt m _ _ _ hm
  obtain ⟨cs1, rfl, hz1⟩ := okWide_struct Tryz.underlying23 (hval 1 23 v1 rfl rfl)
  obtain ⟨fu1, hf1⟩ := h1
  obtain ⟨x1, hK1, hok1⟩ := opens23.2 _ _ _ _ _ _ _ _ hf1 hw1
  clear hA0 hval0 hsz0 hsz
  obtain ⟨kr, hr⟩ := pure_holds a0 x1.1 x1.2.1 x1.2.2 hok0 hok1.1 hok1.2.1 hok1.2.2
  have hv : VRs (Ctx.law W) W [.val (.int .i64) a0, .agg (leaves (.pair .str (.pair .str (.int .i64))) x1)] [.int .i64 a0, .agg cs1] := (VRs.cons' (VR.val' (T := (.int .i64)) (x := a0) rfl) (VRs.cons' (VR.agg' (T := (.pair .str (.pair .str (.int .i64)))) (x := x1) hK1) VRs.nil'))
  have hS : Sound Tryz.prog 3 ⟨[.d (.int .i64) none, .ag [.d .str none, .d .str none, .d (.int .i64) none]], [.d .bool none], fun x => laws_FnExactReplayLog.f kr x.1 x.2.1 x.2.2.1 x.2.2.2⟩ := laws_FnExactReplayLog.sound kr
  have hvs : (inVL [.d (.int .i64) none, .ag [.d .str none, .d .str none, .d (.int .i64) none]] (ofRT (tysL [.d (.int .i64) none, .ag [.d .str none, .d .str none, .d (.int .i64) none]]) ((a0, x1.1, x1.2.1, x1.2.2) : RT (tysL [.d (.int .i64) none, .ag [.d .str none, .d .str none, .d (.int .i64) none]]))) 0).vs = [.val (.int .i64) a0, .agg (leaves (.pair .str (.pair .str (.int .i64))) x1)] := by kernel_rfl
  have hhp : (inVL [.d (.int .i64) none, .ag [.d .str none, .d .str none, .d (.int .i64) none]] (ofRT (tysL [.d (.int .i64) none, .ag [.d .str none, .d .str none, .d (.int .i64) none]]) ((a0, x1.1, x1.2.1, x1.2.2) : RT (tysL [.d (.int .i64) none, .ag [.d .str none, .d .str none, .d (.int .i64) none]]))) 0).heap = [] := by kernel_rfl
  have hrt : ofRT (tysL ([.d .bool none] ++ flatL (bxsL [.d (.int .i64) none, .ag [.d .str none, .d .str none, .d (.int .i64) none]]))) (true : RT (tysL ([.d .bool none] ++ flatL (bxsL [.d (.int .i64) none, .ag [.d .str none, .d .str none, .d (.int .i64) none]])))) = [⟨.bool, true⟩] := by kernel_rfl
  have hr' : (fun x => laws_FnExactReplayLog.f kr x.1 x.2.1 x.2.2.1 x.2.2.2 : RT (tysL [.d (.int .i64) none, .ag [.d .str none, .d .str none, .d (.int .i64) none]]) → Option (RT (tysL ([.d .bool none] ++ flatL (bxsL [.d (.int .i64) none, .ag [.d .str none, .d .str none, .d (.int .i64) none]]))))) (a0, x1.1, x1.2.1, x1.2.2) = some true := hr
  refine (law_ok hS hr' hrt (by kernel_rfl) hvs hhp hv g1 g2).mono fun e W' ⟨he, bel⟩ => ?_
  subst he
  exact ⟨_, rfl, _, _, _, [], _, [], hW', trodAll_mk1 (shut_bool Tryz.underlying4 _), (trodAll_cons_mk (shut_int Tryz.underlying3 hok0) (trodAll_cons_mk (Below.trod laidOut (by kernel_rfl) (of_decide_eq_true (by kernel_rfl)) k1 bel lt1) trodAll_mk0)), rfl, bel.frame _, fun h => by cases h⟩
theorem over : Rows.fnExactReplayLogRow.holds Tryz.pinned (OpenSpec.ofChange Rows.fnExactReplayLogSpec) :=
  OpenClaim.holds_of_wide 3 Tryz.f3 rfl rfl rfl rfl rfl rfl rfl ⟨rfl, rfl, rfl, rfl, rfl⟩ rfl rfl rfl rfl rfl (by kernel_rfl) Tryz.func3 (by kernel_rfl)
    (of_decide_eq_true (by kernel_rfl)) (by unfold Func.isWrapper; first | (rw [if_pos (by decide +kernel)]; kernel_rfl) | (rw [if_neg (by decide +kernel)]; exact ⟨rfl, rfl⟩))
    (fun os started H enc _ => lifted os started H enc)
theorem proved : Rows.FnExactReplayLogSaid := over
theorem carded : Rows.FnExactReplayLogCardSaid :=
  Claim7.holds_tied_plain_at .later [] [.data, .data, .data, .data, .sentinel, .sentinel, .pinned] true (true, "8eb5b9420a65e22456ec8d4e0dd9fed5793aad1b78370baed74e63349c94ca5e") true proved (fun _ h => by cases h) (by kernel_rfl) (fun _ h => by cases h) fnExactReplayLog_row_tie rfl ⟨rfl, rfl⟩ (by kernel_rfl) rfl
    (fun f fn hf hfn => by
      obtain rfl : f = 3 := Option.some.inj ((show Tryz.prog.funcNamed Rows.fnExactReplayLogRow.func = some 3 by kernel_rfl).symm.trans hf) |>.symm
      obtain rfl : fn = Tryz.f3 := (Option.some.inj (Tryz.func3.symm.trans hfn)).symm
      exact ⟨by kernel_rfl, fun j t ht => by
        rw [Tryz.params3] at ht
        have hm : t ∈ [3, 23] := by simpa using Array.mem_of_getElem? ht
        have hall : ([3, 23].all fun u => !Tryz.prog.wantsStandIn u) = true := by kernel_rfl
        exact (show Tryz.prog.wantsStandIn t = false by simpa using List.all_eq_true.1 hall t hm)⟩)
    (by kernel_rfl)
#print axioms carded
end Go.Proofs.YtiacidpjplmgaaaGreatDoor.fnExactReplayLog
namespace Go.Proofs.YtiacidpjplmgaaaGreatDoor
/-- The card, under a short name, for the claim. -/
theorem fnExactReplayLog_holds : Rows.FnExactReplayLogCardSaid := fnExactReplayLog.carded
end Go.Proofs.YtiacidpjplmgaaaGreatDoor
