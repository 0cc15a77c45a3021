-- Printed by this session's own program (wip/deep/drow.py); Lean checks it.
import Derived.Test.YtmkonhmojlfjoaaDoorTie
import Derived.Test.YtmkonhmojlfjoaaDoorCards
import Derived.Test.YtmkonhmojlfjoaaDoorRows
import Derived.Test.YtmkonhmojlfjoaaDoorPureFnExactCrashLog
import Derived.WalkKit
import Derived.ProofKit
import Derived.OpenShut
import Derived.ShutString
import Derived.ChangeOld
import Derived.Below
import Derived.SizedLaws
import Derived.ChangeSlices
import Derived.Carry
import Derived.LaidMore
import Derived.Lay
import Derived.LaidOnce
import Derived.SevenTiedAt
import Derived.LaidLaws
import Derived.LaidHandle
namespace Go.Proofs.YtmkonhmojlfjoaaDoor.fnExactCrashLog
open Go.ChangeShapes Go.WideShapes Go.ChangeAt Go.RowKit Go.Proofs.YtmkonhmojlfjoaaDoor Go.Proofs.YtmkonhmojlfjoaaDoor.DFnExactCrashLog Go.Proofs.YtmkonhmojlfjoaaDoorD
open Go.ChangeMaps (open_string shut_string)
set_option linter.unusedVariables false
theorem own : ownKnob Tryd.prog.godebug = none := by kernel_rfl
theorem laidOut : laidOutB Tryd.prog = true := by kernel_rfl
theorem opens9 : Opens Tryd.prog 9 .str (fun s => s.size ≤ 140737488351232) := Opens.string Tryd.underlying9 (by kernel_rfl)
theorem opens3 : Opens Tryd.prog 3 (.int .i64) (fun s => (Lit.int .i64 s).wf = true) := Opens.int Tryd.underlying3 (by kernel_rfl)
set_option maxRecDepth 100000 in
theorem opens36 : Opens Tryd.prog 36 (.pair .str (.pair .str (.int .i64))) (fun s => (s.1.size ≤ 140737488351232) ∧ (s.2.1.size ≤ 140737488351232) ∧ (Lit.int .i64 s.2.2).wf = true) := by
  refine Opens.struct (T := (.pair .str (.pair .str (.int .i64)))) (ok := fun s => (s.1.size ≤ 140737488351232) ∧ (s.2.1.size ≤ 140737488351232) ∧ (Lit.int .i64 s.2.2).wf = true) Tryd.underlying36 (by kernel_rfl) ?_
  exact OpensF.cons (off1 := 1) (T := .str) (T1 := (.pair .str (.int .i64))) (ok := (fun a : ByteArray => a.size ≤ 140737488351232)) (ok1 := fun a : ByteArray × Int => (a.1.size ≤ 140737488351232) ∧ (Lit.int .i64 a.2).wf = true) opens9 rfl rfl (OpensF.cons (off1 := 2) (T := .str) (T1 := (.int .i64)) (ok := (fun a : ByteArray => a.size ≤ 140737488351232)) (ok1 := fun a : Int => (Lit.int .i64 a).wf = true) opens9 rfl rfl (OpensF.one (T := (.int .i64)) (ok := (fun a : Int => (Lit.int .i64 a).wf = true)) opens3 rfl))
set_option maxRecDepth 100000 in
theorem lifted (os : Os) (started : os.Started) (H : Type) (enc : TypeId × Value → H) :
    ReturnsInHanded {} Tryd.checked os 6 .any (fun w args => (Rows.fnExactCrashLogSpec.pre enc Tryd.prog Tryd.f6 Rows.fnExactCrashLogRow.domain false w args ∧ laidMetH Tryd.prog Rows.fnExactCrashLogRow.laid w) ∧ sizedMet enc Tryd.prog Tryd.f6 (OpenSpec.ofChange Rows.fnExactCrashLogSpec) false w args) (Rows.fnExactCrashLogSpec.post enc Tryd.prog Tryd.f6 false true false false) := by
  refine returns_laid (C := Tryd.checked) (X := fun w _ => laidMetH Tryd.prog Rows.fnExactCrashLogRow.laid w) (fun _ _ _ hh h => h.of_heap hh) own started (by kernel_rfl) Tryd.func6
    (ChangeSpec.witness_shaped (enc := enc) (C := Tryd.checked) (os := os) (X := fun w _ => laidMetH Tryd.prog Rows.fnExactCrashLogRow.laid w) false (World.laidAll Tryd.prog os Rows.fnExactCrashLogRow.laid) #[.agg #[.string ByteArray.empty, .string ByteArray.empty, .int .i64 0], .int .i64 0, .bool false] 8 (World.laidAll_os _ _ _) (World.shaped_of_ZipB (by kernel_rfl) (by kernel_rfl)) (by kernel_rfl) (by kernel_rfl) (by kernel_rfl)
      (by rw [MakeChecks.laidMetH_plain _ _ _ (by kernel_rfl)]; exact laidMet_laidAll _ (by kernel_rfl) (by kernel_rfl))) ?_
  intro W base args ds gs before hval0 hW hcnd hsz0 hL hsh _
  have hL1 : laidMet Tryd.prog Rows.fnExactCrashLogRow.laid W := by rw [MakeChecks.laidMetH_plain _ _ _ (by kernel_rfl)] at hL; exact hL
  have hL2 : Rows.fnExactCrashLogRow.laid = [("math/bits.deBruijn32tab", Rows.laid_math_bits_deBruijn32tab), ("math/bits.deBruijn64tab", Rows.laid_math_bits_deBruijn64tab), ("internal/strconv.uint64pow10", Lib.tabData .u64 Lib.pow10Tab)] := by kernel_rfl
  rw [hL2] at hL1
  obtain ⟨g1, g2⟩ := g_of hsh (tab_of hL1.tail.tail)
  have hsz : (DataW.weightsEach Tryd.prog (Tryd.f6.params.toList ++ Rows.fnExactCrashLogSpec.plain.varTypes Tryd.prog) (ds ++ gs)).all (· ≤ reachBytes) = true := hsz0
  have hval : ∀ (j : Nat) t v, Tryd.f6.params[j]? = some t → args[j]? = some v → Value.okWide Tryd.prog W .any base t v := hval0
  have hW' := hW
  obtain ⟨p, q, hA0, hV, rfl, hfz, hnd⟩ := hW
  have hA : DataW.TrodAll enc Tryd.prog W 0 (fun _ => true) true Tryd.f6.params.toList args.toList ds p := hA0
  rw [Tryd.params6] at hA hval hsz
  obtain ⟨v0, vs0, d0, ds0, p0, q0, hargs, rfl, rfl, h0, r0⟩ := trodAll_cons hA
  obtain ⟨v1, vs1, d1, ds1, p1, q1, rfl, rfl, rfl, h1, r1⟩ := trodAll_cons r0
  obtain ⟨v2, vs2, d2, ds2, p2, q2, rfl, rfl, rfl, h2, r2⟩ := trodAll_cons r1
  obtain ⟨rfl, rfl, rfl⟩ := trodAll_nil r2
  obtain rfl : args = #[v0, v1, v2] := by cases args; simp_all
  obtain ⟨rfl, rfl⟩ := trodVars_none hV
  have hw0 : ∀ n_ ∈ d0.weights Tryd.prog 36, n_ ≤ 140737488351232 := fun n_ hn_ => of_decide_eq_true (List.all_eq_true.1 hsz n_ (DataW.weights_mem_each (j := 0) rfl rfl n_ hn_))
  have k0 := h0
  have lt0 : ∀ x ∈ p0, x.block < W.heap.size := by obtain ⟨m, hm⟩ := k0; exact DataW.trod_lt m _ _ _ hm
  obtain ⟨cs0, rfl, hz0⟩ := okWide_struct Tryd.underlying36 (hval 0 36 v0 rfl rfl)
  obtain ⟨fu0, hf0⟩ := h0
  obtain ⟨x0, hK0, hok0⟩ := opens36.2 _ _ _ _ _ _ _ _ hf0 hw0
  obtain ⟨a1, rfl, rfl, rfl, hok1⟩ := open_int Tryd.underlying3 (hval 1 3 v1 rfl rfl) h1
  obtain ⟨a2, rfl, rfl, rfl⟩ := open_bool Tryd.underlying4 (hval 2 4 v2 rfl rfl) h2
  clear hA0 hval0 hsz0 hsz
  obtain ⟨kr, hr⟩ := pure_holds x0.1 x0.2.1 x0.2.2 a1 a2 hok0.1 hok0.2.1 hok0.2.2 hok1
  have hv : VRs (Ctx.law W) W [.agg (leaves (.pair .str (.pair .str (.int .i64))) x0), .val (.int .i64) a1, .val .bool a2] [.agg cs0, .int .i64 a1, .bool a2] := (VRs.cons' (VR.agg' (T := (.pair .str (.pair .str (.int .i64)))) (x := x0) hK0) (VRs.cons' (VR.val' (T := (.int .i64)) (x := a1) rfl) (VRs.cons' (VR.val' (T := .bool) (x := a2) rfl) VRs.nil')))
  have hS : Sound Tryd.prog 6 ⟨[.ag [.d .str none, .d .str none, .d (.int .i64) none], .d (.int .i64) none, .d .bool none], [.d .bool none], fun x => laws_FnExactCrashLog.f kr x.1 x.2.1 x.2.2.1 x.2.2.2.1 x.2.2.2.2⟩ := laws_FnExactCrashLog.sound kr
  have hvs : (inVL [.ag [.d .str none, .d .str none, .d (.int .i64) none], .d (.int .i64) none, .d .bool none] (ofRT (tysL [.ag [.d .str none, .d .str none, .d (.int .i64) none], .d (.int .i64) none, .d .bool none]) ((x0.1, x0.2.1, x0.2.2, a1, a2) : RT (tysL [.ag [.d .str none, .d .str none, .d (.int .i64) none], .d (.int .i64) none, .d .bool none]))) 0).vs = [.agg (leaves (.pair .str (.pair .str (.int .i64))) x0), .val (.int .i64) a1, .val .bool a2] := by kernel_rfl
  have hhp : (inVL [.ag [.d .str none, .d .str none, .d (.int .i64) none], .d (.int .i64) none, .d .bool none] (ofRT (tysL [.ag [.d .str none, .d .str none, .d (.int .i64) none], .d (.int .i64) none, .d .bool none]) ((x0.1, x0.2.1, x0.2.2, a1, a2) : RT (tysL [.ag [.d .str none, .d .str none, .d (.int .i64) none], .d (.int .i64) none, .d .bool none]))) 0).heap = [] := by kernel_rfl
  have hrt : ofRT (tysL ([.d .bool none] ++ flatL (bxsL [.ag [.d .str none, .d .str none, .d (.int .i64) none], .d (.int .i64) none, .d .bool none]))) (true : RT (tysL ([.d .bool none] ++ flatL (bxsL [.ag [.d .str none, .d .str none, .d (.int .i64) none], .d (.int .i64) none, .d .bool none])))) = [⟨.bool, true⟩] := by kernel_rfl
  have hr' : (fun x => laws_FnExactCrashLog.f kr x.1 x.2.1 x.2.2.1 x.2.2.2.1 x.2.2.2.2 : RT (tysL [.ag [.d .str none, .d .str none, .d (.int .i64) none], .d (.int .i64) none, .d .bool none]) → Option (RT (tysL ([.d .bool none] ++ flatL (bxsL [.ag [.d .str none, .d .str none, .d (.int .i64) none], .d (.int .i64) none, .d .bool none]))))) (x0.1, x0.2.1, x0.2.2, a1, a2) = some true := hr
  refine (law_ok hS hr' hrt (by kernel_rfl) hvs hhp hv g1 g2).mono fun e W' ⟨he, bel⟩ => ?_
  subst he
  exact ⟨_, rfl, _, _, _, [], _, [], hW', trodAll_mk1 (shut_bool Tryd.underlying4 _), (trodAll_cons_mk (Below.trod laidOut (by kernel_rfl) (of_decide_eq_true (by kernel_rfl)) k0 bel lt0) (trodAll_cons_mk (shut_int Tryd.underlying3 hok1) (trodAll_cons_mk (shut_bool Tryd.underlying4 _) trodAll_mk0))), rfl, bel.frame _, fun h => by cases h⟩
theorem over : Rows.fnExactCrashLogRow.holds Tryd.pinned (OpenSpec.ofChange Rows.fnExactCrashLogSpec) :=
  OpenClaim.holds_of_wide 6 Tryd.f6 rfl rfl rfl rfl rfl rfl rfl ⟨rfl, rfl, rfl, rfl, rfl⟩ rfl rfl rfl rfl rfl (by kernel_rfl) Tryd.func6 (by kernel_rfl)
    (of_decide_eq_true (by kernel_rfl)) (by unfold Func.isWrapper; first | (rw [if_pos (by decide +kernel)]; kernel_rfl) | (rw [if_neg (by decide +kernel)]; exact ⟨rfl, rfl⟩))
    (fun os started H enc _ => lifted os started H enc)
theorem proved : Rows.FnExactCrashLogSaid := over
theorem carded : Rows.FnExactCrashLogCardSaid :=
  Claim7.holds_tied_plain_at .later [] [.data, .data, .data] true (true, "cc6089f0d06d13c68c9708a172b7ff6dc50cfdb6b3831add508284c25ad83fd6") false proved (fun _ h => by cases h) (by kernel_rfl) (fun _ h => by cases h) fnExactCrashLog_row_tie rfl ⟨rfl, rfl⟩ (by kernel_rfl) rfl
    (fun f fn hf hfn => by
      obtain rfl : f = 6 := Option.some.inj ((show Tryd.prog.funcNamed Rows.fnExactCrashLogRow.func = some 6 by kernel_rfl).symm.trans hf) |>.symm
      obtain rfl : fn = Tryd.f6 := (Option.some.inj (Tryd.func6.symm.trans hfn)).symm
      exact ⟨by kernel_rfl, fun j t ht => by
        rw [Tryd.params6] at ht
        have hm : t ∈ [36, 3, 4] := by simpa using Array.mem_of_getElem? ht
        have hall : ([36, 3, 4].all fun u => !Tryd.prog.wantsStandIn u) = true := by kernel_rfl
        exact (show Tryd.prog.wantsStandIn t = false by simpa using List.all_eq_true.1 hall t hm)⟩)
    (by kernel_rfl)
#print axioms carded
end Go.Proofs.YtmkonhmojlfjoaaDoor.fnExactCrashLog
namespace Go.Proofs.YtmkonhmojlfjoaaDoor
/-- The card, under a short name, for the claim. -/
theorem fnExactCrashLog_holds : Rows.FnExactCrashLogCardSaid := fnExactCrashLog.carded
end Go.Proofs.YtmkonhmojlfjoaaDoor
