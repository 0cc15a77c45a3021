-- Printed by this session's own program (wip/deep/drow.py); Lean checks it.
import Derived.Test.YtmkonhmojlfjoaaDoorTie
import Derived.Test.YtmkonhmojlfjoaaDoorCards
import Derived.Test.YtmkonhmojlfjoaaDoorRows
import Derived.Test.YtmkonhmojlfjoaaDoorPureFnExactRecoverLog
import Derived.WalkKit
import Derived.ProofKit
import Derived.OpenShut
import Derived.ShutString
import Derived.ChangeOld
import Derived.Below
import Derived.SizedLaws
import Derived.ChangeSlices
import Derived.Carry
import Derived.LaidMore
import Derived.Lay
import Derived.LaidOnce
import Derived.SevenTiedAt
import Derived.LaidLaws
import Derived.LaidHandle
namespace Go.Proofs.YtmkonhmojlfjoaaDoor.fnExactRecoverLog
open Go.ChangeShapes Go.WideShapes Go.ChangeAt Go.RowKit Go.Proofs.YtmkonhmojlfjoaaDoor Go.Proofs.YtmkonhmojlfjoaaDoor.DFnExactRecoverLog Go.Proofs.YtmkonhmojlfjoaaDoorD
open Go.ChangeMaps (open_string shut_string)
set_option linter.unusedVariables false
theorem own : ownKnob Tryd.prog.godebug = none := by kernel_rfl
set_option maxRecDepth 100000 in
theorem lifted (os : Os) (started : os.Started) (H : Type) (enc : TypeId × Value → H) :
    ReturnsInHanded {} Tryd.checked os 4 .any (fun w args => (Rows.fnExactRecoverLogSpec.pre enc Tryd.prog Tryd.f4 Rows.fnExactRecoverLogRow.domain false w args ∧ laidMetH Tryd.prog Rows.fnExactRecoverLogRow.laid w) ∧ sizedMet enc Tryd.prog Tryd.f4 (OpenSpec.ofChange Rows.fnExactRecoverLogSpec) false w args) (Rows.fnExactRecoverLogSpec.post enc Tryd.prog Tryd.f4 false true false false) := by
  refine returns_laid (C := Tryd.checked) (X := fun w _ => laidMetH Tryd.prog Rows.fnExactRecoverLogRow.laid w) (fun _ _ _ hh h => h.of_heap hh) own started (by kernel_rfl) Tryd.func4
    (ChangeSpec.witness_shaped (enc := enc) (C := Tryd.checked) (os := os) (X := fun w _ => laidMetH Tryd.prog Rows.fnExactRecoverLogRow.laid w) false (World.laidAll Tryd.prog os Rows.fnExactRecoverLogRow.laid) #[.string ByteArray.empty] 8 (World.laidAll_os _ _ _) (World.shaped_of_ZipB (by kernel_rfl) (by kernel_rfl)) (by kernel_rfl) (by kernel_rfl) (by kernel_rfl)
      (by rw [MakeChecks.laidMetH_plain _ _ _ (by kernel_rfl)]; exact laidMet_laidAll _ (by kernel_rfl) (by kernel_rfl))) ?_
  intro W base args ds gs before hval0 hW hcnd hsz0 hL hsh _
  have hL1 : laidMet Tryd.prog Rows.fnExactRecoverLogRow.laid W := by rw [MakeChecks.laidMetH_plain _ _ _ (by kernel_rfl)] at hL; exact hL
  have hL2 : Rows.fnExactRecoverLogRow.laid = [("math/bits.deBruijn32tab", Rows.laid_math_bits_deBruijn32tab), ("math/bits.deBruijn64tab", Rows.laid_math_bits_deBruijn64tab), ("internal/strconv.uint64pow10", Lib.tabData .u64 Lib.pow10Tab)] := by kernel_rfl
  rw [hL2] at hL1
  obtain ⟨g1, g2⟩ := g_of hsh (tab_of hL1.tail.tail)
  have hsz : (DataW.weightsEach Tryd.prog (Tryd.f4.params.toList ++ Rows.fnExactRecoverLogSpec.plain.varTypes Tryd.prog) (ds ++ gs)).all (· ≤ reachBytes) = true := hsz0
  have hval : ∀ (j : Nat) t v, Tryd.f4.params[j]? = some t → args[j]? = some v → Value.okWide Tryd.prog W .any base t v := hval0
  have hW' := hW
  obtain ⟨p, q, hA0, hV, rfl, hfz, hnd⟩ := hW
  have hA : DataW.TrodAll enc Tryd.prog W 0 (fun _ => true) true Tryd.f4.params.toList args.toList ds p := hA0
  rw [Tryd.params4] at hA hval hsz
  obtain ⟨v0, vs0, d0, ds0, p0, q0, hargs, rfl, rfl, h0, r0⟩ := trodAll_cons hA
  obtain ⟨rfl, rfl, rfl⟩ := trodAll_nil r0
  obtain rfl : args = #[v0] := by cases args; simp_all
  obtain ⟨rfl, rfl⟩ := trodVars_none hV
  obtain ⟨a0, rfl, rfl, rfl, y0⟩ := open_string Tryd.underlying9 (hval 0 9 v0 rfl rfl) h0
  have hok0 : a0.size ≤ 140737488351232 := by
    have z := sized_string hsz (j := 0) (t := 9) rfl rfl
    rw [Array.length_toList] at z
    exact z
  clear hA0 hval0 hsz0 hsz
  obtain ⟨kr, hr⟩ := pure_holds a0 hok0
  have hv : VRs (Ctx.law W) W [.val .str a0] [.string a0] := (VRs.cons' (VR.val' (T := .str) (x := a0) rfl) VRs.nil')
  have hS : Sound Tryd.prog 4 ⟨[.d .str none], [.d .bool none], fun x => laws_FnExactRecoverLog.f kr x⟩ := laws_FnExactRecoverLog.sound kr
  have hvs : (inVL [.d .str none] (ofRT (tysL [.d .str none]) (a0 : RT (tysL [.d .str none]))) 0).vs = [.val .str a0] := by kernel_rfl
  have hhp : (inVL [.d .str none] (ofRT (tysL [.d .str none]) (a0 : RT (tysL [.d .str none]))) 0).heap = [] := by kernel_rfl
  have hrt : ofRT (tysL ([.d .bool none] ++ flatL (bxsL [.d .str none]))) (true : RT (tysL ([.d .bool none] ++ flatL (bxsL [.d .str none])))) = [⟨.bool, true⟩] := by kernel_rfl
  have hr' : (fun x => laws_FnExactRecoverLog.f kr x : RT (tysL [.d .str none]) → Option (RT (tysL ([.d .bool none] ++ flatL (bxsL [.d .str none]))))) a0 = some true := hr
  refine (law_ok hS hr' hrt (by kernel_rfl) hvs hhp hv g1 g2).mono fun e W' ⟨he, bel⟩ => ?_
  subst he
  exact ⟨_, rfl, _, _, _, [], _, [], hW', trodAll_mk1 (shut_bool Tryd.underlying4 _), (trodAll_cons_mk (shut_string Tryd.underlying9 y0) trodAll_mk0), rfl, bel.frame _, fun h => by cases h⟩
theorem over : Rows.fnExactRecoverLogRow.holds Tryd.pinned (OpenSpec.ofChange Rows.fnExactRecoverLogSpec) :=
  OpenClaim.holds_of_wide 4 Tryd.f4 rfl rfl rfl rfl rfl rfl rfl ⟨rfl, rfl, rfl, rfl, rfl⟩ rfl rfl rfl rfl rfl (by kernel_rfl) Tryd.func4 (by kernel_rfl)
    (of_decide_eq_true (by kernel_rfl)) (by unfold Func.isWrapper; first | (rw [if_pos (by decide +kernel)]; kernel_rfl) | (rw [if_neg (by decide +kernel)]; exact ⟨rfl, rfl⟩))
    (fun os started H enc _ => lifted os started H enc)
theorem proved : Rows.FnExactRecoverLogSaid := over
theorem carded : Rows.FnExactRecoverLogCardSaid :=
  Claim7.holds_tied_plain_at .later [] [.data, .data, .data] true (true, "cc6089f0d06d13c68c9708a172b7ff6dc50cfdb6b3831add508284c25ad83fd6") false proved (fun _ h => by cases h) (by kernel_rfl) (fun _ h => by cases h) fnExactRecoverLog_row_tie rfl ⟨rfl, rfl⟩ (by kernel_rfl) rfl
    (fun f fn hf hfn => by
      obtain rfl : f = 4 := Option.some.inj ((show Tryd.prog.funcNamed Rows.fnExactRecoverLogRow.func = some 4 by kernel_rfl).symm.trans hf) |>.symm
      obtain rfl : fn = Tryd.f4 := (Option.some.inj (Tryd.func4.symm.trans hfn)).symm
      exact ⟨by kernel_rfl, fun j t ht => by
        rw [Tryd.params4] at ht
        have hm : t ∈ [9] := by simpa using Array.mem_of_getElem? ht
        have hall : ([9].all fun u => !Tryd.prog.wantsStandIn u) = true := by kernel_rfl
        exact (show Tryd.prog.wantsStandIn t = false by simpa using List.all_eq_true.1 hall t hm)⟩)
    (by kernel_rfl)
#print axioms carded
end Go.Proofs.YtmkonhmojlfjoaaDoor.fnExactRecoverLog
namespace Go.Proofs.YtmkonhmojlfjoaaDoor
/-- The card, under a short name, for the claim. -/
theorem fnExactRecoverLog_holds : Rows.FnExactRecoverLogCardSaid := fnExactRecoverLog.carded
end Go.Proofs.YtmkonhmojlfjoaaDoor
