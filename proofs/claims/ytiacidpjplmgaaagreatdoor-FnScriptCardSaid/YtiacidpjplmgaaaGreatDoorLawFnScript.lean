-- Printed by this session's own program (wip/deep/drow.py); Lean checks it.
import Derived.Test.YtiacidpjplmgaaaGreatDoorTie
import Derived.Test.YtiacidpjplmgaaaGreatDoorCards
import Derived.Test.YtiacidpjplmgaaaGreatDoorRows
import Derived.Test.YtiacidpjplmgaaaGreatDoorPureFnScript
import Derived.WalkKit
import Derived.ProofKit
import Derived.OpenShut
import Derived.ShutString
import Derived.ChangeOld
import Derived.Below
import Derived.SizedLaws
import Derived.ChangeSlices
import Derived.Carry
import Derived.LaidMore
import Derived.Lay
import Derived.LaidOnce
import Derived.SevenTiedAt
import Derived.LaidLaws
import Derived.LaidHandle
namespace Go.Proofs.YtiacidpjplmgaaaGreatDoor.fnScript
open Go.ChangeShapes Go.WideShapes Go.ChangeAt Go.RowKit Go.Proofs.YtiacidpjplmgaaaGreatDoor Go.Proofs.YtiacidpjplmgaaaGreatDoor.DFnScript Go.Proofs.YtiacidpjplmgaaaGreatDoorD
open Go.ChangeMaps (open_string shut_string)
set_option linter.unusedVariables false
theorem own : ownKnob Tryz.prog.godebug = none := by kernel_rfl
theorem laidOut : laidOutB Tryz.prog = true := by kernel_rfl
theorem opens5 : Opens Tryz.prog 5 (.int .u8) (fun s => (Lit.int .u8 s).wf = true) := Opens.int Tryz.underlying5 (by kernel_rfl)
theorem opens47 : Opens Tryz.prog 47 (.sl (.int .u8)) (fun s => s.length * 1 ≤ 140737488351232 ∧ ∀ y0 ∈ s, (Lit.int .u8 y0).wf = true) := Opens.slice (T := (.int .u8)) (ok := fun s => (Lit.int .u8 s).wf = true) Tryz.underlying47 (by kernel_rfl) opens5 1 (by kernel_rfl)
set_option maxRecDepth 100000 in
theorem lifted (os : Os) (started : os.Started) (H : Type) (enc : TypeId × Value → H) :
    ReturnsInHanded {} Tryz.checked os 7 .any (fun w args => (Rows.fnScriptSpec.pre enc Tryz.prog Tryz.f7 Rows.fnScriptRow.domain false w args ∧ laidMetH Tryz.prog Rows.fnScriptRow.laid w) ∧ sizedMet enc Tryz.prog Tryz.f7 (OpenSpec.ofChange Rows.fnScriptSpec) false w args) (Rows.fnScriptSpec.post enc Tryz.prog Tryz.f7 false true false false) := by
  refine returns_laid (C := Tryz.checked) (X := fun w _ => laidMetH Tryz.prog Rows.fnScriptRow.laid w) (fun _ _ _ hh h => h.of_heap hh) own started (by kernel_rfl) Tryz.func7
    (ChangeSpec.witness_shaped (enc := enc) (C := Tryz.checked) (os := os) (X := fun w _ => laidMetH Tryz.prog Rows.fnScriptRow.laid w) false (World.laidAll Tryz.prog os Rows.fnScriptRow.laid) #[.slice none 0 0] 8 (World.laidAll_os _ _ _) (World.shaped_of_ZipB (by kernel_rfl) (by kernel_rfl)) (by kernel_rfl) (by kernel_rfl) (by kernel_rfl)
      (by rw [MakeChecks.laidMetH_plain _ _ _ (by kernel_rfl)]; exact laidMet_laidAll _ (by kernel_rfl) (by kernel_rfl))) ?_
  intro W base args ds gs before hval0 hW hcnd hsz0 hL hsh _
  have hL1 : laidMet Tryz.prog Rows.fnScriptRow.laid W := by rw [MakeChecks.laidMetH_plain _ _ _ (by kernel_rfl)] at hL; exact hL
  have hL2 : Rows.fnScriptRow.laid = [("math/bits.deBruijn32tab", Rows.laid_math_bits_deBruijn32tab), ("math/bits.deBruijn64tab", Rows.laid_math_bits_deBruijn64tab), ("internal/strconv.uint64pow10", Lib.tabData .u64 Lib.pow10Tab), ("unicode/utf8.acceptRanges", Rows.laid_unicode_utf8_acceptRanges), ("strconv.ErrRange", Rows.laid_strconv_ErrRange), ("strconv.ErrSyntax", Rows.laid_strconv_ErrSyntax), ("unicode/utf8.first", Rows.laid_unicode_utf8_first)] := by kernel_rfl
  rw [hL2] at hL1
  obtain ⟨g1, g2⟩ := g_of hsh (tab_of hL1.tail.tail) (err0_of hL1.tail.tail.tail.tail.tail) (err1_of hL1.tail.tail.tail.tail)
  have hsz : (DataW.weightsEach Tryz.prog (Tryz.f7.params.toList ++ Rows.fnScriptSpec.plain.varTypes Tryz.prog) (ds ++ gs)).all (· ≤ reachBytes) = true := hsz0
  have hval : ∀ (j : Nat) t v, Tryz.f7.params[j]? = some t → args[j]? = some v → Value.okWide Tryz.prog W .any base t v := hval0
  have hW' := hW
  obtain ⟨p, q, hA0, hV, rfl, hfz, hnd⟩ := hW
  have hA : DataW.TrodAll enc Tryz.prog W 0 (fun _ => true) true Tryz.f7.params.toList args.toList ds p := hA0
  rw [Tryz.params7] at hA hval hsz
  obtain ⟨v0, vs0, d0, ds0, p0, q0, hargs, rfl, rfl, h0, r0⟩ := trodAll_cons hA
  obtain ⟨rfl, rfl, rfl⟩ := trodAll_nil r0
  obtain rfl : args = #[v0] := by cases args; simp_all
  obtain ⟨rfl, rfl⟩ := trodVars_none hV
  have hw0 : ∀ n_ ∈ d0.weights Tryz.prog 47, n_ ≤ 140737488351232 := fun n_ hn_ => of_decide_eq_true (List.all_eq_true.1 hsz n_ (DataW.weights_mem_each (j := 0) rfl rfl n_ hn_))
  have k0 := h0
  have lt0 : ∀ x ∈ p0, x.block < W.heap.size := by obtain ⟨m, hm⟩ := k0; exact DataW.trod_lt m _ _ _ hm
  obtain ⟨a0, len0, cap0, rfl⟩ := okWide_slice Tryz.underlying47 (hval 0 47 v0 rfl rfl)
  obtain ⟨fu0, hf0⟩ := h0
  obtain ⟨x0, hK0, hok0⟩ := opens47.2 _ _ _ _ _ _ _ _ hf0 hw0
  clear hA0 hval0 hsz0 hsz
  obtain ⟨kr, hr⟩ := pure_holds x0 hok0.1 hok0.2
  have hv : VRs (Ctx.law W) W [.val (.sl (.int .u8)) x0] [.slice a0 len0 cap0] := (VRs.cons' (VR.val' (T := (.sl (.int .u8))) (x := x0) hK0) VRs.nil')
  have hS : Sound Tryz.prog 7 ⟨[.d (.sl (.int .u8)) none], [.d .bool none], fun x => laws_FnScript.f kr x⟩ := laws_FnScript.sound kr
  have hvs : (inVL [.d (.sl (.int .u8)) none] (ofRT (tysL [.d (.sl (.int .u8)) none]) (x0 : RT (tysL [.d (.sl (.int .u8)) none]))) 0).vs = [.val (.sl (.int .u8)) x0] := by kernel_rfl
  have hhp : (inVL [.d (.sl (.int .u8)) none] (ofRT (tysL [.d (.sl (.int .u8)) none]) (x0 : RT (tysL [.d (.sl (.int .u8)) none]))) 0).heap = [] := by kernel_rfl
  have hrt : ofRT (tysL ([.d .bool none] ++ flatL (bxsL [.d (.sl (.int .u8)) none]))) (true : RT (tysL ([.d .bool none] ++ flatL (bxsL [.d (.sl (.int .u8)) none])))) = [⟨.bool, true⟩] := by kernel_rfl
  have hr' : (fun x => laws_FnScript.f kr x : RT (tysL [.d (.sl (.int .u8)) none]) → Option (RT (tysL ([.d .bool none] ++ flatL (bxsL [.d (.sl (.int .u8)) none]))))) x0 = some true := hr
  refine (law_ok hS hr' hrt (by kernel_rfl) hvs hhp hv g1 g2).mono fun e W' ⟨he, bel⟩ => ?_
  subst he
  exact ⟨_, rfl, _, _, _, [], _, [], hW', trodAll_mk1 (shut_bool Tryz.underlying4 _), (trodAll_cons_mk (Below.trod laidOut (by kernel_rfl) (of_decide_eq_true (by kernel_rfl)) k0 bel lt0) trodAll_mk0), rfl, bel.frame _, fun h => by cases h⟩
theorem over : Rows.fnScriptRow.holds Tryz.pinned (OpenSpec.ofChange Rows.fnScriptSpec) :=
  OpenClaim.holds_of_wide 7 Tryz.f7 rfl rfl rfl rfl rfl rfl rfl ⟨rfl, rfl, rfl, rfl, rfl⟩ rfl rfl rfl rfl rfl (by kernel_rfl) Tryz.func7 (by kernel_rfl)
    (of_decide_eq_true (by kernel_rfl)) (by unfold Func.isWrapper; first | (rw [if_pos (by decide +kernel)]; kernel_rfl) | (rw [if_neg (by decide +kernel)]; exact ⟨rfl, rfl⟩))
    (fun os started H enc _ => lifted os started H enc)
theorem proved : Rows.FnScriptSaid := over
theorem carded : Rows.FnScriptCardSaid :=
  Claim7.holds_tied_plain_at .later [] [.data, .data, .data, .data, .sentinel, .sentinel, .pinned] true (true, "8eb5b9420a65e22456ec8d4e0dd9fed5793aad1b78370baed74e63349c94ca5e") true proved (fun _ h => by cases h) (by kernel_rfl) (fun _ h => by cases h) fnScript_row_tie rfl ⟨rfl, rfl⟩ (by kernel_rfl) rfl
    (fun f fn hf hfn => by
      obtain rfl : f = 7 := Option.some.inj ((show Tryz.prog.funcNamed Rows.fnScriptRow.func = some 7 by kernel_rfl).symm.trans hf) |>.symm
      obtain rfl : fn = Tryz.f7 := (Option.some.inj (Tryz.func7.symm.trans hfn)).symm
      exact ⟨by kernel_rfl, fun j t ht => by
        rw [Tryz.params7] at ht
        have hm : t ∈ [47] := by simpa using Array.mem_of_getElem? ht
        have hall : ([47].all fun u => !Tryz.prog.wantsStandIn u) = true := by kernel_rfl
        exact (show Tryz.prog.wantsStandIn t = false by simpa using List.all_eq_true.1 hall t hm)⟩)
    (by kernel_rfl)
#print axioms carded
end Go.Proofs.YtiacidpjplmgaaaGreatDoor.fnScript
namespace Go.Proofs.YtiacidpjplmgaaaGreatDoor
/-- The card, under a short name, for the claim. -/
theorem fnScript_holds : Rows.FnScriptCardSaid := fnScript.carded
end Go.Proofs.YtiacidpjplmgaaaGreatDoor
