-- Printed by this session's own program (wip/deep/drow.py); Lean checks it.
import Derived.Test.YtnoohdlmmknjlaaRows
import Derived.Test.YtnoohdlmmknjlaaPureFnPrograms
import Derived.WalkKit
import Derived.ProofKit
import Derived.OpenShut
import Derived.ShutString
import Derived.ChangeOld
import Derived.Below
import Derived.SizedLaws
import Derived.ChangeSlices
import Derived.Carry
namespace Go.Proofs.Ytnoohdlmmknjlaa.fnPrograms
open Go.ChangeShapes Go.WideShapes Go.ChangeAt Go.RowKit Go.Proofs.Ytnoohdlmmknjlaa Go.Proofs.Ytnoohdlmmknjlaa.DFnPrograms Go.Proofs.YtnoohdlmmknjlaaD
open Go.ChangeMaps (open_string shut_string)
set_option linter.unusedVariables false
theorem own : ownKnob Try.prog.godebug = none := by kernel_rfl
theorem laidOut : laidOutB Try.prog = true := by kernel_rfl
theorem opens5 : Opens Try.prog 5 (.int .u8) (fun s => (Lit.int .u8 s).wf = true) := Opens.int Try.underlying5 (by kernel_rfl)
theorem opens42 : Opens Try.prog 42 (.sl (.int .u8)) (fun s => s.length * 1 ≤ 140737488351232 ∧ ∀ y0 ∈ s, (Lit.int .u8 y0).wf = true) := Opens.slice (T := (.int .u8)) (ok := fun s => (Lit.int .u8 s).wf = true) Try.underlying42 (by kernel_rfl) opens5 1 (by kernel_rfl)
set_option maxRecDepth 100000 in
theorem lifted (os : Os) (started : os.Started) (H : Type) (enc : TypeId × Value → H) :
    ReturnsInHanded {} Try.checked os 6 .any (Rows.fnProgramsSpec.pre6 enc Try.prog Try.f6 Rows.fnProgramsRow.domain false) (Rows.fnProgramsSpec.post enc Try.prog Try.f6 false true false false) := by
  refine returnsInHanded_of_change_sized (C := Try.checked) own started (by kernel_rfl) Try.func6
    (ChangeSpec.witness6 (enc := enc) (C := Try.checked) false ⟨#[], #[.slice none 0 0], []⟩ 8 (by kernel_rfl) (by kernel_rfl) (by kernel_rfl) (by kernel_rfl)) ?_
  intro W base args ds gs before hval0 hW hcnd hsz0 _
  have hsz : (DataW.weightsEach Try.prog (Try.f6.params.toList ++ Rows.fnProgramsSpec.plain.varTypes Try.prog) (ds ++ gs)).all (· ≤ reachBytes) = true := hsz0
  have hval : ∀ (j : Nat) t v, Try.f6.params[j]? = some t → args[j]? = some v → Value.okWide Try.prog W .any base t v := hval0
  have hW' := hW
  obtain ⟨p, q, hA0, hV, rfl, hfz, hnd⟩ := hW
  have hA : DataW.TrodAll enc Try.prog W 0 (fun _ => true) true Try.f6.params.toList args.toList ds p := hA0
  rw [Try.params6] at hA hval hsz
  obtain ⟨v0, vs0, d0, ds0, p0, q0, hargs, rfl, rfl, h0, r0⟩ := trodAll_cons hA
  obtain ⟨rfl, rfl, rfl⟩ := trodAll_nil r0
  obtain rfl : args = #[v0] := by cases args; simp_all
  obtain ⟨rfl, rfl⟩ := trodVars_none hV
  have hw0 : ∀ n_ ∈ d0.weights Try.prog 42, n_ ≤ 140737488351232 := fun n_ hn_ => of_decide_eq_true (List.all_eq_true.1 hsz n_ (DataW.weights_mem_each (j := 0) rfl rfl n_ hn_))
  have k0 := h0
  have lt0 : ∀ x ∈ p0, x.block < W.heap.size := by obtain ⟨m, hm⟩ := k0; exact DataW.trod_lt m _ _ _ hm
  obtain ⟨a0, len0, cap0, rfl⟩ := okWide_slice Try.underlying42 (hval 0 42 v0 rfl rfl)
  obtain ⟨fu0, hf0⟩ := h0
  obtain ⟨x0, hK0, hok0⟩ := opens42.2 _ _ _ _ _ _ _ _ hf0 hw0
  clear hA0 hval0 hsz0 hsz
  obtain ⟨kr, hr⟩ := pure_holds x0 hok0.1 hok0.2
  have hv : VRs (Ctx.law W) W [.val (.sl (.int .u8)) x0] [.slice a0 len0 cap0] := (VRs.cons' (VR.val' (T := (.sl (.int .u8))) (x := x0) hK0) VRs.nil')
  have hS : Sound Try.prog 6 ⟨[.d (.sl (.int .u8)) none], [.d .bool none], fun x => laws_FnPrograms.f kr x⟩ := laws_FnPrograms.sound kr
  have hvs : (inVL [.d (.sl (.int .u8)) none] (ofRT (tysL [.d (.sl (.int .u8)) none]) (x0 : RT (tysL [.d (.sl (.int .u8)) none]))) 0).vs = [.val (.sl (.int .u8)) x0] := by kernel_rfl
  have hhp : (inVL [.d (.sl (.int .u8)) none] (ofRT (tysL [.d (.sl (.int .u8)) none]) (x0 : RT (tysL [.d (.sl (.int .u8)) none]))) 0).heap = [] := by kernel_rfl
  have hrt : ofRT (tysL ([.d .bool none] ++ flatL (bxsL [.d (.sl (.int .u8)) none]))) (true : RT (tysL ([.d .bool none] ++ flatL (bxsL [.d (.sl (.int .u8)) none])))) = [⟨.bool, true⟩] := by kernel_rfl
  have hr' : (fun x => laws_FnPrograms.f kr x : RT (tysL [.d (.sl (.int .u8)) none]) → Option (RT (tysL ([.d .bool none] ++ flatL (bxsL [.d (.sl (.int .u8)) none]))))) x0 = some true := hr
  refine (law_ok hS hr' hrt (by kernel_rfl) hvs hhp hv).mono fun e W' ⟨he, bel⟩ => ?_
  subst he
  exact ⟨_, rfl, _, _, _, [], _, [], hW', trodAll_mk1 (shut_bool Try.underlying4 _), (trodAll_cons_mk (Below.trod laidOut (by kernel_rfl) (of_decide_eq_true (by kernel_rfl)) k0 bel lt0) trodAll_mk0), rfl, bel.frame _, fun h => by cases h⟩
theorem over : Rows.fnProgramsRow.holds Try.pinned (OpenSpec.ofChange Rows.fnProgramsSpec) :=
  OpenClaim.holds_of_wide 6 Try.f6 rfl rfl rfl rfl rfl rfl rfl ⟨rfl, rfl, rfl, rfl, rfl⟩ rfl rfl rfl rfl rfl (by kernel_rfl) Try.func6 (by kernel_rfl)
    (of_decide_eq_true (by kernel_rfl)) (by unfold Func.isWrapper; first | (rw [if_pos (by decide +kernel)]; kernel_rfl) | (rw [if_neg (by decide +kernel)]; exact ⟨rfl, rfl⟩))
    (fun os started H enc _ => lifted os started H enc)
theorem proved : Rows.FnProgramsSaid := over
#print axioms proved
end Go.Proofs.Ytnoohdlmmknjlaa.fnPrograms
namespace Go.Proofs.Ytnoohdlmmknjlaa
/-- The row, under a short name, for the claim. -/
theorem fnPrograms_holds : Rows.FnProgramsSaid := fnPrograms.proved
end Go.Proofs.Ytnoohdlmmknjlaa
