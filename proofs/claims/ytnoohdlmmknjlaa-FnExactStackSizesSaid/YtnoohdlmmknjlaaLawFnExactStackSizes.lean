-- Printed by this session's own program (wip/deep/drow.py); Lean checks it.
import Derived.Test.YtnoohdlmmknjlaaRows
import Derived.Test.YtnoohdlmmknjlaaPureFnExactStackSizes
import Derived.WalkKit
import Derived.ProofKit
import Derived.OpenShut
import Derived.ShutString
import Derived.ChangeOld
import Derived.Below
import Derived.SizedLaws
import Derived.ChangeSlices
import Derived.Carry
namespace Go.Proofs.Ytnoohdlmmknjlaa.fnExactStackSizes
open Go.ChangeShapes Go.WideShapes Go.ChangeAt Go.RowKit Go.Proofs.Ytnoohdlmmknjlaa Go.Proofs.Ytnoohdlmmknjlaa.DFnExactStackSizes Go.Proofs.YtnoohdlmmknjlaaD
open Go.ChangeMaps (open_string shut_string)
set_option linter.unusedVariables false
theorem own : ownKnob Try.prog.godebug = none := by kernel_rfl
theorem laidOut : laidOutB Try.prog = true := by kernel_rfl
theorem opens3 : Opens Try.prog 3 (.int .i64) (fun s => (Lit.int .i64 s).wf = true) := Opens.int Try.underlying3 (by kernel_rfl)
set_option maxRecDepth 100000 in
theorem opens54 : Opens Try.prog 54 (.pair (.int .i64) (.pair (.int .i64) (.pair (.int .i64) (.int .i64)))) (fun s => ((Lit.int .i64 s.1).wf = true) ∧ ((Lit.int .i64 s.2.1).wf = true) ∧ ((Lit.int .i64 s.2.2.1).wf = true) ∧ (Lit.int .i64 s.2.2.2).wf = true) := by
  refine Opens.struct (T := (.pair (.int .i64) (.pair (.int .i64) (.pair (.int .i64) (.int .i64))))) (ok := fun s => ((Lit.int .i64 s.1).wf = true) ∧ ((Lit.int .i64 s.2.1).wf = true) ∧ ((Lit.int .i64 s.2.2.1).wf = true) ∧ (Lit.int .i64 s.2.2.2).wf = true) Try.underlying54 (by kernel_rfl) ?_
  exact OpensF.cons (off1 := 1) (T := (.int .i64)) (T1 := (.pair (.int .i64) (.pair (.int .i64) (.int .i64)))) (ok := (fun a : Int => (Lit.int .i64 a).wf = true)) (ok1 := fun a : Int × Int × Int => ((Lit.int .i64 a.1).wf = true) ∧ ((Lit.int .i64 a.2.1).wf = true) ∧ (Lit.int .i64 a.2.2).wf = true) opens3 rfl rfl (OpensF.cons (off1 := 2) (T := (.int .i64)) (T1 := (.pair (.int .i64) (.int .i64))) (ok := (fun a : Int => (Lit.int .i64 a).wf = true)) (ok1 := fun a : Int × Int => ((Lit.int .i64 a.1).wf = true) ∧ (Lit.int .i64 a.2).wf = true) opens3 rfl rfl (OpensF.cons (off1 := 3) (T := (.int .i64)) (T1 := (.int .i64)) (ok := (fun a : Int => (Lit.int .i64 a).wf = true)) (ok1 := fun a : Int => (Lit.int .i64 a).wf = true) opens3 rfl rfl (OpensF.one (T := (.int .i64)) (ok := (fun a : Int => (Lit.int .i64 a).wf = true)) opens3 rfl)))
theorem opens22 : Opens Try.prog 22 (.sl (.pair (.int .i64) (.pair (.int .i64) (.pair (.int .i64) (.int .i64))))) (fun s => s.length * 32 ≤ 140737488351232 ∧ ∀ y0 ∈ s, ((Lit.int .i64 y0.1).wf = true) ∧ ((Lit.int .i64 y0.2.1).wf = true) ∧ ((Lit.int .i64 y0.2.2.1).wf = true) ∧ (Lit.int .i64 y0.2.2.2).wf = true) := Opens.slice (T := (.pair (.int .i64) (.pair (.int .i64) (.pair (.int .i64) (.int .i64))))) (ok := fun s => ((Lit.int .i64 s.1).wf = true) ∧ ((Lit.int .i64 s.2.1).wf = true) ∧ ((Lit.int .i64 s.2.2.1).wf = true) ∧ (Lit.int .i64 s.2.2.2).wf = true) Try.underlying22 (by kernel_rfl) opens54 32 (by kernel_rfl)
set_option maxRecDepth 100000 in
theorem lifted (os : Os) (started : os.Started) (H : Type) (enc : TypeId × Value → H) :
    ReturnsInHanded {} Try.checked os 4 .any (Rows.fnExactStackSizesSpec.pre6 enc Try.prog Try.f4 Rows.fnExactStackSizesRow.domain false) (Rows.fnExactStackSizesSpec.post enc Try.prog Try.f4 false true false false) := by
  refine returnsInHanded_of_change_sized (C := Try.checked) own started (by kernel_rfl) Try.func4
    (ChangeSpec.witness6 (enc := enc) (C := Try.checked) false ⟨#[], #[.slice none 0 0], []⟩ 8 (by kernel_rfl) (by kernel_rfl) (by kernel_rfl) (by kernel_rfl)) ?_
  intro W base args ds gs before hval0 hW hcnd hsz0 _
  have hsz : (DataW.weightsEach Try.prog (Try.f4.params.toList ++ Rows.fnExactStackSizesSpec.plain.varTypes Try.prog) (ds ++ gs)).all (· ≤ reachBytes) = true := hsz0
  have hval : ∀ (j : Nat) t v, Try.f4.params[j]? = some t → args[j]? = some v → Value.okWide Try.prog W .any base t v := hval0
  have hW' := hW
  obtain ⟨p, q, hA0, hV, rfl, hfz, hnd⟩ := hW
  have hA : DataW.TrodAll enc Try.prog W 0 (fun _ => true) true Try.f4.params.toList args.toList ds p := hA0
  rw [Try.params4] at hA hval hsz
  obtain ⟨v0, vs0, d0, ds0, p0, q0, hargs, rfl, rfl, h0, r0⟩ := trodAll_cons hA
  obtain ⟨rfl, rfl, rfl⟩ := trodAll_nil r0
  obtain rfl : args = #[v0] := by cases args; simp_all
  obtain ⟨rfl, rfl⟩ := trodVars_none hV
  have hw0 : ∀ n_ ∈ d0.weights Try.prog 22, n_ ≤ 140737488351232 := fun n_ hn_ => of_decide_eq_true (List.all_eq_true.1 hsz n_ (DataW.weights_mem_each (j := 0) rfl rfl n_ hn_))
  have k0 := h0
  have lt0 : ∀ x ∈ p0, x.block < W.heap.size := by obtain ⟨m, hm⟩ := k0; exact DataW.trod_lt m _ _ _ hm
  obtain ⟨a0, len0, cap0, rfl⟩ := okWide_slice Try.underlying22 (hval 0 22 v0 rfl rfl)
  obtain ⟨fu0, hf0⟩ := h0
  obtain ⟨x0, hK0, hok0⟩ := opens22.2 _ _ _ _ _ _ _ _ hf0 hw0
  clear hA0 hval0 hsz0 hsz
  obtain ⟨kr, hr⟩ := pure_holds x0 hok0.1 hok0.2
  have hv : VRs (Ctx.law W) W [.val (.sl (.pair (.int .i64) (.pair (.int .i64) (.pair (.int .i64) (.int .i64))))) x0] [.slice a0 len0 cap0] := (VRs.cons' (VR.val' (T := (.sl (.pair (.int .i64) (.pair (.int .i64) (.pair (.int .i64) (.int .i64)))))) (x := x0) hK0) VRs.nil')
  have hS : Sound Try.prog 4 ⟨[.d (.sl (.pair (.int .i64) (.pair (.int .i64) (.pair (.int .i64) (.int .i64))))) none], [.d .bool none], fun x => laws_FnExactStackSizes.f kr x⟩ := laws_FnExactStackSizes.sound kr
  have hvs : (inVL [.d (.sl (.pair (.int .i64) (.pair (.int .i64) (.pair (.int .i64) (.int .i64))))) none] (ofRT (tysL [.d (.sl (.pair (.int .i64) (.pair (.int .i64) (.pair (.int .i64) (.int .i64))))) none]) (x0 : RT (tysL [.d (.sl (.pair (.int .i64) (.pair (.int .i64) (.pair (.int .i64) (.int .i64))))) none]))) 0).vs = [.val (.sl (.pair (.int .i64) (.pair (.int .i64) (.pair (.int .i64) (.int .i64))))) x0] := by kernel_rfl
  have hhp : (inVL [.d (.sl (.pair (.int .i64) (.pair (.int .i64) (.pair (.int .i64) (.int .i64))))) none] (ofRT (tysL [.d (.sl (.pair (.int .i64) (.pair (.int .i64) (.pair (.int .i64) (.int .i64))))) none]) (x0 : RT (tysL [.d (.sl (.pair (.int .i64) (.pair (.int .i64) (.pair (.int .i64) (.int .i64))))) none]))) 0).heap = [] := by kernel_rfl
  have hrt : ofRT (tysL ([.d .bool none] ++ flatL (bxsL [.d (.sl (.pair (.int .i64) (.pair (.int .i64) (.pair (.int .i64) (.int .i64))))) none]))) (true : RT (tysL ([.d .bool none] ++ flatL (bxsL [.d (.sl (.pair (.int .i64) (.pair (.int .i64) (.pair (.int .i64) (.int .i64))))) none])))) = [⟨.bool, true⟩] := by kernel_rfl
  have hr' : (fun x => laws_FnExactStackSizes.f kr x : RT (tysL [.d (.sl (.pair (.int .i64) (.pair (.int .i64) (.pair (.int .i64) (.int .i64))))) none]) → Option (RT (tysL ([.d .bool none] ++ flatL (bxsL [.d (.sl (.pair (.int .i64) (.pair (.int .i64) (.pair (.int .i64) (.int .i64))))) none]))))) x0 = some true := hr
  refine (law_ok hS hr' hrt (by kernel_rfl) hvs hhp hv).mono fun e W' ⟨he, bel⟩ => ?_
  subst he
  exact ⟨_, rfl, _, _, _, [], _, [], hW', trodAll_mk1 (shut_bool Try.underlying4 _), (trodAll_cons_mk (Below.trod laidOut (by kernel_rfl) (of_decide_eq_true (by kernel_rfl)) k0 bel lt0) trodAll_mk0), rfl, bel.frame _, fun h => by cases h⟩
theorem over : Rows.fnExactStackSizesRow.holds Try.pinned (OpenSpec.ofChange Rows.fnExactStackSizesSpec) :=
  OpenClaim.holds_of_wide 4 Try.f4 rfl rfl rfl rfl rfl rfl rfl ⟨rfl, rfl, rfl, rfl, rfl⟩ rfl rfl rfl rfl rfl (by kernel_rfl) Try.func4 (by kernel_rfl)
    (of_decide_eq_true (by kernel_rfl)) (by unfold Func.isWrapper; first | (rw [if_pos (by decide +kernel)]; kernel_rfl) | (rw [if_neg (by decide +kernel)]; exact ⟨rfl, rfl⟩))
    (fun os started H enc _ => lifted os started H enc)
theorem proved : Rows.FnExactStackSizesSaid := over
#print axioms proved
end Go.Proofs.Ytnoohdlmmknjlaa.fnExactStackSizes
namespace Go.Proofs.Ytnoohdlmmknjlaa
/-- The row, under a short name, for the claim. -/
theorem fnExactStackSizes_holds : Rows.FnExactStackSizesSaid := fnExactStackSizes.proved
end Go.Proofs.Ytnoohdlmmknjlaa
