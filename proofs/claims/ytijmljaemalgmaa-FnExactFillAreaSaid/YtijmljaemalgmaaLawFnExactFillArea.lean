-- Printed by this session's own program (wip/deep/drow.py); Lean checks it.
import Derived.Test.YtijmljaemalgmaaRows
import Derived.Test.YtijmljaemalgmaaPureFnExactFillArea
import Derived.WalkKit
import Derived.ProofKit
import Derived.OpenShut
import Derived.ShutString
import Derived.ChangeOld
import Derived.Below
import Derived.SizedLaws
import Derived.ChangeSlices
import Derived.Carry
namespace Go.Proofs.Ytijmljaemalgmaa.fnExactFillArea
open Go.ChangeShapes Go.WideShapes Go.ChangeAt Go.RowKit Go.Proofs.Ytijmljaemalgmaa Go.Proofs.Ytijmljaemalgmaa.DFnExactFillArea Go.Proofs.YtijmljaemalgmaaD
open Go.ChangeMaps (open_string shut_string)
set_option linter.unusedVariables false
theorem own : ownKnob Try.prog.godebug = none := by kernel_rfl
theorem laidOut : laidOutB Try.prog = true := by kernel_rfl
theorem opens3 : Opens Try.prog 3 (.int .i64) (fun s => (Lit.int .i64 s).wf = true) := Opens.int Try.underlying3 (by kernel_rfl)
theorem opens22 : Opens Try.prog 22 (.sl (.int .i64)) (fun s => s.length * 8 ≤ 140737488351232 ∧ ∀ y0 ∈ s, (Lit.int .i64 y0).wf = true) := Opens.slice (T := (.int .i64)) (ok := fun s => (Lit.int .i64 s).wf = true) Try.underlying22 (by kernel_rfl) opens3 8 (by kernel_rfl)
set_option maxRecDepth 100000 in
theorem opens24 : Opens Try.prog 24 (.pair (.int .i64) (.pair (.int .i64) (.sl (.int .i64)))) (fun s => ((Lit.int .i64 s.1).wf = true) ∧ ((Lit.int .i64 s.2.1).wf = true) ∧ s.2.2.length * 8 ≤ 140737488351232 ∧ ∀ y0 ∈ s.2.2, (Lit.int .i64 y0).wf = true) := by
  refine Opens.struct (T := (.pair (.int .i64) (.pair (.int .i64) (.sl (.int .i64))))) (ok := fun s => ((Lit.int .i64 s.1).wf = true) ∧ ((Lit.int .i64 s.2.1).wf = true) ∧ s.2.2.length * 8 ≤ 140737488351232 ∧ ∀ y0 ∈ s.2.2, (Lit.int .i64 y0).wf = true) Try.underlying24 (by kernel_rfl) ?_
  exact OpensF.cons (off1 := 1) (T := (.int .i64)) (T1 := (.pair (.int .i64) (.sl (.int .i64)))) (ok := (fun a : Int => (Lit.int .i64 a).wf = true)) (ok1 := fun a : Int × List Int => ((Lit.int .i64 a.1).wf = true) ∧ a.2.length * 8 ≤ 140737488351232 ∧ ∀ y0 ∈ a.2, (Lit.int .i64 y0).wf = true) opens3 rfl rfl (OpensF.cons (off1 := 2) (T := (.int .i64)) (T1 := (.sl (.int .i64))) (ok := (fun a : Int => (Lit.int .i64 a).wf = true)) (ok1 := fun a : List Int => a.length * 8 ≤ 140737488351232 ∧ ∀ y0 ∈ a, (Lit.int .i64 y0).wf = true) opens3 rfl rfl (OpensF.one (T := (.sl (.int .i64))) (ok := (fun a : List Int => a.length * 8 ≤ 140737488351232 ∧ ∀ y0 ∈ a, (Lit.int .i64 y0).wf = true)) opens22 rfl))
set_option maxRecDepth 100000 in
theorem lifted (os : Os) (started : os.Started) (H : Type) (enc : TypeId × Value → H) :
    ReturnsInHanded {} Try.checked os 3 .any (Rows.fnExactFillAreaSpec.pre6 enc Try.prog Try.f3 Rows.fnExactFillAreaRow.domain false) (Rows.fnExactFillAreaSpec.post enc Try.prog Try.f3 false true false false) := by
  refine returnsInHanded_of_change_sized (C := Try.checked) own started (by kernel_rfl) Try.func3
    (ChangeSpec.witness6 (enc := enc) (C := Try.checked) false ⟨#[], #[.agg #[.int .i64 0, .int .i64 0, .slice none 0 0], .int .i64 0, .int .i64 0], []⟩ 8 (by kernel_rfl) (by kernel_rfl) (by kernel_rfl) (by kernel_rfl)) ?_
  intro W base args ds gs before hval0 hW hcnd hsz0 _
  have hsz : (DataW.weightsEach Try.prog (Try.f3.params.toList ++ Rows.fnExactFillAreaSpec.plain.varTypes Try.prog) (ds ++ gs)).all (· ≤ reachBytes) = true := hsz0
  have hval : ∀ (j : Nat) t v, Try.f3.params[j]? = some t → args[j]? = some v → Value.okWide Try.prog W .any base t v := hval0
  have hW' := hW
  obtain ⟨p, q, hA0, hV, rfl, hfz, hnd⟩ := hW
  have hA : DataW.TrodAll enc Try.prog W 0 (fun _ => true) true Try.f3.params.toList args.toList ds p := hA0
  rw [Try.params3] at hA hval hsz
  obtain ⟨v0, vs0, d0, ds0, p0, q0, hargs, rfl, rfl, h0, r0⟩ := trodAll_cons hA
  obtain ⟨v1, vs1, d1, ds1, p1, q1, rfl, rfl, rfl, h1, r1⟩ := trodAll_cons r0
  obtain ⟨v2, vs2, d2, ds2, p2, q2, rfl, rfl, rfl, h2, r2⟩ := trodAll_cons r1
  obtain ⟨rfl, rfl, rfl⟩ := trodAll_nil r2
  obtain rfl : args = #[v0, v1, v2] := by cases args; simp_all
  obtain ⟨rfl, rfl⟩ := trodVars_none hV
  have hw0 : ∀ n_ ∈ d0.weights Try.prog 24, n_ ≤ 140737488351232 := fun n_ hn_ => of_decide_eq_true (List.all_eq_true.1 hsz n_ (DataW.weights_mem_each (j := 0) rfl rfl n_ hn_))
  have k0 := h0
  have lt0 : ∀ x ∈ p0, x.block < W.heap.size := by obtain ⟨m, hm⟩ := k0; exact DataW.trod_lt m _ _ _ hm
  obtain ⟨cs0, rfl, hz0⟩ := okWide_struct Try.underlying24 (hval 0 24 v0 rfl rfl)
  obtain ⟨fu0, hf0⟩ := h0
  obtain ⟨x0, hK0, hok0⟩ := opens24.2 _ _ _ _ _ _ _ _ hf0 hw0
  obtain ⟨a1, rfl, rfl, rfl, hok1⟩ := open_int Try.underlying3 (hval 1 3 v1 rfl rfl) h1
  obtain ⟨a2, rfl, rfl, rfl, hok2⟩ := open_int Try.underlying3 (hval 2 3 v2 rfl rfl) h2
  clear hA0 hval0 hsz0 hsz
  obtain ⟨kr, hr⟩ := pure_holds x0.1 x0.2.1 x0.2.2 a1 a2 hok0.1 hok0.2.1 hok0.2.2.1 hok0.2.2.2 hok1 hok2
  have hv : VRs (Ctx.law W) W [.agg (leaves (.pair (.int .i64) (.pair (.int .i64) (.sl (.int .i64)))) x0), .val (.int .i64) a1, .val (.int .i64) a2] [.agg cs0, .int .i64 a1, .int .i64 a2] := (VRs.cons' (VR.agg' (T := (.pair (.int .i64) (.pair (.int .i64) (.sl (.int .i64))))) (x := x0) hK0) (VRs.cons' (VR.val' (T := (.int .i64)) (x := a1) rfl) (VRs.cons' (VR.val' (T := (.int .i64)) (x := a2) rfl) VRs.nil')))
  have hS : Sound Try.prog 3 ⟨[.ag [.d (.int .i64) none, .d (.int .i64) none, .d (.sl (.int .i64)) none], .d (.int .i64) none, .d (.int .i64) none], [.d .bool none], fun x => laws_FnExactFillArea.f kr x.1 x.2.1 x.2.2.1 x.2.2.2.1 x.2.2.2.2⟩ := laws_FnExactFillArea.sound kr
  have hvs : (inVL [.ag [.d (.int .i64) none, .d (.int .i64) none, .d (.sl (.int .i64)) none], .d (.int .i64) none, .d (.int .i64) none] (ofRT (tysL [.ag [.d (.int .i64) none, .d (.int .i64) none, .d (.sl (.int .i64)) none], .d (.int .i64) none, .d (.int .i64) none]) ((x0.1, x0.2.1, x0.2.2, a1, a2) : RT (tysL [.ag [.d (.int .i64) none, .d (.int .i64) none, .d (.sl (.int .i64)) none], .d (.int .i64) none, .d (.int .i64) none]))) 0).vs = [.agg (leaves (.pair (.int .i64) (.pair (.int .i64) (.sl (.int .i64)))) x0), .val (.int .i64) a1, .val (.int .i64) a2] := by kernel_rfl
  have hhp : (inVL [.ag [.d (.int .i64) none, .d (.int .i64) none, .d (.sl (.int .i64)) none], .d (.int .i64) none, .d (.int .i64) none] (ofRT (tysL [.ag [.d (.int .i64) none, .d (.int .i64) none, .d (.sl (.int .i64)) none], .d (.int .i64) none, .d (.int .i64) none]) ((x0.1, x0.2.1, x0.2.2, a1, a2) : RT (tysL [.ag [.d (.int .i64) none, .d (.int .i64) none, .d (.sl (.int .i64)) none], .d (.int .i64) none, .d (.int .i64) none]))) 0).heap = [] := by kernel_rfl
  have hrt : ofRT (tysL ([.d .bool none] ++ flatL (bxsL [.ag [.d (.int .i64) none, .d (.int .i64) none, .d (.sl (.int .i64)) none], .d (.int .i64) none, .d (.int .i64) none]))) (true : RT (tysL ([.d .bool none] ++ flatL (bxsL [.ag [.d (.int .i64) none, .d (.int .i64) none, .d (.sl (.int .i64)) none], .d (.int .i64) none, .d (.int .i64) none])))) = [⟨.bool, true⟩] := by kernel_rfl
  have hr' : (fun x => laws_FnExactFillArea.f kr x.1 x.2.1 x.2.2.1 x.2.2.2.1 x.2.2.2.2 : RT (tysL [.ag [.d (.int .i64) none, .d (.int .i64) none, .d (.sl (.int .i64)) none], .d (.int .i64) none, .d (.int .i64) none]) → Option (RT (tysL ([.d .bool none] ++ flatL (bxsL [.ag [.d (.int .i64) none, .d (.int .i64) none, .d (.sl (.int .i64)) none], .d (.int .i64) none, .d (.int .i64) none]))))) (x0.1, x0.2.1, x0.2.2, a1, a2) = some true := hr
  refine (law_ok hS hr' hrt (by kernel_rfl) hvs hhp hv).mono fun e W' ⟨he, bel⟩ => ?_
  subst he
  exact ⟨_, rfl, _, _, _, [], _, [], hW', trodAll_mk1 (shut_bool Try.underlying4 _), (trodAll_cons_mk (Below.trod laidOut (by kernel_rfl) (of_decide_eq_true (by kernel_rfl)) k0 bel lt0) (trodAll_cons_mk (shut_int Try.underlying3 hok1) (trodAll_cons_mk (shut_int Try.underlying3 hok2) trodAll_mk0))), rfl, bel.frame _, fun h => by cases h⟩
theorem over : Rows.fnExactFillAreaRow.holds Try.pinned (OpenSpec.ofChange Rows.fnExactFillAreaSpec) :=
  OpenClaim.holds_of_wide 3 Try.f3 rfl rfl rfl rfl rfl rfl rfl ⟨rfl, rfl, rfl, rfl, rfl⟩ rfl rfl rfl rfl rfl (by kernel_rfl) Try.func3 (by kernel_rfl)
    (of_decide_eq_true (by kernel_rfl)) (by unfold Func.isWrapper; first | (rw [if_pos (by decide +kernel)]; kernel_rfl) | (rw [if_neg (by decide +kernel)]; exact ⟨rfl, rfl⟩))
    (fun os started H enc _ => lifted os started H enc)
theorem proved : Rows.FnExactFillAreaSaid := over
#print axioms proved
end Go.Proofs.Ytijmljaemalgmaa.fnExactFillArea
namespace Go.Proofs.Ytijmljaemalgmaa
/-- The row, under a short name, for the claim. -/
theorem fnExactFillArea_holds : Rows.FnExactFillAreaSaid := fnExactFillArea.proved
end Go.Proofs.Ytijmljaemalgmaa
