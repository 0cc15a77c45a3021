-- Printed by this session's own program (wip/tool/myprint.py, over the kit's print); Lean checks it.
import Derived.Test.YtijmljaemalgmaaRows
import Derived.Test.YtijmljaemalgmaaOpen
import Derived.Test.YtijmljaemalgmaaPFnExactFewestChangesx9
import Derived.Test.YtijmljaemalgmaaPureFnExactFewestChanges
import Derived.WalkKit
import Derived.ProofKit
import Derived.OpenShut
import Derived.ShutString
import Derived.ChangeOld
import Derived.Below
import Derived.SizedLaws
import Derived.ChangeSlices
import Derived.Carry
namespace Go.Proofs.Ytijmljaemalgmaa.fnExactFewestChanges
open Go.ChangeShapes Go.WideShapes Go.ChangeAt Go.RowKit Go.Proofs.Ytijmljaemalgmaa Go.Proofs.Ytijmljaemalgmaa.PFnExactFewestChanges Go.Proofs.YtijmljaemalgmaaW.PrintWords Go.Proofs.YtijmljaemalgmaaW.PrintLast Go.Proofs.YtijmljaemalgmaaOpen
open Go.ChangeMaps (open_string shut_string)
set_option linter.unusedVariables false
theorem own : ownKnob Try.prog.godebug = none := by kernel_rfl
theorem laidOut : laidOutB Try.prog = true := by kernel_rfl
theorem cells24 : Try.prog.cellsOf 24 = 3 := by kernel_rfl
theorem cells3 : Try.prog.cellsOf 3 = 1 := by kernel_rfl
theorem opens3 : Opens Try.prog 3 (Kd.int .i64) (fun s => (Lit.int .i64 s).wf = true) := Opens.int Try.underlying3 cells3
theorem cells22 : Try.prog.cellsOf 22 = 1 := by kernel_rfl
theorem bytes22_3 : Try.prog.bytesOf 3 = 8 := by kernel_rfl
theorem opens22 : Opens Try.prog 22 (Kd.slice 3 (Kd.int .i64)) (fun s => s.length * 8 ≤ 140737488351232 ∧ ∀ y1 ∈ s, (Lit.int .i64 y1).wf = true) := Opens.slice Try.underlying22 cells22 opens3 8 bytes22_3
theorem sz24 : ((Kd.pair (Kd.int .i64) (Kd.pair (Kd.int .i64) (Kd.slice 3 (Kd.int .i64))))).sz = Try.prog.cellsOf 24 := by kernel_rfl
theorem opens24 : Opens Try.prog 24 k24 (fun s => ((Lit.int .i64 s.f0).wf = true) ∧ ((Lit.int .i64 s.f1).wf = true) ∧ s.f2.length * 8 ≤ 140737488351232 ∧ ∀ y1 ∈ s.f2, (Lit.int .i64 y1).wf = true) := by
  refine Opens.struct (ok := fun a : (Int) × (Int) × (List Int) => ((Lit.int .i64 a.1).wf = true) ∧ ((Lit.int .i64 a.2.1).wf = true) ∧ a.2.2.length * 8 ≤ 140737488351232 ∧ ∀ y1 ∈ a.2.2, (Lit.int .i64 y1).wf = true) (fun x : S24 => (x.f0, x.f1, x.f2)) (fun a => ⟨a.1, a.2.1, a.2.2⟩) (fun _ => rfl) Try.underlying24 sz24 ?_
  exact OpensF.cons (off1 := 1) (sz := 1) (ok := (fun a : Int => (Lit.int .i64 a).wf = true)) (ok1 := fun a : (Int) × (List Int) => ((Lit.int .i64 a.1).wf = true) ∧ a.2.length * 8 ≤ 140737488351232 ∧ ∀ y1 ∈ a.2, (Lit.int .i64 y1).wf = true) opens3 rfl cells3 rfl (OpensF.cons (off1 := 2) (sz := 1) (ok := (fun a : Int => (Lit.int .i64 a).wf = true)) (ok1 := fun a : (List Int) => a.length * 8 ≤ 140737488351232 ∧ ∀ y1 ∈ a, (Lit.int .i64 y1).wf = true) opens3 rfl cells3 rfl (OpensF.one (ok := (fun a : List Int => a.length * 8 ≤ 140737488351232 ∧ ∀ y1 ∈ a, (Lit.int .i64 y1).wf = true)) opens22 rfl))
set_option maxRecDepth 100000 in
theorem lifted (os : Os) (started : os.Started) (H : Type) (enc : TypeId × Value → H) :
    ReturnsInHanded {} Try.checked os 4 .any (Rows.fnExactFewestChangesSpec.pre6 enc Try.prog Try.f4 Rows.fnExactFewestChangesRow.domain false) (Rows.fnExactFewestChangesSpec.post enc Try.prog Try.f4 false true false false) := by
  refine returnsInHanded_of_change_sized (C := Try.checked) own started (by kernel_rfl) Try.func4
    (ChangeSpec.witness6 (enc := enc) (C := Try.checked) false ⟨#[], #[.agg #[.int .i64 0, .int .i64 0, .slice none 0 0], .int .i64 0], []⟩ 8 (by kernel_rfl) (by kernel_rfl) (by kernel_rfl) (by kernel_rfl)) ?_
  intro W base args ds gs before hval0 hW hcnd hsz0 _
  have hsz : (DataW.weightsEach Try.prog (Try.f4.params.toList ++ Rows.fnExactFewestChangesSpec.plain.varTypes Try.prog) (ds ++ gs)).all (· ≤ reachBytes) = true := hsz0
  have hval : ∀ (j : Nat) t v, Try.f4.params[j]? = some t → args[j]? = some v → Value.okWide Try.prog W .any base t v := hval0
  have hW' := hW
  obtain ⟨p, q, hA0, hV, rfl, hfz, hnd⟩ := hW
  have hA : DataW.TrodAll enc Try.prog W 0 (fun _ => true) true Try.f4.params.toList args.toList ds p := hA0
  rw [Try.params4] at hA hval hsz
  obtain ⟨v0, vs0, d0, ds0, p0, q0, hargs, rfl, rfl, h0, r0⟩ := trodAll_cons hA
  obtain ⟨v1, vs1, d1, ds1, p1, q1, rfl, rfl, rfl, h1, r1⟩ := trodAll_cons r0
  obtain ⟨rfl, rfl, rfl⟩ := trodAll_nil r1
  obtain rfl : args = #[v0, v1] := by cases args; simp_all
  obtain ⟨rfl, rfl⟩ := trodVars_none hV
  have hw0 : ∀ n_ ∈ d0.weights Try.prog 24, n_ ≤ 140737488351232 := fun n_ hn_ => of_decide_eq_true (List.all_eq_true.1 hsz n_ (DataW.weights_mem_each (j := 0) rfl rfl n_ hn_))
  have k0 := h0
  have lt0 : ∀ x ∈ p0, x.block < W.heap.size := by obtain ⟨m, hm⟩ := k0; exact DataW.trod_lt m _ _ _ hm
  obtain ⟨cs0, rfl, hz0⟩ := okWide_struct Try.underlying24 (hval 0 24 v0 rfl rfl)
  obtain ⟨fu0, hf0⟩ := h0
  obtain ⟨x0, hK0, hok0⟩ := opens24.2 _ _ _ _ _ _ _ _ hf0 hw0
  obtain ⟨A0_2, c0_2, hcs0, hl0_2, hC0_2⟩ := k24_open hK0
  obtain rfl : cs0 = #[.int .i64 (x0.f0), .int .i64 (x0.f1), .slice A0_2 (x0.f2).length c0_2] := by have e_ := congrArg List.toArray hcs0; simpa [Value.cells] using e_
  obtain ⟨a1, rfl, rfl, rfl, hok1⟩ := open_int Try.underlying3 (hval 1 3 v1 rfl rfl) h1
  clear hA0 hval0 hsz0 hsz
  obtain ⟨kr, hr⟩ := Pure.FnExactFewestChanges x0.f0 x0.f1 x0.f2 a1 hok0.1 hok0.2.1 hok0.2.2.1 hok0.2.2.2 hok1
  refine (laws_FnExactFewestChanges.calls kr x0.f0 x0.f1 _ _ x0.f2 a1 W hC0_2 hl0_2 hr).mono fun e W' ⟨he, bel0⟩ => ?_
  have bel : Below W.heap.size W W' := bel0
  subst he
  exact ⟨_, rfl, _, _, _, [], _, [], hW', trodAll_mk1 (shut_bool Try.underlying4 _), (trodAll_cons_mk (Below.trod laidOut (by kernel_rfl) (of_decide_eq_true (by kernel_rfl)) k0 bel lt0) (trodAll_cons_mk (shut_int Try.underlying3 hok1) trodAll_mk0)), rfl, bel.frame _, fun h => by cases h⟩
theorem over : Rows.fnExactFewestChangesRow.holds Try.pinned (OpenSpec.ofChange Rows.fnExactFewestChangesSpec) :=
  OpenClaim.holds_of_wide 4 Try.f4 rfl rfl rfl rfl rfl rfl rfl ⟨rfl, rfl, rfl, rfl, rfl⟩ rfl rfl rfl rfl rfl (by kernel_rfl) Try.func4 (by kernel_rfl)
    (of_decide_eq_true (by kernel_rfl)) (by unfold Func.isWrapper; first | (rw [if_pos (by decide +kernel)]; kernel_rfl) | (rw [if_neg (by decide +kernel)]; exact ⟨rfl, rfl⟩))
    (fun os started H enc _ => lifted os started H enc)
theorem proved : Rows.FnExactFewestChangesSaid := over
#print axioms proved
end Go.Proofs.Ytijmljaemalgmaa.fnExactFewestChanges
namespace Go.Proofs.Ytijmljaemalgmaa
/-- The row, under a short name, for the claim. -/
theorem fnExactFewestChanges_holds : Rows.FnExactFewestChangesSaid := fnExactFewestChanges.proved
end Go.Proofs.Ytijmljaemalgmaa
