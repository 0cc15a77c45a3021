-- Printed by this session's own program (wip/deep/drow.py); Lean checks it.
import Derived.Test.YteiaakppjcpgcaaRows
import Derived.Test.YteiaakppjcpgcaaPureFnExactIsValidRecord
import Derived.WalkKit
import Derived.ProofKit
import Derived.OpenShut
import Derived.ShutString
import Derived.ChangeOld
import Derived.Below
import Derived.SizedLaws
import Derived.ChangeSlices
import Derived.Carry
namespace Go.Proofs.Yteiaakppjcpgcaa.fnExactIsValidRecord
open Go.ChangeShapes Go.WideShapes Go.ChangeAt Go.RowKit Go.Proofs.Yteiaakppjcpgcaa Go.Proofs.Yteiaakppjcpgcaa.DFnExactIsValidRecord Go.Proofs.YteiaakppjcpgcaaD
open Go.ChangeMaps (open_string shut_string)
set_option linter.unusedVariables false
theorem own : ownKnob Try.prog.godebug = none := by kernel_rfl
theorem laidOut : laidOutB Try.prog = true := by kernel_rfl
theorem opens9 : Opens Try.prog 9 .str (fun s => s.size ≤ 140737488351232) := Opens.string Try.underlying9 (by kernel_rfl)
set_option maxRecDepth 100000 in
theorem opens46 : Opens Try.prog 46 (.pair .str .str) (fun s => (s.1.size ≤ 140737488351232) ∧ s.2.size ≤ 140737488351232) := by
  refine Opens.struct (T := (.pair .str .str)) (ok := fun s => (s.1.size ≤ 140737488351232) ∧ s.2.size ≤ 140737488351232) Try.underlying46 (by kernel_rfl) ?_
  exact OpensF.cons (off1 := 1) (T := .str) (T1 := .str) (ok := (fun a : ByteArray => a.size ≤ 140737488351232)) (ok1 := fun a : ByteArray => a.size ≤ 140737488351232) opens9 rfl rfl (OpensF.one (T := .str) (ok := (fun a : ByteArray => a.size ≤ 140737488351232)) opens9 rfl)
set_option maxRecDepth 100000 in
theorem lifted (os : Os) (started : os.Started) (H : Type) (enc : TypeId × Value → H) :
    ReturnsInHanded {} Try.checked os 5 .any (Rows.fnExactIsValidRecordSpec.pre6 enc Try.prog Try.f5 Rows.fnExactIsValidRecordRow.domain false) (Rows.fnExactIsValidRecordSpec.post enc Try.prog Try.f5 false true false false) := by
  refine returnsInHanded_of_change_sized (C := Try.checked) own started (by kernel_rfl) Try.func5
    (ChangeSpec.witness6 (enc := enc) (C := Try.checked) false ⟨#[], #[.agg #[.string ByteArray.empty, .string ByteArray.empty]], []⟩ 8 (by kernel_rfl) (by kernel_rfl) (by kernel_rfl) (by kernel_rfl)) ?_
  intro W base args ds gs before hval0 hW hcnd hsz0 _
  have g1 : GN ≤ W.heap.size := Nat.zero_le _
  have g2 : GP W.heap := trivial
  have hsz : (DataW.weightsEach Try.prog (Try.f5.params.toList ++ Rows.fnExactIsValidRecordSpec.plain.varTypes Try.prog) (ds ++ gs)).all (· ≤ reachBytes) = true := hsz0
  have hval : ∀ (j : Nat) t v, Try.f5.params[j]? = some t → args[j]? = some v → Value.okWide Try.prog W .any base t v := hval0
  have hW' := hW
  obtain ⟨p, q, hA0, hV, rfl, hfz, hnd⟩ := hW
  have hA : DataW.TrodAll enc Try.prog W 0 (fun _ => true) true Try.f5.params.toList args.toList ds p := hA0
  rw [Try.params5] at hA hval hsz
  obtain ⟨v0, vs0, d0, ds0, p0, q0, hargs, rfl, rfl, h0, r0⟩ := trodAll_cons hA
  obtain ⟨rfl, rfl, rfl⟩ := trodAll_nil r0
  obtain rfl : args = #[v0] := by cases args; simp_all
  obtain ⟨rfl, rfl⟩ := trodVars_none hV
  have hw0 : ∀ n_ ∈ d0.weights Try.prog 46, n_ ≤ 140737488351232 := fun n_ hn_ => of_decide_eq_true (List.all_eq_true.1 hsz n_ (DataW.weights_mem_each (j := 0) rfl rfl n_ hn_))
  have k0 := h0
  have lt0 : ∀ x ∈ p0, x.block < W.heap.size := by obtain ⟨m, hm⟩ := k0; exact DataW.trod_lt m _ _ _ hm
  obtain ⟨cs0, rfl, hz0⟩ := okWide_struct Try.underlying46 (hval 0 46 v0 rfl rfl)
  obtain ⟨fu0, hf0⟩ := h0
  obtain ⟨x0, hK0, hok0⟩ := opens46.2 _ _ _ _ _ _ _ _ hf0 hw0
  clear hA0 hval0 hsz0 hsz
  obtain ⟨kr, hr⟩ := pure_holds x0.1 x0.2 hok0.1 hok0.2
  have hv : VRs (Ctx.law W) W [.agg (leaves (.pair .str .str) x0)] [.agg cs0] := (VRs.cons' (VR.agg' (T := (.pair .str .str)) (x := x0) hK0) VRs.nil')
  have hS : Sound Try.prog 5 ⟨[.ag [.d .str none, .d .str none]], [.d .bool none], fun x => laws_FnExactIsValidRecord.f kr x.1 x.2⟩ := laws_FnExactIsValidRecord.sound kr
  have hvs : (inVL [.ag [.d .str none, .d .str none]] (ofRT (tysL [.ag [.d .str none, .d .str none]]) ((x0.1, x0.2) : RT (tysL [.ag [.d .str none, .d .str none]]))) 0).vs = [.agg (leaves (.pair .str .str) x0)] := by kernel_rfl
  have hhp : (inVL [.ag [.d .str none, .d .str none]] (ofRT (tysL [.ag [.d .str none, .d .str none]]) ((x0.1, x0.2) : RT (tysL [.ag [.d .str none, .d .str none]]))) 0).heap = [] := by kernel_rfl
  have hrt : ofRT (tysL ([.d .bool none] ++ flatL (bxsL [.ag [.d .str none, .d .str none]]))) (true : RT (tysL ([.d .bool none] ++ flatL (bxsL [.ag [.d .str none, .d .str none]])))) = [⟨.bool, true⟩] := by kernel_rfl
  have hr' : (fun x => laws_FnExactIsValidRecord.f kr x.1 x.2 : RT (tysL [.ag [.d .str none, .d .str none]]) → Option (RT (tysL ([.d .bool none] ++ flatL (bxsL [.ag [.d .str none, .d .str none]]))))) (x0.1, x0.2) = some true := hr
  refine (law_ok hS hr' hrt (by kernel_rfl) hvs hhp hv g1 g2).mono fun e W' ⟨he, bel⟩ => ?_
  subst he
  exact ⟨_, rfl, _, _, _, [], _, [], hW', trodAll_mk1 (shut_bool Try.underlying4 _), (trodAll_cons_mk (Below.trod laidOut (by kernel_rfl) (of_decide_eq_true (by kernel_rfl)) k0 bel lt0) trodAll_mk0), rfl, bel.frame _, fun h => by cases h⟩
theorem over : Rows.fnExactIsValidRecordRow.holds Try.pinned (OpenSpec.ofChange Rows.fnExactIsValidRecordSpec) :=
  OpenClaim.holds_of_wide 5 Try.f5 rfl rfl rfl rfl rfl rfl rfl ⟨rfl, rfl, rfl, rfl, rfl⟩ rfl rfl rfl rfl rfl (by kernel_rfl) Try.func5 (by kernel_rfl)
    (of_decide_eq_true (by kernel_rfl)) (by unfold Func.isWrapper; first | (rw [if_pos (by decide +kernel)]; kernel_rfl) | (rw [if_neg (by decide +kernel)]; exact ⟨rfl, rfl⟩))
    (fun os started H enc _ => lifted os started H enc)
theorem proved : Rows.FnExactIsValidRecordSaid := over
#print axioms proved
end Go.Proofs.Yteiaakppjcpgcaa.fnExactIsValidRecord
namespace Go.Proofs.Yteiaakppjcpgcaa
/-- The row, under a short name, for the claim. -/
theorem fnExactIsValidRecord_holds : Rows.FnExactIsValidRecordSaid := fnExactIsValidRecord.proved
end Go.Proofs.Yteiaakppjcpgcaa
