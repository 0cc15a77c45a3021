-- Printed by this session's own program (wip/deep/drow.py); Lean checks it.
import Derived.Test.YtebljeaeoedgjaaRows
import Derived.Test.YtebljeaeoedgjaaPureFnEveryCarpet
import Derived.WalkKit
import Derived.ProofKit
import Derived.OpenShut
import Derived.ShutString
import Derived.ChangeOld
import Derived.Below
import Derived.SizedLaws
import Derived.ChangeSlices
import Derived.Carry
namespace Go.Proofs.Ytebljeaeoedgjaa.fnEveryCarpet
open Go.ChangeShapes Go.WideShapes Go.ChangeAt Go.RowKit Go.Proofs.Ytebljeaeoedgjaa Go.Proofs.Ytebljeaeoedgjaa.DFnEveryCarpet Go.Proofs.YtebljeaeoedgjaaD
open Go.ChangeMaps (open_string shut_string)
set_option linter.unusedVariables false
theorem own : ownKnob Try.prog.godebug = none := by kernel_rfl
theorem laidOut : laidOutB Try.prog = true := by kernel_rfl
theorem opens3 : Opens Try.prog 3 (.int .i64) (fun s => (Lit.int .i64 s).wf = true) := Opens.int Try.underlying3 (by kernel_rfl)
theorem opens24 : Opens Try.prog 24 (.sl (.int .i64)) (fun s => s.length * 8 ≤ 140737488351232 ∧ ∀ y0 ∈ s, (Lit.int .i64 y0).wf = true) := Opens.slice (T := (.int .i64)) (ok := fun s => (Lit.int .i64 s).wf = true) Try.underlying24 (by kernel_rfl) opens3 8 (by kernel_rfl)
set_option maxRecDepth 100000 in
theorem opens26 : Opens Try.prog 26 (.pair (.int .i64) (.pair (.int .i64) (.sl (.int .i64)))) (fun s => ((Lit.int .i64 s.1).wf = true) ∧ ((Lit.int .i64 s.2.1).wf = true) ∧ s.2.2.length * 8 ≤ 140737488351232 ∧ ∀ y0 ∈ s.2.2, (Lit.int .i64 y0).wf = true) := by
  refine Opens.struct (T := (.pair (.int .i64) (.pair (.int .i64) (.sl (.int .i64))))) (ok := fun s => ((Lit.int .i64 s.1).wf = true) ∧ ((Lit.int .i64 s.2.1).wf = true) ∧ s.2.2.length * 8 ≤ 140737488351232 ∧ ∀ y0 ∈ s.2.2, (Lit.int .i64 y0).wf = true) Try.underlying26 (by kernel_rfl) ?_
  exact OpensF.cons (off1 := 1) (T := (.int .i64)) (T1 := (.pair (.int .i64) (.sl (.int .i64)))) (ok := (fun a : Int => (Lit.int .i64 a).wf = true)) (ok1 := fun a : Int × List Int => ((Lit.int .i64 a.1).wf = true) ∧ a.2.length * 8 ≤ 140737488351232 ∧ ∀ y0 ∈ a.2, (Lit.int .i64 y0).wf = true) opens3 rfl rfl (OpensF.cons (off1 := 2) (T := (.int .i64)) (T1 := (.sl (.int .i64))) (ok := (fun a : Int => (Lit.int .i64 a).wf = true)) (ok1 := fun a : List Int => a.length * 8 ≤ 140737488351232 ∧ ∀ y0 ∈ a, (Lit.int .i64 y0).wf = true) opens3 rfl rfl (OpensF.one (T := (.sl (.int .i64))) (ok := (fun a : List Int => a.length * 8 ≤ 140737488351232 ∧ ∀ y0 ∈ a, (Lit.int .i64 y0).wf = true)) opens24 rfl))
set_option maxRecDepth 100000 in
theorem opens64 : Opens Try.prog 64 (.pair (.int .i64) (.int .i64)) (fun s => ((Lit.int .i64 s.1).wf = true) ∧ (Lit.int .i64 s.2).wf = true) := by
  refine Opens.struct (T := (.pair (.int .i64) (.int .i64))) (ok := fun s => ((Lit.int .i64 s.1).wf = true) ∧ (Lit.int .i64 s.2).wf = true) Try.underlying64 (by kernel_rfl) ?_
  exact OpensF.cons (off1 := 1) (T := (.int .i64)) (T1 := (.int .i64)) (ok := (fun a : Int => (Lit.int .i64 a).wf = true)) (ok1 := fun a : Int => (Lit.int .i64 a).wf = true) opens3 rfl rfl (OpensF.one (T := (.int .i64)) (ok := (fun a : Int => (Lit.int .i64 a).wf = true)) opens3 rfl)
theorem opens27 : Opens Try.prog 27 (.sl (.pair (.int .i64) (.int .i64))) (fun s => s.length * 16 ≤ 140737488351232 ∧ ∀ y0 ∈ s, ((Lit.int .i64 y0.1).wf = true) ∧ (Lit.int .i64 y0.2).wf = true) := Opens.slice (T := (.pair (.int .i64) (.int .i64))) (ok := fun s => ((Lit.int .i64 s.1).wf = true) ∧ (Lit.int .i64 s.2).wf = true) Try.underlying27 (by kernel_rfl) opens64 16 (by kernel_rfl)
theorem opens4 : Opens Try.prog 4 .bool (fun s => True) := Opens.bool Try.underlying4 (by kernel_rfl)
set_option maxRecDepth 100000 in
theorem opens29 : Opens Try.prog 29 (.pair (.int .i64) (.pair (.int .i64) (.pair (.sl (.int .i64)) (.pair (.sl (.int .i64)) (.pair (.int .i64) (.pair (.sl (.pair (.int .i64) (.int .i64))) .bool)))))) (fun s => (((Lit.int .i64 s.1).wf = true) ∧ ((Lit.int .i64 s.2.1).wf = true) ∧ s.2.2.1.length * 8 ≤ 140737488351232 ∧ ∀ y0 ∈ s.2.2.1, (Lit.int .i64 y0).wf = true) ∧ (s.2.2.2.1.length * 8 ≤ 140737488351232 ∧ ∀ y0 ∈ s.2.2.2.1, (Lit.int .i64 y0).wf = true) ∧ ((Lit.int .i64 s.2.2.2.2.1).wf = true) ∧ (s.2.2.2.2.2.1.length * 16 ≤ 140737488351232 ∧ ∀ y0 ∈ s.2.2.2.2.2.1, ((Lit.int .i64 y0.1).wf = true) ∧ (Lit.int .i64 y0.2).wf = true) ∧ True) := by
  refine Opens.struct (T := (.pair (.int .i64) (.pair (.int .i64) (.pair (.sl (.int .i64)) (.pair (.sl (.int .i64)) (.pair (.int .i64) (.pair (.sl (.pair (.int .i64) (.int .i64))) .bool))))))) (ok := fun s => (((Lit.int .i64 s.1).wf = true) ∧ ((Lit.int .i64 s.2.1).wf = true) ∧ s.2.2.1.length * 8 ≤ 140737488351232 ∧ ∀ y0 ∈ s.2.2.1, (Lit.int .i64 y0).wf = true) ∧ (s.2.2.2.1.length * 8 ≤ 140737488351232 ∧ ∀ y0 ∈ s.2.2.2.1, (Lit.int .i64 y0).wf = true) ∧ ((Lit.int .i64 s.2.2.2.2.1).wf = true) ∧ (s.2.2.2.2.2.1.length * 16 ≤ 140737488351232 ∧ ∀ y0 ∈ s.2.2.2.2.2.1, ((Lit.int .i64 y0.1).wf = true) ∧ (Lit.int .i64 y0.2).wf = true) ∧ True) Try.underlying29 (by kernel_rfl) ?_
  exact OpensF.flat (T := (.pair (.int .i64) (.pair (.int .i64) (.sl (.int .i64))))) (C := (.pair (.sl (.int .i64)) (.pair (.int .i64) (.pair (.sl (.pair (.int .i64) (.int .i64))) .bool)))) (ok := fun x : (Int × Int × List Int) × (List Int × Int × List (Int × Int) × Bool) => (((Lit.int .i64 x.1.1).wf = true) ∧ ((Lit.int .i64 x.1.2.1).wf = true) ∧ x.1.2.2.length * 8 ≤ 140737488351232 ∧ ∀ y0 ∈ x.1.2.2, (Lit.int .i64 y0).wf = true) ∧ (x.2.1.length * 8 ≤ 140737488351232 ∧ ∀ y0 ∈ x.2.1, (Lit.int .i64 y0).wf = true) ∧ ((Lit.int .i64 x.2.2.1).wf = true) ∧ (x.2.2.2.1.length * 16 ≤ 140737488351232 ∧ ∀ y0 ∈ x.2.2.2.1, ((Lit.int .i64 y0.1).wf = true) ∧ (Lit.int .i64 y0.2).wf = true) ∧ True) (OpensF.cons (off1 := 3) (T := (.pair (.int .i64) (.pair (.int .i64) (.sl (.int .i64))))) (T1 := (.pair (.sl (.int .i64)) (.pair (.int .i64) (.pair (.sl (.pair (.int .i64) (.int .i64))) .bool)))) (ok := (fun a : Int × Int × List Int => ((Lit.int .i64 a.1).wf = true) ∧ ((Lit.int .i64 a.2.1).wf = true) ∧ a.2.2.length * 8 ≤ 140737488351232 ∧ ∀ y0 ∈ a.2.2, (Lit.int .i64 y0).wf = true)) (ok1 := fun a : List Int × Int × List (Int × Int) × Bool => (a.1.length * 8 ≤ 140737488351232 ∧ ∀ y0 ∈ a.1, (Lit.int .i64 y0).wf = true) ∧ ((Lit.int .i64 a.2.1).wf = true) ∧ (a.2.2.1.length * 16 ≤ 140737488351232 ∧ ∀ y0 ∈ a.2.2.1, ((Lit.int .i64 y0.1).wf = true) ∧ (Lit.int .i64 y0.2).wf = true) ∧ True) opens26 rfl rfl (OpensF.cons (off1 := 4) (T := (.sl (.int .i64))) (T1 := (.pair (.int .i64) (.pair (.sl (.pair (.int .i64) (.int .i64))) .bool))) (ok := (fun a : List Int => a.length * 8 ≤ 140737488351232 ∧ ∀ y0 ∈ a, (Lit.int .i64 y0).wf = true)) (ok1 := fun a : Int × List (Int × Int) × Bool => ((Lit.int .i64 a.1).wf = true) ∧ (a.2.1.length * 16 ≤ 140737488351232 ∧ ∀ y0 ∈ a.2.1, ((Lit.int .i64 y0.1).wf = true) ∧ (Lit.int .i64 y0.2).wf = true) ∧ True) opens24 rfl rfl (OpensF.cons (off1 := 5) (T := (.int .i64)) (T1 := (.pair (.sl (.pair (.int .i64) (.int .i64))) .bool)) (ok := (fun a : Int => (Lit.int .i64 a).wf = true)) (ok1 := fun a : List (Int × Int) × Bool => (a.1.length * 16 ≤ 140737488351232 ∧ ∀ y0 ∈ a.1, ((Lit.int .i64 y0.1).wf = true) ∧ (Lit.int .i64 y0.2).wf = true) ∧ True) opens3 rfl rfl (OpensF.cons (off1 := 6) (T := (.sl (.pair (.int .i64) (.int .i64)))) (T1 := .bool) (ok := (fun a : List (Int × Int) => a.length * 16 ≤ 140737488351232 ∧ ∀ y0 ∈ a, ((Lit.int .i64 y0.1).wf = true) ∧ (Lit.int .i64 y0.2).wf = true)) (ok1 := fun a : Bool => True) opens27 rfl rfl (OpensF.one (T := .bool) (ok := (fun a : Bool => True)) opens4 rfl)))))
set_option maxRecDepth 100000 in
theorem opens39 : Opens Try.prog 39 (.pair (.int .i64) (.int .i64)) (fun s => ((Lit.int .i64 s.1).wf = true) ∧ (Lit.int .i64 s.2).wf = true) := by
  refine Opens.struct (T := (.pair (.int .i64) (.int .i64))) (ok := fun s => ((Lit.int .i64 s.1).wf = true) ∧ (Lit.int .i64 s.2).wf = true) Try.underlying39 (by kernel_rfl) ?_
  exact OpensF.cons (off1 := 1) (T := (.int .i64)) (T1 := (.int .i64)) (ok := (fun a : Int => (Lit.int .i64 a).wf = true)) (ok1 := fun a : Int => (Lit.int .i64 a).wf = true) opens3 rfl rfl (OpensF.one (T := (.int .i64)) (ok := (fun a : Int => (Lit.int .i64 a).wf = true)) opens3 rfl)
theorem opens57 : Opens Try.prog 57 (.sl (.pair (.int .i64) (.int .i64))) (fun s => s.length * 16 ≤ 140737488351232 ∧ ∀ y0 ∈ s, ((Lit.int .i64 y0.1).wf = true) ∧ (Lit.int .i64 y0.2).wf = true) := Opens.slice (T := (.pair (.int .i64) (.int .i64))) (ok := fun s => ((Lit.int .i64 s.1).wf = true) ∧ (Lit.int .i64 s.2).wf = true) Try.underlying57 (by kernel_rfl) opens39 16 (by kernel_rfl)
set_option maxRecDepth 100000 in
theorem lifted (os : Os) (started : os.Started) (H : Type) (enc : TypeId × Value → H) :
    ReturnsInHanded {} Try.checked os 6 .any (Rows.fnEveryCarpetSpec.pre6 enc Try.prog Try.f6 Rows.fnEveryCarpetRow.domain false) (Rows.fnEveryCarpetSpec.post enc Try.prog Try.f6 false true false false) := by
  refine returnsInHanded_of_change_sized (C := Try.checked) own started (by kernel_rfl) Try.func6
    (ChangeSpec.witness6 (enc := enc) (C := Try.checked) false ⟨#[], #[.agg #[.int .i64 0, .int .i64 0, .slice none 0 0, .slice none 0 0, .int .i64 0, .slice none 0 0, .bool false], .slice none 0 0], []⟩ 8 (by kernel_rfl) (by kernel_rfl) (by kernel_rfl) (by kernel_rfl)) ?_
  intro W base args ds gs before hval0 hW hcnd hsz0 _
  have hsz : (DataW.weightsEach Try.prog (Try.f6.params.toList ++ Rows.fnEveryCarpetSpec.plain.varTypes Try.prog) (ds ++ gs)).all (· ≤ reachBytes) = true := hsz0
  have hval : ∀ (j : Nat) t v, Try.f6.params[j]? = some t → args[j]? = some v → Value.okWide Try.prog W .any base t v := hval0
  have hW' := hW
  obtain ⟨p, q, hA0, hV, rfl, hfz, hnd⟩ := hW
  have hA : DataW.TrodAll enc Try.prog W 0 (fun _ => true) true Try.f6.params.toList args.toList ds p := hA0
  rw [Try.params6] at hA hval hsz
  obtain ⟨v0, vs0, d0, ds0, p0, q0, hargs, rfl, rfl, h0, r0⟩ := trodAll_cons hA
  obtain ⟨v1, vs1, d1, ds1, p1, q1, rfl, rfl, rfl, h1, r1⟩ := trodAll_cons r0
  obtain ⟨rfl, rfl, rfl⟩ := trodAll_nil r1
  obtain rfl : args = #[v0, v1] := by cases args; simp_all
  obtain ⟨rfl, rfl⟩ := trodVars_none hV
  have hw0 : ∀ n_ ∈ d0.weights Try.prog 29, n_ ≤ 140737488351232 := fun n_ hn_ => of_decide_eq_true (List.all_eq_true.1 hsz n_ (DataW.weights_mem_each (j := 0) rfl rfl n_ hn_))
  have k0 := h0
  have lt0 : ∀ x ∈ p0, x.block < W.heap.size := by obtain ⟨m, hm⟩ := k0; exact DataW.trod_lt m _ _ _ hm
  obtain ⟨cs0, rfl, hz0⟩ := okWide_struct Try.underlying29 (hval 0 29 v0 rfl rfl)
  obtain ⟨fu0, hf0⟩ := h0
  obtain ⟨x0, hK0, hok0⟩ := opens29.2 _ _ _ _ _ _ _ _ hf0 hw0
  have hw1 : ∀ n_ ∈ d1.weights Try.prog 57, n_ ≤ 140737488351232 := fun n_ hn_ => of_decide_eq_true (List.all_eq_true.1 hsz n_ (DataW.weights_mem_each (j := 1) rfl rfl n_ hn_))
  have k1 := h1
  have lt1 : ∀ x ∈ p1, x.block < W.heap.size := by obtain ⟨m, hm⟩ := k1; exact DataW.trod_lt m _ _ _ hm
  obtain ⟨a1, len1, cap1, rfl⟩ := okWide_slice Try.underlying57 (hval 1 57 v1 rfl rfl)
  obtain ⟨fu1, hf1⟩ := h1
  obtain ⟨x1, hK1, hok1⟩ := opens57.2 _ _ _ _ _ _ _ _ hf1 hw1
  clear hA0 hval0 hsz0 hsz
  obtain ⟨kr, hr⟩ := pure_holds x0.1 x0.2.1 x0.2.2.1 x0.2.2.2.1 x0.2.2.2.2.1 x0.2.2.2.2.2.1 x0.2.2.2.2.2.2 x1 hok0.1.1 hok0.1.2.1 hok0.1.2.2.1 hok0.1.2.2.2 hok0.2.1.1 hok0.2.1.2 hok0.2.2.1 hok0.2.2.2.1.1 hok0.2.2.2.1.2 hok1.1 hok1.2
  have hv : VRs (Ctx.law W) W [.agg (leaves (.pair (.int .i64) (.pair (.int .i64) (.pair (.sl (.int .i64)) (.pair (.sl (.int .i64)) (.pair (.int .i64) (.pair (.sl (.pair (.int .i64) (.int .i64))) .bool)))))) x0), .val (.sl (.pair (.int .i64) (.int .i64))) x1] [.agg cs0, .slice a1 len1 cap1] := (VRs.cons' (VR.agg' (T := (.pair (.int .i64) (.pair (.int .i64) (.pair (.sl (.int .i64)) (.pair (.sl (.int .i64)) (.pair (.int .i64) (.pair (.sl (.pair (.int .i64) (.int .i64))) .bool))))))) (x := x0) hK0) (VRs.cons' (VR.val' (T := (.sl (.pair (.int .i64) (.int .i64)))) (x := x1) hK1) VRs.nil'))
  have hS : Sound Try.prog 6 ⟨[.ag [.d (.int .i64) none, .d (.int .i64) none, .d (.sl (.int .i64)) none, .d (.sl (.int .i64)) none, .d (.int .i64) none, .d (.sl (.pair (.int .i64) (.int .i64))) none, .d .bool none], .d (.sl (.pair (.int .i64) (.int .i64))) none], [.d .bool none], fun x => laws_FnEveryCarpet.f kr x.1 x.2.1 x.2.2.1 x.2.2.2.1 x.2.2.2.2.1 x.2.2.2.2.2.1 x.2.2.2.2.2.2.1 x.2.2.2.2.2.2.2⟩ := laws_FnEveryCarpet.sound kr
  have hvs : (inVL [.ag [.d (.int .i64) none, .d (.int .i64) none, .d (.sl (.int .i64)) none, .d (.sl (.int .i64)) none, .d (.int .i64) none, .d (.sl (.pair (.int .i64) (.int .i64))) none, .d .bool none], .d (.sl (.pair (.int .i64) (.int .i64))) none] (ofRT (tysL [.ag [.d (.int .i64) none, .d (.int .i64) none, .d (.sl (.int .i64)) none, .d (.sl (.int .i64)) none, .d (.int .i64) none, .d (.sl (.pair (.int .i64) (.int .i64))) none, .d .bool none], .d (.sl (.pair (.int .i64) (.int .i64))) none]) ((x0.1, x0.2.1, x0.2.2.1, x0.2.2.2.1, x0.2.2.2.2.1, x0.2.2.2.2.2.1, x0.2.2.2.2.2.2, x1) : RT (tysL [.ag [.d (.int .i64) none, .d (.int .i64) none, .d (.sl (.int .i64)) none, .d (.sl (.int .i64)) none, .d (.int .i64) none, .d (.sl (.pair (.int .i64) (.int .i64))) none, .d .bool none], .d (.sl (.pair (.int .i64) (.int .i64))) none]))) 0).vs = [.agg (leaves (.pair (.int .i64) (.pair (.int .i64) (.pair (.sl (.int .i64)) (.pair (.sl (.int .i64)) (.pair (.int .i64) (.pair (.sl (.pair (.int .i64) (.int .i64))) .bool)))))) x0), .val (.sl (.pair (.int .i64) (.int .i64))) x1] := by kernel_rfl
  have hhp : (inVL [.ag [.d (.int .i64) none, .d (.int .i64) none, .d (.sl (.int .i64)) none, .d (.sl (.int .i64)) none, .d (.int .i64) none, .d (.sl (.pair (.int .i64) (.int .i64))) none, .d .bool none], .d (.sl (.pair (.int .i64) (.int .i64))) none] (ofRT (tysL [.ag [.d (.int .i64) none, .d (.int .i64) none, .d (.sl (.int .i64)) none, .d (.sl (.int .i64)) none, .d (.int .i64) none, .d (.sl (.pair (.int .i64) (.int .i64))) none, .d .bool none], .d (.sl (.pair (.int .i64) (.int .i64))) none]) ((x0.1, x0.2.1, x0.2.2.1, x0.2.2.2.1, x0.2.2.2.2.1, x0.2.2.2.2.2.1, x0.2.2.2.2.2.2, x1) : RT (tysL [.ag [.d (.int .i64) none, .d (.int .i64) none, .d (.sl (.int .i64)) none, .d (.sl (.int .i64)) none, .d (.int .i64) none, .d (.sl (.pair (.int .i64) (.int .i64))) none, .d .bool none], .d (.sl (.pair (.int .i64) (.int .i64))) none]))) 0).heap = [] := by kernel_rfl
  have hrt : ofRT (tysL ([.d .bool none] ++ flatL (bxsL [.ag [.d (.int .i64) none, .d (.int .i64) none, .d (.sl (.int .i64)) none, .d (.sl (.int .i64)) none, .d (.int .i64) none, .d (.sl (.pair (.int .i64) (.int .i64))) none, .d .bool none], .d (.sl (.pair (.int .i64) (.int .i64))) none]))) (true : RT (tysL ([.d .bool none] ++ flatL (bxsL [.ag [.d (.int .i64) none, .d (.int .i64) none, .d (.sl (.int .i64)) none, .d (.sl (.int .i64)) none, .d (.int .i64) none, .d (.sl (.pair (.int .i64) (.int .i64))) none, .d .bool none], .d (.sl (.pair (.int .i64) (.int .i64))) none])))) = [⟨.bool, true⟩] := by kernel_rfl
  have hr' : (fun x => laws_FnEveryCarpet.f kr x.1 x.2.1 x.2.2.1 x.2.2.2.1 x.2.2.2.2.1 x.2.2.2.2.2.1 x.2.2.2.2.2.2.1 x.2.2.2.2.2.2.2 : RT (tysL [.ag [.d (.int .i64) none, .d (.int .i64) none, .d (.sl (.int .i64)) none, .d (.sl (.int .i64)) none, .d (.int .i64) none, .d (.sl (.pair (.int .i64) (.int .i64))) none, .d .bool none], .d (.sl (.pair (.int .i64) (.int .i64))) none]) → Option (RT (tysL ([.d .bool none] ++ flatL (bxsL [.ag [.d (.int .i64) none, .d (.int .i64) none, .d (.sl (.int .i64)) none, .d (.sl (.int .i64)) none, .d (.int .i64) none, .d (.sl (.pair (.int .i64) (.int .i64))) none, .d .bool none], .d (.sl (.pair (.int .i64) (.int .i64))) none]))))) (x0.1, x0.2.1, x0.2.2.1, x0.2.2.2.1, x0.2.2.2.2.1, x0.2.2.2.2.2.1, x0.2.2.2.2.2.2, x1) = some true := hr
  refine (law_ok hS hr' hrt (by kernel_rfl) hvs hhp hv).mono fun e W' ⟨he, bel⟩ => ?_
  subst he
  exact ⟨_, rfl, _, _, _, [], _, [], hW', trodAll_mk1 (shut_bool Try.underlying4 _), (trodAll_cons_mk (Below.trod laidOut (by kernel_rfl) (of_decide_eq_true (by kernel_rfl)) k0 bel lt0) (trodAll_cons_mk (Below.trod laidOut (by kernel_rfl) (of_decide_eq_true (by kernel_rfl)) k1 bel lt1) trodAll_mk0)), rfl, bel.frame _, fun h => by cases h⟩
theorem over : Rows.fnEveryCarpetRow.holds Try.pinned (OpenSpec.ofChange Rows.fnEveryCarpetSpec) :=
  OpenClaim.holds_of_wide 6 Try.f6 rfl rfl rfl rfl rfl rfl rfl ⟨rfl, rfl, rfl, rfl, rfl⟩ rfl rfl rfl rfl rfl (by kernel_rfl) Try.func6 (by kernel_rfl)
    (of_decide_eq_true (by kernel_rfl)) (by unfold Func.isWrapper; first | (rw [if_pos (by decide +kernel)]; kernel_rfl) | (rw [if_neg (by decide +kernel)]; exact ⟨rfl, rfl⟩))
    (fun os started H enc _ => lifted os started H enc)
theorem proved : Rows.FnEveryCarpetSaid := over
#print axioms proved
end Go.Proofs.Ytebljeaeoedgjaa.fnEveryCarpet
namespace Go.Proofs.Ytebljeaeoedgjaa
/-- The row, under a short name, for the claim. -/
theorem fnEveryCarpet_holds : Rows.FnEveryCarpetSaid := fnEveryCarpet.proved
end Go.Proofs.Ytebljeaeoedgjaa
