-- Printed by this session's own program (wip/deep/drow.py); Lean checks it.
import Derived.Test.YtiacidpjplmgaaaDoorTie
import Derived.Test.YtiacidpjplmgaaaDoorCards
import Derived.Test.YtiacidpjplmgaaaDoorRows
import Derived.Test.YtiacidpjplmgaaaDoorPureFnExactFormatConsole
import Derived.WalkKit
import Derived.ProofKit
import Derived.OpenShut
import Derived.ShutString
import Derived.ChangeOld
import Derived.Below
import Derived.SizedLaws
import Derived.ChangeSlices
import Derived.Carry
import Derived.LaidMore
import Derived.Lay
import Derived.LaidOnce
import Derived.SevenTiedAt
import Derived.LaidLaws
import Derived.LaidHandle
namespace Go.Proofs.YtiacidpjplmgaaaDoor.fnExactFormatConsole
open Go.ChangeShapes Go.WideShapes Go.ChangeAt Go.RowKit Go.Proofs.YtiacidpjplmgaaaDoor Go.Proofs.YtiacidpjplmgaaaDoor.DFnExactFormatConsole Go.Proofs.YtiacidpjplmgaaaDoorD
open Go.ChangeMaps (open_string shut_string)
set_option linter.unusedVariables false
theorem own : ownKnob Tryd.prog.godebug = none := by kernel_rfl
theorem laidOut : laidOutB Tryd.prog = true := by kernel_rfl
theorem opens3 : Opens Tryd.prog 3 (.int .i64) (fun s => (Lit.int .i64 s).wf = true) := Opens.int Tryd.underlying3 (by kernel_rfl)
set_option maxRecDepth 100000 in
theorem opens81 : Opens Tryd.prog 81 (.pair (.int .i64) (.pair (.int .i64) (.pair (.int .i64) (.pair (.int .i64) (.int .i64))))) (fun s => ((Lit.int .i64 s.1).wf = true) ∧ ((Lit.int .i64 s.2.1).wf = true) ∧ ((Lit.int .i64 s.2.2.1).wf = true) ∧ ((Lit.int .i64 s.2.2.2.1).wf = true) ∧ (Lit.int .i64 s.2.2.2.2).wf = true) := by
  refine Opens.struct (T := (.pair (.int .i64) (.pair (.int .i64) (.pair (.int .i64) (.pair (.int .i64) (.int .i64)))))) (ok := fun s => ((Lit.int .i64 s.1).wf = true) ∧ ((Lit.int .i64 s.2.1).wf = true) ∧ ((Lit.int .i64 s.2.2.1).wf = true) ∧ ((Lit.int .i64 s.2.2.2.1).wf = true) ∧ (Lit.int .i64 s.2.2.2.2).wf = true) Tryd.underlying81 (by kernel_rfl) ?_
  exact OpensF.cons (off1 := 1) (T := (.int .i64)) (T1 := (.pair (.int .i64) (.pair (.int .i64) (.pair (.int .i64) (.int .i64))))) (ok := (fun a : Int => (Lit.int .i64 a).wf = true)) (ok1 := fun a : Int × Int × Int × Int => ((Lit.int .i64 a.1).wf = true) ∧ ((Lit.int .i64 a.2.1).wf = true) ∧ ((Lit.int .i64 a.2.2.1).wf = true) ∧ (Lit.int .i64 a.2.2.2).wf = true) opens3 rfl rfl (OpensF.cons (off1 := 2) (T := (.int .i64)) (T1 := (.pair (.int .i64) (.pair (.int .i64) (.int .i64)))) (ok := (fun a : Int => (Lit.int .i64 a).wf = true)) (ok1 := fun a : Int × Int × Int => ((Lit.int .i64 a.1).wf = true) ∧ ((Lit.int .i64 a.2.1).wf = true) ∧ (Lit.int .i64 a.2.2).wf = true) opens3 rfl rfl (OpensF.cons (off1 := 3) (T := (.int .i64)) (T1 := (.pair (.int .i64) (.int .i64))) (ok := (fun a : Int => (Lit.int .i64 a).wf = true)) (ok1 := fun a : Int × Int => ((Lit.int .i64 a.1).wf = true) ∧ (Lit.int .i64 a.2).wf = true) opens3 rfl rfl (OpensF.cons (off1 := 4) (T := (.int .i64)) (T1 := (.int .i64)) (ok := (fun a : Int => (Lit.int .i64 a).wf = true)) (ok1 := fun a : Int => (Lit.int .i64 a).wf = true) opens3 rfl rfl (OpensF.one (T := (.int .i64)) (ok := (fun a : Int => (Lit.int .i64 a).wf = true)) opens3 rfl))))
theorem opens22 : Opens Tryd.prog 22 (.sl (.pair (.int .i64) (.pair (.int .i64) (.pair (.int .i64) (.pair (.int .i64) (.int .i64)))))) (fun s => s.length * 40 ≤ 140737488351232 ∧ ∀ y0 ∈ s, ((Lit.int .i64 y0.1).wf = true) ∧ ((Lit.int .i64 y0.2.1).wf = true) ∧ ((Lit.int .i64 y0.2.2.1).wf = true) ∧ ((Lit.int .i64 y0.2.2.2.1).wf = true) ∧ (Lit.int .i64 y0.2.2.2.2).wf = true) := Opens.slice (T := (.pair (.int .i64) (.pair (.int .i64) (.pair (.int .i64) (.pair (.int .i64) (.int .i64)))))) (ok := fun s => ((Lit.int .i64 s.1).wf = true) ∧ ((Lit.int .i64 s.2.1).wf = true) ∧ ((Lit.int .i64 s.2.2.1).wf = true) ∧ ((Lit.int .i64 s.2.2.2.1).wf = true) ∧ (Lit.int .i64 s.2.2.2.2).wf = true) Tryd.underlying22 (by kernel_rfl) opens81 40 (by kernel_rfl)
set_option maxRecDepth 100000 in
theorem opens24 : Opens Tryd.prog 24 (.pair (.int .i64) (.pair (.int .i64) (.pair (.sl (.pair (.int .i64) (.pair (.int .i64) (.pair (.int .i64) (.pair (.int .i64) (.int .i64)))))) (.int .i64)))) (fun s => ((Lit.int .i64 s.1).wf = true) ∧ ((Lit.int .i64 s.2.1).wf = true) ∧ (s.2.2.1.length * 40 ≤ 140737488351232 ∧ ∀ y0 ∈ s.2.2.1, ((Lit.int .i64 y0.1).wf = true) ∧ ((Lit.int .i64 y0.2.1).wf = true) ∧ ((Lit.int .i64 y0.2.2.1).wf = true) ∧ ((Lit.int .i64 y0.2.2.2.1).wf = true) ∧ (Lit.int .i64 y0.2.2.2.2).wf = true) ∧ (Lit.int .i64 s.2.2.2).wf = true) := by
  refine Opens.struct (T := (.pair (.int .i64) (.pair (.int .i64) (.pair (.sl (.pair (.int .i64) (.pair (.int .i64) (.pair (.int .i64) (.pair (.int .i64) (.int .i64)))))) (.int .i64))))) (ok := fun s => ((Lit.int .i64 s.1).wf = true) ∧ ((Lit.int .i64 s.2.1).wf = true) ∧ (s.2.2.1.length * 40 ≤ 140737488351232 ∧ ∀ y0 ∈ s.2.2.1, ((Lit.int .i64 y0.1).wf = true) ∧ ((Lit.int .i64 y0.2.1).wf = true) ∧ ((Lit.int .i64 y0.2.2.1).wf = true) ∧ ((Lit.int .i64 y0.2.2.2.1).wf = true) ∧ (Lit.int .i64 y0.2.2.2.2).wf = true) ∧ (Lit.int .i64 s.2.2.2).wf = true) Tryd.underlying24 (by kernel_rfl) ?_
  exact OpensF.cons (off1 := 1) (T := (.int .i64)) (T1 := (.pair (.int .i64) (.pair (.sl (.pair (.int .i64) (.pair (.int .i64) (.pair (.int .i64) (.pair (.int .i64) (.int .i64)))))) (.int .i64)))) (ok := (fun a : Int => (Lit.int .i64 a).wf = true)) (ok1 := fun a : Int × List (Int × Int × Int × Int × Int) × Int => ((Lit.int .i64 a.1).wf = true) ∧ (a.2.1.length * 40 ≤ 140737488351232 ∧ ∀ y0 ∈ a.2.1, ((Lit.int .i64 y0.1).wf = true) ∧ ((Lit.int .i64 y0.2.1).wf = true) ∧ ((Lit.int .i64 y0.2.2.1).wf = true) ∧ ((Lit.int .i64 y0.2.2.2.1).wf = true) ∧ (Lit.int .i64 y0.2.2.2.2).wf = true) ∧ (Lit.int .i64 a.2.2).wf = true) opens3 rfl rfl (OpensF.cons (off1 := 2) (T := (.int .i64)) (T1 := (.pair (.sl (.pair (.int .i64) (.pair (.int .i64) (.pair (.int .i64) (.pair (.int .i64) (.int .i64)))))) (.int .i64))) (ok := (fun a : Int => (Lit.int .i64 a).wf = true)) (ok1 := fun a : List (Int × Int × Int × Int × Int) × Int => (a.1.length * 40 ≤ 140737488351232 ∧ ∀ y0 ∈ a.1, ((Lit.int .i64 y0.1).wf = true) ∧ ((Lit.int .i64 y0.2.1).wf = true) ∧ ((Lit.int .i64 y0.2.2.1).wf = true) ∧ ((Lit.int .i64 y0.2.2.2.1).wf = true) ∧ (Lit.int .i64 y0.2.2.2.2).wf = true) ∧ (Lit.int .i64 a.2).wf = true) opens3 rfl rfl (OpensF.cons (off1 := 3) (T := (.sl (.pair (.int .i64) (.pair (.int .i64) (.pair (.int .i64) (.pair (.int .i64) (.int .i64))))))) (T1 := (.int .i64)) (ok := (fun a : List (Int × Int × Int × Int × Int) => a.length * 40 ≤ 140737488351232 ∧ ∀ y0 ∈ a, ((Lit.int .i64 y0.1).wf = true) ∧ ((Lit.int .i64 y0.2.1).wf = true) ∧ ((Lit.int .i64 y0.2.2.1).wf = true) ∧ ((Lit.int .i64 y0.2.2.2.1).wf = true) ∧ (Lit.int .i64 y0.2.2.2.2).wf = true)) (ok1 := fun a : Int => (Lit.int .i64 a).wf = true) opens22 rfl rfl (OpensF.one (T := (.int .i64)) (ok := (fun a : Int => (Lit.int .i64 a).wf = true)) opens3 rfl)))
theorem opens9 : Opens Tryd.prog 9 .str (fun s => s.size ≤ 140737488351232) := Opens.string Tryd.underlying9 (by kernel_rfl)
set_option maxRecDepth 100000 in
theorem opens26 : Opens Tryd.prog 26 (.pair .str (.pair .str (.int .i64))) (fun s => (s.1.size ≤ 140737488351232) ∧ (s.2.1.size ≤ 140737488351232) ∧ (Lit.int .i64 s.2.2).wf = true) := by
  refine Opens.struct (T := (.pair .str (.pair .str (.int .i64)))) (ok := fun s => (s.1.size ≤ 140737488351232) ∧ (s.2.1.size ≤ 140737488351232) ∧ (Lit.int .i64 s.2.2).wf = true) Tryd.underlying26 (by kernel_rfl) ?_
  exact OpensF.cons (off1 := 1) (T := .str) (T1 := (.pair .str (.int .i64))) (ok := (fun a : ByteArray => a.size ≤ 140737488351232)) (ok1 := fun a : ByteArray × Int => (a.1.size ≤ 140737488351232) ∧ (Lit.int .i64 a.2).wf = true) opens9 rfl rfl (OpensF.cons (off1 := 2) (T := .str) (T1 := (.int .i64)) (ok := (fun a : ByteArray => a.size ≤ 140737488351232)) (ok1 := fun a : Int => (Lit.int .i64 a).wf = true) opens9 rfl rfl (OpensF.one (T := (.int .i64)) (ok := (fun a : Int => (Lit.int .i64 a).wf = true)) opens3 rfl))
set_option maxRecDepth 100000 in
theorem opens28 : Opens Tryd.prog 28 (.pair (.int .i64) (.pair (.int .i64) (.pair (.sl (.pair (.int .i64) (.pair (.int .i64) (.pair (.int .i64) (.pair (.int .i64) (.int .i64)))))) (.pair (.int .i64) (.pair .str (.pair .str (.int .i64))))))) (fun s => (((Lit.int .i64 s.1).wf = true) ∧ ((Lit.int .i64 s.2.1).wf = true) ∧ (s.2.2.1.length * 40 ≤ 140737488351232 ∧ ∀ y0 ∈ s.2.2.1, ((Lit.int .i64 y0.1).wf = true) ∧ ((Lit.int .i64 y0.2.1).wf = true) ∧ ((Lit.int .i64 y0.2.2.1).wf = true) ∧ ((Lit.int .i64 y0.2.2.2.1).wf = true) ∧ (Lit.int .i64 y0.2.2.2.2).wf = true) ∧ (Lit.int .i64 s.2.2.2.1).wf = true) ∧ (s.2.2.2.2.1.size ≤ 140737488351232) ∧ (s.2.2.2.2.2.1.size ≤ 140737488351232) ∧ (Lit.int .i64 s.2.2.2.2.2.2).wf = true) := by
  refine Opens.struct (T := (.pair (.int .i64) (.pair (.int .i64) (.pair (.sl (.pair (.int .i64) (.pair (.int .i64) (.pair (.int .i64) (.pair (.int .i64) (.int .i64)))))) (.pair (.int .i64) (.pair .str (.pair .str (.int .i64)))))))) (ok := fun s => (((Lit.int .i64 s.1).wf = true) ∧ ((Lit.int .i64 s.2.1).wf = true) ∧ (s.2.2.1.length * 40 ≤ 140737488351232 ∧ ∀ y0 ∈ s.2.2.1, ((Lit.int .i64 y0.1).wf = true) ∧ ((Lit.int .i64 y0.2.1).wf = true) ∧ ((Lit.int .i64 y0.2.2.1).wf = true) ∧ ((Lit.int .i64 y0.2.2.2.1).wf = true) ∧ (Lit.int .i64 y0.2.2.2.2).wf = true) ∧ (Lit.int .i64 s.2.2.2.1).wf = true) ∧ (s.2.2.2.2.1.size ≤ 140737488351232) ∧ (s.2.2.2.2.2.1.size ≤ 140737488351232) ∧ (Lit.int .i64 s.2.2.2.2.2.2).wf = true) Tryd.underlying28 (by kernel_rfl) ?_
  exact OpensF.flat (T := (.pair (.int .i64) (.pair (.int .i64) (.pair (.sl (.pair (.int .i64) (.pair (.int .i64) (.pair (.int .i64) (.pair (.int .i64) (.int .i64)))))) (.int .i64))))) (C := (.pair .str (.pair .str (.int .i64)))) (ok := fun x : (Int × Int × List (Int × Int × Int × Int × Int) × Int) × (ByteArray × ByteArray × Int) => (((Lit.int .i64 x.1.1).wf = true) ∧ ((Lit.int .i64 x.1.2.1).wf = true) ∧ (x.1.2.2.1.length * 40 ≤ 140737488351232 ∧ ∀ y0 ∈ x.1.2.2.1, ((Lit.int .i64 y0.1).wf = true) ∧ ((Lit.int .i64 y0.2.1).wf = true) ∧ ((Lit.int .i64 y0.2.2.1).wf = true) ∧ ((Lit.int .i64 y0.2.2.2.1).wf = true) ∧ (Lit.int .i64 y0.2.2.2.2).wf = true) ∧ (Lit.int .i64 x.1.2.2.2).wf = true) ∧ (x.2.1.size ≤ 140737488351232) ∧ (x.2.2.1.size ≤ 140737488351232) ∧ (Lit.int .i64 x.2.2.2).wf = true) (OpensF.cons (off1 := 4) (T := (.pair (.int .i64) (.pair (.int .i64) (.pair (.sl (.pair (.int .i64) (.pair (.int .i64) (.pair (.int .i64) (.pair (.int .i64) (.int .i64)))))) (.int .i64))))) (T1 := (.pair .str (.pair .str (.int .i64)))) (ok := (fun a : Int × Int × List (Int × Int × Int × Int × Int) × Int => ((Lit.int .i64 a.1).wf = true) ∧ ((Lit.int .i64 a.2.1).wf = true) ∧ (a.2.2.1.length * 40 ≤ 140737488351232 ∧ ∀ y0 ∈ a.2.2.1, ((Lit.int .i64 y0.1).wf = true) ∧ ((Lit.int .i64 y0.2.1).wf = true) ∧ ((Lit.int .i64 y0.2.2.1).wf = true) ∧ ((Lit.int .i64 y0.2.2.2.1).wf = true) ∧ (Lit.int .i64 y0.2.2.2.2).wf = true) ∧ (Lit.int .i64 a.2.2.2).wf = true)) (ok1 := fun a : ByteArray × ByteArray × Int => (a.1.size ≤ 140737488351232) ∧ (a.2.1.size ≤ 140737488351232) ∧ (Lit.int .i64 a.2.2).wf = true) opens24 rfl rfl (OpensF.one (T := (.pair .str (.pair .str (.int .i64)))) (ok := (fun a : ByteArray × ByteArray × Int => (a.1.size ≤ 140737488351232) ∧ (a.2.1.size ≤ 140737488351232) ∧ (Lit.int .i64 a.2.2).wf = true)) opens26 rfl))
set_option maxRecDepth 100000 in
theorem lifted (os : Os) (started : os.Started) (H : Type) (enc : TypeId × Value → H) :
    ReturnsInHanded {} Tryd.checked os 4 .any (fun w args => (Rows.fnExactFormatConsoleSpec.pre enc Tryd.prog Tryd.f4 Rows.fnExactFormatConsoleRow.domain false w args ∧ laidMetH Tryd.prog Rows.fnExactFormatConsoleRow.laid w) ∧ sizedMet enc Tryd.prog Tryd.f4 (OpenSpec.ofChange Rows.fnExactFormatConsoleSpec) false w args) (Rows.fnExactFormatConsoleSpec.post enc Tryd.prog Tryd.f4 false true false false) := by
  refine returns_laid (C := Tryd.checked) (X := fun w _ => laidMetH Tryd.prog Rows.fnExactFormatConsoleRow.laid w) (fun _ _ _ hh h => h.of_heap hh) own started (by kernel_rfl) Tryd.func4
    (ChangeSpec.witness_shaped (enc := enc) (C := Tryd.checked) (os := os) (X := fun w _ => laidMetH Tryd.prog Rows.fnExactFormatConsoleRow.laid w) false (World.laidAll Tryd.prog os Rows.fnExactFormatConsoleRow.laid) #[.agg #[.int .i64 0, .int .i64 0, .slice none 0 0, .int .i64 0, .string ByteArray.empty, .string ByteArray.empty, .int .i64 0]] 8 (World.laidAll_os _ _ _) (World.shaped_of_ZipB (by kernel_rfl) (by kernel_rfl)) (by kernel_rfl) (by kernel_rfl) (by kernel_rfl)
      (by rw [MakeChecks.laidMetH_plain _ _ _ (by kernel_rfl)]; exact laidMet_laidAll _ (by kernel_rfl) (by kernel_rfl))) ?_
  intro W base args ds gs before hval0 hW hcnd hsz0 hL hsh _
  have hL1 : laidMet Tryd.prog Rows.fnExactFormatConsoleRow.laid W := by rw [MakeChecks.laidMetH_plain _ _ _ (by kernel_rfl)] at hL; exact hL
  have hL2 : Rows.fnExactFormatConsoleRow.laid = [("math/bits.deBruijn32tab", Rows.laid_math_bits_deBruijn32tab), ("math/bits.deBruijn64tab", Rows.laid_math_bits_deBruijn64tab), ("internal/strconv.uint64pow10", Lib.tabData .u64 Lib.pow10Tab)] := by kernel_rfl
  rw [hL2] at hL1
  obtain ⟨g1, g2⟩ := g_of hsh (tab_of hL1.tail.tail)
  have hsz : (DataW.weightsEach Tryd.prog (Tryd.f4.params.toList ++ Rows.fnExactFormatConsoleSpec.plain.varTypes Tryd.prog) (ds ++ gs)).all (· ≤ reachBytes) = true := hsz0
  have hval : ∀ (j : Nat) t v, Tryd.f4.params[j]? = some t → args[j]? = some v → Value.okWide Tryd.prog W .any base t v := hval0
  have hW' := hW
  obtain ⟨p, q, hA0, hV, rfl, hfz, hnd⟩ := hW
  have hA : DataW.TrodAll enc Tryd.prog W 0 (fun _ => true) true Tryd.f4.params.toList args.toList ds p := hA0
  rw [Tryd.params4] at hA hval hsz
  obtain ⟨v0, vs0, d0, ds0, p0, q0, hargs, rfl, rfl, h0, r0⟩ := trodAll_cons hA
  obtain ⟨rfl, rfl, rfl⟩ := trodAll_nil r0
  obtain rfl : args = #[v0] := by cases args; simp_all
  obtain ⟨rfl, rfl⟩ := trodVars_none hV
  have hw0 : ∀ n_ ∈ d0.weights Tryd.prog 28, n_ ≤ 140737488351232 := fun n_ hn_ => of_decide_eq_true (List.all_eq_true.1 hsz n_ (DataW.weights_mem_each (j := 0) rfl rfl n_ hn_))
  have k0 := h0
  have lt0 : ∀ x ∈ p0, x.block < W.heap.size := by obtain ⟨m, hm⟩ := k0; exact DataW.trod_lt m _ _ _ hm
  obtain ⟨cs0, rfl, hz0⟩ := okWide_struct Tryd.underlying28 (hval 0 28 v0 rfl rfl)
  obtain ⟨fu0, hf0⟩ := h0
  obtain ⟨x0, hK0, hok0⟩ := opens28.2 _ _ _ _ _ _ _ _ hf0 hw0
  clear hA0 hval0 hsz0 hsz
  obtain ⟨kr, hr⟩ := pure_holds x0.1 x0.2.1 x0.2.2.1 x0.2.2.2.1 x0.2.2.2.2.1 x0.2.2.2.2.2.1 x0.2.2.2.2.2.2 hok0.1.1 hok0.1.2.1 hok0.1.2.2.1.1 hok0.1.2.2.1.2 hok0.1.2.2.2 hok0.2.1 hok0.2.2.1 hok0.2.2.2
  have hv : VRs (Ctx.law W) W [.agg (leaves (.pair (.int .i64) (.pair (.int .i64) (.pair (.sl (.pair (.int .i64) (.pair (.int .i64) (.pair (.int .i64) (.pair (.int .i64) (.int .i64)))))) (.pair (.int .i64) (.pair .str (.pair .str (.int .i64))))))) x0)] [.agg cs0] := (VRs.cons' (VR.agg' (T := (.pair (.int .i64) (.pair (.int .i64) (.pair (.sl (.pair (.int .i64) (.pair (.int .i64) (.pair (.int .i64) (.pair (.int .i64) (.int .i64)))))) (.pair (.int .i64) (.pair .str (.pair .str (.int .i64)))))))) (x := x0) hK0) VRs.nil')
  have hS : Sound Tryd.prog 4 ⟨[.ag [.d (.int .i64) none, .d (.int .i64) none, .d (.sl (.pair (.int .i64) (.pair (.int .i64) (.pair (.int .i64) (.pair (.int .i64) (.int .i64)))))) none, .d (.int .i64) none, .d .str none, .d .str none, .d (.int .i64) none]], [.d .bool none], fun x => laws_FnExactFormatConsole.f kr x.1 x.2.1 x.2.2.1 x.2.2.2.1 x.2.2.2.2.1 x.2.2.2.2.2.1 x.2.2.2.2.2.2⟩ := laws_FnExactFormatConsole.sound kr
  have hvs : (inVL [.ag [.d (.int .i64) none, .d (.int .i64) none, .d (.sl (.pair (.int .i64) (.pair (.int .i64) (.pair (.int .i64) (.pair (.int .i64) (.int .i64)))))) none, .d (.int .i64) none, .d .str none, .d .str none, .d (.int .i64) none]] (ofRT (tysL [.ag [.d (.int .i64) none, .d (.int .i64) none, .d (.sl (.pair (.int .i64) (.pair (.int .i64) (.pair (.int .i64) (.pair (.int .i64) (.int .i64)))))) none, .d (.int .i64) none, .d .str none, .d .str none, .d (.int .i64) none]]) ((x0.1, x0.2.1, x0.2.2.1, x0.2.2.2.1, x0.2.2.2.2.1, x0.2.2.2.2.2.1, x0.2.2.2.2.2.2) : RT (tysL [.ag [.d (.int .i64) none, .d (.int .i64) none, .d (.sl (.pair (.int .i64) (.pair (.int .i64) (.pair (.int .i64) (.pair (.int .i64) (.int .i64)))))) none, .d (.int .i64) none, .d .str none, .d .str none, .d (.int .i64) none]]))) 0).vs = [.agg (leaves (.pair (.int .i64) (.pair (.int .i64) (.pair (.sl (.pair (.int .i64) (.pair (.int .i64) (.pair (.int .i64) (.pair (.int .i64) (.int .i64)))))) (.pair (.int .i64) (.pair .str (.pair .str (.int .i64))))))) x0)] := by kernel_rfl
  have hhp : (inVL [.ag [.d (.int .i64) none, .d (.int .i64) none, .d (.sl (.pair (.int .i64) (.pair (.int .i64) (.pair (.int .i64) (.pair (.int .i64) (.int .i64)))))) none, .d (.int .i64) none, .d .str none, .d .str none, .d (.int .i64) none]] (ofRT (tysL [.ag [.d (.int .i64) none, .d (.int .i64) none, .d (.sl (.pair (.int .i64) (.pair (.int .i64) (.pair (.int .i64) (.pair (.int .i64) (.int .i64)))))) none, .d (.int .i64) none, .d .str none, .d .str none, .d (.int .i64) none]]) ((x0.1, x0.2.1, x0.2.2.1, x0.2.2.2.1, x0.2.2.2.2.1, x0.2.2.2.2.2.1, x0.2.2.2.2.2.2) : RT (tysL [.ag [.d (.int .i64) none, .d (.int .i64) none, .d (.sl (.pair (.int .i64) (.pair (.int .i64) (.pair (.int .i64) (.pair (.int .i64) (.int .i64)))))) none, .d (.int .i64) none, .d .str none, .d .str none, .d (.int .i64) none]]))) 0).heap = [] := by kernel_rfl
  have hrt : ofRT (tysL ([.d .bool none] ++ flatL (bxsL [.ag [.d (.int .i64) none, .d (.int .i64) none, .d (.sl (.pair (.int .i64) (.pair (.int .i64) (.pair (.int .i64) (.pair (.int .i64) (.int .i64)))))) none, .d (.int .i64) none, .d .str none, .d .str none, .d (.int .i64) none]]))) (true : RT (tysL ([.d .bool none] ++ flatL (bxsL [.ag [.d (.int .i64) none, .d (.int .i64) none, .d (.sl (.pair (.int .i64) (.pair (.int .i64) (.pair (.int .i64) (.pair (.int .i64) (.int .i64)))))) none, .d (.int .i64) none, .d .str none, .d .str none, .d (.int .i64) none]])))) = [⟨.bool, true⟩] := by kernel_rfl
  have hr' : (fun x => laws_FnExactFormatConsole.f kr x.1 x.2.1 x.2.2.1 x.2.2.2.1 x.2.2.2.2.1 x.2.2.2.2.2.1 x.2.2.2.2.2.2 : RT (tysL [.ag [.d (.int .i64) none, .d (.int .i64) none, .d (.sl (.pair (.int .i64) (.pair (.int .i64) (.pair (.int .i64) (.pair (.int .i64) (.int .i64)))))) none, .d (.int .i64) none, .d .str none, .d .str none, .d (.int .i64) none]]) → Option (RT (tysL ([.d .bool none] ++ flatL (bxsL [.ag [.d (.int .i64) none, .d (.int .i64) none, .d (.sl (.pair (.int .i64) (.pair (.int .i64) (.pair (.int .i64) (.pair (.int .i64) (.int .i64)))))) none, .d (.int .i64) none, .d .str none, .d .str none, .d (.int .i64) none]]))))) (x0.1, x0.2.1, x0.2.2.1, x0.2.2.2.1, x0.2.2.2.2.1, x0.2.2.2.2.2.1, x0.2.2.2.2.2.2) = some true := hr
  refine (law_ok hS hr' hrt (by kernel_rfl) hvs hhp hv g1 g2).mono fun e W' ⟨he, bel⟩ => ?_
  subst he
  exact ⟨_, rfl, _, _, _, [], _, [], hW', trodAll_mk1 (shut_bool Tryd.underlying4 _), (trodAll_cons_mk (Below.trod laidOut (by kernel_rfl) (of_decide_eq_true (by kernel_rfl)) k0 bel lt0) trodAll_mk0), rfl, bel.frame _, fun h => by cases h⟩
theorem over : Rows.fnExactFormatConsoleRow.holds Tryd.pinned (OpenSpec.ofChange Rows.fnExactFormatConsoleSpec) :=
  OpenClaim.holds_of_wide 4 Tryd.f4 rfl rfl rfl rfl rfl rfl rfl ⟨rfl, rfl, rfl, rfl, rfl⟩ rfl rfl rfl rfl rfl (by kernel_rfl) Tryd.func4 (by kernel_rfl)
    (of_decide_eq_true (by kernel_rfl)) (by unfold Func.isWrapper; first | (rw [if_pos (by decide +kernel)]; kernel_rfl) | (rw [if_neg (by decide +kernel)]; exact ⟨rfl, rfl⟩))
    (fun os started H enc _ => lifted os started H enc)
theorem proved : Rows.FnExactFormatConsoleSaid := over
theorem carded : Rows.FnExactFormatConsoleCardSaid :=
  Claim7.holds_tied_plain_at .later [] [.data, .data, .data] true (true, "6d6fe864c429775fadf43da9473aea8e70d1577082ce9f90f9169ff22a858774") false proved (fun _ h => by cases h) (by kernel_rfl) (fun _ h => by cases h) fnExactFormatConsole_row_tie rfl ⟨rfl, rfl⟩ (by kernel_rfl) rfl
    (fun f fn hf hfn => by
      obtain rfl : f = 4 := Option.some.inj ((show Tryd.prog.funcNamed Rows.fnExactFormatConsoleRow.func = some 4 by kernel_rfl).symm.trans hf) |>.symm
      obtain rfl : fn = Tryd.f4 := (Option.some.inj (Tryd.func4.symm.trans hfn)).symm
      exact ⟨by kernel_rfl, fun j t ht => by
        rw [Tryd.params4] at ht
        have hm : t ∈ [28] := by simpa using Array.mem_of_getElem? ht
        have hall : ([28].all fun u => !Tryd.prog.wantsStandIn u) = true := by kernel_rfl
        exact (show Tryd.prog.wantsStandIn t = false by simpa using List.all_eq_true.1 hall t hm)⟩)
    (by kernel_rfl)
#print axioms carded
end Go.Proofs.YtiacidpjplmgaaaDoor.fnExactFormatConsole
namespace Go.Proofs.YtiacidpjplmgaaaDoor
/-- The card, under a short name, for the claim. -/
theorem fnExactFormatConsole_holds : Rows.FnExactFormatConsoleCardSaid := fnExactFormatConsole.carded
end Go.Proofs.YtiacidpjplmgaaaDoor
