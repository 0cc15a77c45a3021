-- Printed by this session's own program (wip/deep/drow.py); Lean checks it.
import Derived.Test.YtiacidpjplmgaaaGreatDoorTie
import Derived.Test.YtiacidpjplmgaaaGreatDoorCards
import Derived.Test.YtiacidpjplmgaaaGreatDoorRows
import Derived.Test.YtiacidpjplmgaaaGreatDoorPureFnExactExecuteCommand
import Derived.WalkKit
import Derived.ProofKit
import Derived.OpenShut
import Derived.ShutString
import Derived.ChangeOld
import Derived.Below
import Derived.SizedLaws
import Derived.ChangeSlices
import Derived.Carry
import Derived.LaidMore
import Derived.Lay
import Derived.LaidOnce
import Derived.SevenTiedAt
import Derived.LaidLaws
import Derived.LaidHandle
namespace Go.Proofs.YtiacidpjplmgaaaGreatDoor.fnExactExecuteCommand
open Go.ChangeShapes Go.WideShapes Go.ChangeAt Go.RowKit Go.Proofs.YtiacidpjplmgaaaGreatDoor Go.Proofs.YtiacidpjplmgaaaGreatDoor.DFnExactExecuteCommand Go.Proofs.YtiacidpjplmgaaaGreatDoorD
open Go.ChangeMaps (open_string shut_string)
set_option linter.unusedVariables false
theorem own : ownKnob Tryz.prog.godebug = none := by kernel_rfl
theorem laidOut : laidOutB Tryz.prog = true := by kernel_rfl
theorem opens3 : Opens Tryz.prog 3 (.int .i64) (fun s => (Lit.int .i64 s).wf = true) := Opens.int Tryz.underlying3 (by kernel_rfl)
set_option maxRecDepth 100000 in
theorem opens165 : Opens Tryz.prog 165 (.pair (.int .i64) (.pair (.int .i64) (.pair (.int .i64) (.pair (.int .i64) (.int .i64))))) (fun s => ((Lit.int .i64 s.1).wf = true) ∧ ((Lit.int .i64 s.2.1).wf = true) ∧ ((Lit.int .i64 s.2.2.1).wf = true) ∧ ((Lit.int .i64 s.2.2.2.1).wf = true) ∧ (Lit.int .i64 s.2.2.2.2).wf = true) := by
  refine Opens.struct (T := (.pair (.int .i64) (.pair (.int .i64) (.pair (.int .i64) (.pair (.int .i64) (.int .i64)))))) (ok := fun s => ((Lit.int .i64 s.1).wf = true) ∧ ((Lit.int .i64 s.2.1).wf = true) ∧ ((Lit.int .i64 s.2.2.1).wf = true) ∧ ((Lit.int .i64 s.2.2.2.1).wf = true) ∧ (Lit.int .i64 s.2.2.2.2).wf = true) Tryz.underlying165 (by kernel_rfl) ?_
  exact OpensF.cons (off1 := 1) (T := (.int .i64)) (T1 := (.pair (.int .i64) (.pair (.int .i64) (.pair (.int .i64) (.int .i64))))) (ok := (fun a : Int => (Lit.int .i64 a).wf = true)) (ok1 := fun a : Int × Int × Int × Int => ((Lit.int .i64 a.1).wf = true) ∧ ((Lit.int .i64 a.2.1).wf = true) ∧ ((Lit.int .i64 a.2.2.1).wf = true) ∧ (Lit.int .i64 a.2.2.2).wf = true) opens3 rfl rfl (OpensF.cons (off1 := 2) (T := (.int .i64)) (T1 := (.pair (.int .i64) (.pair (.int .i64) (.int .i64)))) (ok := (fun a : Int => (Lit.int .i64 a).wf = true)) (ok1 := fun a : Int × Int × Int => ((Lit.int .i64 a.1).wf = true) ∧ ((Lit.int .i64 a.2.1).wf = true) ∧ (Lit.int .i64 a.2.2).wf = true) opens3 rfl rfl (OpensF.cons (off1 := 3) (T := (.int .i64)) (T1 := (.pair (.int .i64) (.int .i64))) (ok := (fun a : Int => (Lit.int .i64 a).wf = true)) (ok1 := fun a : Int × Int => ((Lit.int .i64 a.1).wf = true) ∧ (Lit.int .i64 a.2).wf = true) opens3 rfl rfl (OpensF.cons (off1 := 4) (T := (.int .i64)) (T1 := (.int .i64)) (ok := (fun a : Int => (Lit.int .i64 a).wf = true)) (ok1 := fun a : Int => (Lit.int .i64 a).wf = true) opens3 rfl rfl (OpensF.one (T := (.int .i64)) (ok := (fun a : Int => (Lit.int .i64 a).wf = true)) opens3 rfl))))
theorem opens30 : Opens Tryz.prog 30 (.sl (.pair (.int .i64) (.pair (.int .i64) (.pair (.int .i64) (.pair (.int .i64) (.int .i64)))))) (fun s => s.length * 40 ≤ 140737488351232 ∧ ∀ y0 ∈ s, ((Lit.int .i64 y0.1).wf = true) ∧ ((Lit.int .i64 y0.2.1).wf = true) ∧ ((Lit.int .i64 y0.2.2.1).wf = true) ∧ ((Lit.int .i64 y0.2.2.2.1).wf = true) ∧ (Lit.int .i64 y0.2.2.2.2).wf = true) := Opens.slice (T := (.pair (.int .i64) (.pair (.int .i64) (.pair (.int .i64) (.pair (.int .i64) (.int .i64)))))) (ok := fun s => ((Lit.int .i64 s.1).wf = true) ∧ ((Lit.int .i64 s.2.1).wf = true) ∧ ((Lit.int .i64 s.2.2.1).wf = true) ∧ ((Lit.int .i64 s.2.2.2.1).wf = true) ∧ (Lit.int .i64 s.2.2.2.2).wf = true) Tryz.underlying30 (by kernel_rfl) opens165 40 (by kernel_rfl)
set_option maxRecDepth 100000 in
theorem opens32 : Opens Tryz.prog 32 (.pair (.int .i64) (.pair (.int .i64) (.pair (.sl (.pair (.int .i64) (.pair (.int .i64) (.pair (.int .i64) (.pair (.int .i64) (.int .i64)))))) (.int .i64)))) (fun s => ((Lit.int .i64 s.1).wf = true) ∧ ((Lit.int .i64 s.2.1).wf = true) ∧ (s.2.2.1.length * 40 ≤ 140737488351232 ∧ ∀ y0 ∈ s.2.2.1, ((Lit.int .i64 y0.1).wf = true) ∧ ((Lit.int .i64 y0.2.1).wf = true) ∧ ((Lit.int .i64 y0.2.2.1).wf = true) ∧ ((Lit.int .i64 y0.2.2.2.1).wf = true) ∧ (Lit.int .i64 y0.2.2.2.2).wf = true) ∧ (Lit.int .i64 s.2.2.2).wf = true) := by
  refine Opens.struct (T := (.pair (.int .i64) (.pair (.int .i64) (.pair (.sl (.pair (.int .i64) (.pair (.int .i64) (.pair (.int .i64) (.pair (.int .i64) (.int .i64)))))) (.int .i64))))) (ok := fun s => ((Lit.int .i64 s.1).wf = true) ∧ ((Lit.int .i64 s.2.1).wf = true) ∧ (s.2.2.1.length * 40 ≤ 140737488351232 ∧ ∀ y0 ∈ s.2.2.1, ((Lit.int .i64 y0.1).wf = true) ∧ ((Lit.int .i64 y0.2.1).wf = true) ∧ ((Lit.int .i64 y0.2.2.1).wf = true) ∧ ((Lit.int .i64 y0.2.2.2.1).wf = true) ∧ (Lit.int .i64 y0.2.2.2.2).wf = true) ∧ (Lit.int .i64 s.2.2.2).wf = true) Tryz.underlying32 (by kernel_rfl) ?_
  exact OpensF.cons (off1 := 1) (T := (.int .i64)) (T1 := (.pair (.int .i64) (.pair (.sl (.pair (.int .i64) (.pair (.int .i64) (.pair (.int .i64) (.pair (.int .i64) (.int .i64)))))) (.int .i64)))) (ok := (fun a : Int => (Lit.int .i64 a).wf = true)) (ok1 := fun a : Int × List (Int × Int × Int × Int × Int) × Int => ((Lit.int .i64 a.1).wf = true) ∧ (a.2.1.length * 40 ≤ 140737488351232 ∧ ∀ y0 ∈ a.2.1, ((Lit.int .i64 y0.1).wf = true) ∧ ((Lit.int .i64 y0.2.1).wf = true) ∧ ((Lit.int .i64 y0.2.2.1).wf = true) ∧ ((Lit.int .i64 y0.2.2.2.1).wf = true) ∧ (Lit.int .i64 y0.2.2.2.2).wf = true) ∧ (Lit.int .i64 a.2.2).wf = true) opens3 rfl rfl (OpensF.cons (off1 := 2) (T := (.int .i64)) (T1 := (.pair (.sl (.pair (.int .i64) (.pair (.int .i64) (.pair (.int .i64) (.pair (.int .i64) (.int .i64)))))) (.int .i64))) (ok := (fun a : Int => (Lit.int .i64 a).wf = true)) (ok1 := fun a : List (Int × Int × Int × Int × Int) × Int => (a.1.length * 40 ≤ 140737488351232 ∧ ∀ y0 ∈ a.1, ((Lit.int .i64 y0.1).wf = true) ∧ ((Lit.int .i64 y0.2.1).wf = true) ∧ ((Lit.int .i64 y0.2.2.1).wf = true) ∧ ((Lit.int .i64 y0.2.2.2.1).wf = true) ∧ (Lit.int .i64 y0.2.2.2.2).wf = true) ∧ (Lit.int .i64 a.2).wf = true) opens3 rfl rfl (OpensF.cons (off1 := 3) (T := (.sl (.pair (.int .i64) (.pair (.int .i64) (.pair (.int .i64) (.pair (.int .i64) (.int .i64))))))) (T1 := (.int .i64)) (ok := (fun a : List (Int × Int × Int × Int × Int) => a.length * 40 ≤ 140737488351232 ∧ ∀ y0 ∈ a, ((Lit.int .i64 y0.1).wf = true) ∧ ((Lit.int .i64 y0.2.1).wf = true) ∧ ((Lit.int .i64 y0.2.2.1).wf = true) ∧ ((Lit.int .i64 y0.2.2.2.1).wf = true) ∧ (Lit.int .i64 y0.2.2.2.2).wf = true)) (ok1 := fun a : Int => (Lit.int .i64 a).wf = true) opens30 rfl rfl (OpensF.one (T := (.int .i64)) (ok := (fun a : Int => (Lit.int .i64 a).wf = true)) opens3 rfl)))
theorem opens9 : Opens Tryz.prog 9 .str (fun s => s.size ≤ 140737488351232) := Opens.string Tryz.underlying9 (by kernel_rfl)
set_option maxRecDepth 100000 in
theorem opens23 : Opens Tryz.prog 23 (.pair .str (.pair .str (.int .i64))) (fun s => (s.1.size ≤ 140737488351232) ∧ (s.2.1.size ≤ 140737488351232) ∧ (Lit.int .i64 s.2.2).wf = true) := by
  refine Opens.struct (T := (.pair .str (.pair .str (.int .i64)))) (ok := fun s => (s.1.size ≤ 140737488351232) ∧ (s.2.1.size ≤ 140737488351232) ∧ (Lit.int .i64 s.2.2).wf = true) Tryz.underlying23 (by kernel_rfl) ?_
  exact OpensF.cons (off1 := 1) (T := .str) (T1 := (.pair .str (.int .i64))) (ok := (fun a : ByteArray => a.size ≤ 140737488351232)) (ok1 := fun a : ByteArray × Int => (a.1.size ≤ 140737488351232) ∧ (Lit.int .i64 a.2).wf = true) opens9 rfl rfl (OpensF.cons (off1 := 2) (T := .str) (T1 := (.int .i64)) (ok := (fun a : ByteArray => a.size ≤ 140737488351232)) (ok1 := fun a : Int => (Lit.int .i64 a).wf = true) opens9 rfl rfl (OpensF.one (T := (.int .i64)) (ok := (fun a : Int => (Lit.int .i64 a).wf = true)) opens3 rfl))
set_option maxRecDepth 100000 in
theorem opens34 : Opens Tryz.prog 34 (.pair (.int .i64) (.pair (.int .i64) (.pair (.sl (.pair (.int .i64) (.pair (.int .i64) (.pair (.int .i64) (.pair (.int .i64) (.int .i64)))))) (.pair (.int .i64) (.pair .str (.pair .str (.int .i64))))))) (fun s => (((Lit.int .i64 s.1).wf = true) ∧ ((Lit.int .i64 s.2.1).wf = true) ∧ (s.2.2.1.length * 40 ≤ 140737488351232 ∧ ∀ y0 ∈ s.2.2.1, ((Lit.int .i64 y0.1).wf = true) ∧ ((Lit.int .i64 y0.2.1).wf = true) ∧ ((Lit.int .i64 y0.2.2.1).wf = true) ∧ ((Lit.int .i64 y0.2.2.2.1).wf = true) ∧ (Lit.int .i64 y0.2.2.2.2).wf = true) ∧ (Lit.int .i64 s.2.2.2.1).wf = true) ∧ (s.2.2.2.2.1.size ≤ 140737488351232) ∧ (s.2.2.2.2.2.1.size ≤ 140737488351232) ∧ (Lit.int .i64 s.2.2.2.2.2.2).wf = true) := by
  refine Opens.struct (T := (.pair (.int .i64) (.pair (.int .i64) (.pair (.sl (.pair (.int .i64) (.pair (.int .i64) (.pair (.int .i64) (.pair (.int .i64) (.int .i64)))))) (.pair (.int .i64) (.pair .str (.pair .str (.int .i64)))))))) (ok := fun s => (((Lit.int .i64 s.1).wf = true) ∧ ((Lit.int .i64 s.2.1).wf = true) ∧ (s.2.2.1.length * 40 ≤ 140737488351232 ∧ ∀ y0 ∈ s.2.2.1, ((Lit.int .i64 y0.1).wf = true) ∧ ((Lit.int .i64 y0.2.1).wf = true) ∧ ((Lit.int .i64 y0.2.2.1).wf = true) ∧ ((Lit.int .i64 y0.2.2.2.1).wf = true) ∧ (Lit.int .i64 y0.2.2.2.2).wf = true) ∧ (Lit.int .i64 s.2.2.2.1).wf = true) ∧ (s.2.2.2.2.1.size ≤ 140737488351232) ∧ (s.2.2.2.2.2.1.size ≤ 140737488351232) ∧ (Lit.int .i64 s.2.2.2.2.2.2).wf = true) Tryz.underlying34 (by kernel_rfl) ?_
  exact OpensF.flat (T := (.pair (.int .i64) (.pair (.int .i64) (.pair (.sl (.pair (.int .i64) (.pair (.int .i64) (.pair (.int .i64) (.pair (.int .i64) (.int .i64)))))) (.int .i64))))) (C := (.pair .str (.pair .str (.int .i64)))) (ok := fun x : (Int × Int × List (Int × Int × Int × Int × Int) × Int) × (ByteArray × ByteArray × Int) => (((Lit.int .i64 x.1.1).wf = true) ∧ ((Lit.int .i64 x.1.2.1).wf = true) ∧ (x.1.2.2.1.length * 40 ≤ 140737488351232 ∧ ∀ y0 ∈ x.1.2.2.1, ((Lit.int .i64 y0.1).wf = true) ∧ ((Lit.int .i64 y0.2.1).wf = true) ∧ ((Lit.int .i64 y0.2.2.1).wf = true) ∧ ((Lit.int .i64 y0.2.2.2.1).wf = true) ∧ (Lit.int .i64 y0.2.2.2.2).wf = true) ∧ (Lit.int .i64 x.1.2.2.2).wf = true) ∧ (x.2.1.size ≤ 140737488351232) ∧ (x.2.2.1.size ≤ 140737488351232) ∧ (Lit.int .i64 x.2.2.2).wf = true) (OpensF.cons (off1 := 4) (T := (.pair (.int .i64) (.pair (.int .i64) (.pair (.sl (.pair (.int .i64) (.pair (.int .i64) (.pair (.int .i64) (.pair (.int .i64) (.int .i64)))))) (.int .i64))))) (T1 := (.pair .str (.pair .str (.int .i64)))) (ok := (fun a : Int × Int × List (Int × Int × Int × Int × Int) × Int => ((Lit.int .i64 a.1).wf = true) ∧ ((Lit.int .i64 a.2.1).wf = true) ∧ (a.2.2.1.length * 40 ≤ 140737488351232 ∧ ∀ y0 ∈ a.2.2.1, ((Lit.int .i64 y0.1).wf = true) ∧ ((Lit.int .i64 y0.2.1).wf = true) ∧ ((Lit.int .i64 y0.2.2.1).wf = true) ∧ ((Lit.int .i64 y0.2.2.2.1).wf = true) ∧ (Lit.int .i64 y0.2.2.2.2).wf = true) ∧ (Lit.int .i64 a.2.2.2).wf = true)) (ok1 := fun a : ByteArray × ByteArray × Int => (a.1.size ≤ 140737488351232) ∧ (a.2.1.size ≤ 140737488351232) ∧ (Lit.int .i64 a.2.2).wf = true) opens32 rfl rfl (OpensF.one (T := (.pair .str (.pair .str (.int .i64)))) (ok := (fun a : ByteArray × ByteArray × Int => (a.1.size ≤ 140737488351232) ∧ (a.2.1.size ≤ 140737488351232) ∧ (Lit.int .i64 a.2.2).wf = true)) opens23 rfl))
set_option maxRecDepth 100000 in
theorem lifted (os : Os) (started : os.Started) (H : Type) (enc : TypeId × Value → H) :
    ReturnsInHanded {} Tryz.checked os 4 .any (fun w args => (Rows.fnExactExecuteCommandSpec.pre enc Tryz.prog Tryz.f4 Rows.fnExactExecuteCommandRow.domain false w args ∧ laidMetH Tryz.prog Rows.fnExactExecuteCommandRow.laid w) ∧ sizedMet enc Tryz.prog Tryz.f4 (OpenSpec.ofChange Rows.fnExactExecuteCommandSpec) false w args) (Rows.fnExactExecuteCommandSpec.post enc Tryz.prog Tryz.f4 false true false false) := by
  refine returns_laid (C := Tryz.checked) (X := fun w _ => laidMetH Tryz.prog Rows.fnExactExecuteCommandRow.laid w) (fun _ _ _ hh h => h.of_heap hh) own started (by kernel_rfl) Tryz.func4
    (ChangeSpec.witness_shaped (enc := enc) (C := Tryz.checked) (os := os) (X := fun w _ => laidMetH Tryz.prog Rows.fnExactExecuteCommandRow.laid w) false (World.laidAll Tryz.prog os Rows.fnExactExecuteCommandRow.laid) #[.agg #[.int .i64 0, .int .i64 0, .slice none 0 0, .int .i64 0, .string ByteArray.empty, .string ByteArray.empty, .int .i64 0], .string ByteArray.empty] 8 (World.laidAll_os _ _ _) (World.shaped_of_ZipB (by kernel_rfl) (by kernel_rfl)) (by kernel_rfl) (by kernel_rfl) (by kernel_rfl)
      (by rw [MakeChecks.laidMetH_plain _ _ _ (by kernel_rfl)]; exact laidMet_laidAll _ (by kernel_rfl) (by kernel_rfl))) ?_
  intro W base args ds gs before hval0 hW hcnd hsz0 hL hsh _
  have hL1 : laidMet Tryz.prog Rows.fnExactExecuteCommandRow.laid W := by rw [MakeChecks.laidMetH_plain _ _ _ (by kernel_rfl)] at hL; exact hL
  have hL2 : Rows.fnExactExecuteCommandRow.laid = [("math/bits.deBruijn32tab", Rows.laid_math_bits_deBruijn32tab), ("math/bits.deBruijn64tab", Rows.laid_math_bits_deBruijn64tab), ("internal/strconv.uint64pow10", Lib.tabData .u64 Lib.pow10Tab), ("unicode/utf8.acceptRanges", Rows.laid_unicode_utf8_acceptRanges), ("strconv.ErrRange", Rows.laid_strconv_ErrRange), ("strconv.ErrSyntax", Rows.laid_strconv_ErrSyntax), ("unicode/utf8.first", Rows.laid_unicode_utf8_first)] := by kernel_rfl
  rw [hL2] at hL1
  obtain ⟨g1, g2⟩ := g_of hsh (tab_of hL1.tail.tail) (err0_of hL1.tail.tail.tail.tail.tail) (err1_of hL1.tail.tail.tail.tail)
  have hsz : (DataW.weightsEach Tryz.prog (Tryz.f4.params.toList ++ Rows.fnExactExecuteCommandSpec.plain.varTypes Tryz.prog) (ds ++ gs)).all (· ≤ reachBytes) = true := hsz0
  have hval : ∀ (j : Nat) t v, Tryz.f4.params[j]? = some t → args[j]? = some v → Value.okWide Tryz.prog W .any base t v := hval0
  have hW' := hW
  obtain ⟨p, q, hA0, hV, rfl, hfz, hnd⟩ := hW
  have hA : DataW.TrodAll enc Tryz.prog W 0 (fun _ => true) true Tryz.f4.params.toList args.toList ds p := hA0
  rw [Tryz.params4] at hA hval hsz
  obtain ⟨v0, vs0, d0, ds0, p0, q0, hargs, rfl, rfl, h0, r0⟩ := trodAll_cons hA
  obtain ⟨v1, vs1, d1, ds1, p1, q1, rfl, rfl, rfl, h1, r1⟩ := trodAll_cons r0
  obtain ⟨rfl, rfl, rfl⟩ := trodAll_nil r1
  obtain rfl : args = #[v0, v1] := by cases args; simp_all
  obtain ⟨rfl, rfl⟩ := trodVars_none hV
  have hw0 : ∀ n_ ∈ d0.weights Tryz.prog 34, n_ ≤ 140737488351232 := fun n_ hn_ => of_decide_eq_true (List.all_eq_true.1 hsz n_ (DataW.weights_mem_each (j := 0) rfl rfl n_ hn_))
  have k0 := h0
  have lt0 : ∀ x ∈ p0, x.block < W.heap.size := by obtain ⟨m, hm⟩ := k0; exact DataW.trod_lt m _ _ _ hm
  obtain ⟨cs0, rfl, hz0⟩ := okWide_struct Tryz.underlying34 (hval 0 34 v0 rfl rfl)
  obtain ⟨fu0, hf0⟩ := h0
  obtain ⟨x0, hK0, hok0⟩ := opens34.2 _ _ _ _ _ _ _ _ hf0 hw0
  obtain ⟨a1, rfl, rfl, rfl, y1⟩ := open_string Tryz.underlying9 (hval 1 9 v1 rfl rfl) h1
  have hok1 : a1.size ≤ 140737488351232 := by
    have z := sized_string hsz (j := 1) (t := 9) rfl rfl
    rw [Array.length_toList] at z
    exact z
  clear hA0 hval0 hsz0 hsz
  obtain ⟨kr, hr⟩ := pure_holds x0.1 x0.2.1 x0.2.2.1 x0.2.2.2.1 x0.2.2.2.2.1 x0.2.2.2.2.2.1 x0.2.2.2.2.2.2 a1 hok0.1.1 hok0.1.2.1 hok0.1.2.2.1.1 hok0.1.2.2.1.2 hok0.1.2.2.2 hok0.2.1 hok0.2.2.1 hok0.2.2.2 hok1
  have hv : VRs (Ctx.law W) W [.agg (leaves (.pair (.int .i64) (.pair (.int .i64) (.pair (.sl (.pair (.int .i64) (.pair (.int .i64) (.pair (.int .i64) (.pair (.int .i64) (.int .i64)))))) (.pair (.int .i64) (.pair .str (.pair .str (.int .i64))))))) x0), .val .str a1] [.agg cs0, .string a1] := (VRs.cons' (VR.agg' (T := (.pair (.int .i64) (.pair (.int .i64) (.pair (.sl (.pair (.int .i64) (.pair (.int .i64) (.pair (.int .i64) (.pair (.int .i64) (.int .i64)))))) (.pair (.int .i64) (.pair .str (.pair .str (.int .i64)))))))) (x := x0) hK0) (VRs.cons' (VR.val' (T := .str) (x := a1) rfl) VRs.nil'))
  have hS : Sound Tryz.prog 4 ⟨[.ag [.d (.int .i64) none, .d (.int .i64) none, .d (.sl (.pair (.int .i64) (.pair (.int .i64) (.pair (.int .i64) (.pair (.int .i64) (.int .i64)))))) none, .d (.int .i64) none, .d .str none, .d .str none, .d (.int .i64) none], .d .str none], [.d .bool none], fun x => laws_FnExactExecuteCommand.f kr x.1 x.2.1 x.2.2.1 x.2.2.2.1 x.2.2.2.2.1 x.2.2.2.2.2.1 x.2.2.2.2.2.2.1 x.2.2.2.2.2.2.2⟩ := laws_FnExactExecuteCommand.sound kr
  have hvs : (inVL [.ag [.d (.int .i64) none, .d (.int .i64) none, .d (.sl (.pair (.int .i64) (.pair (.int .i64) (.pair (.int .i64) (.pair (.int .i64) (.int .i64)))))) none, .d (.int .i64) none, .d .str none, .d .str none, .d (.int .i64) none], .d .str none] (ofRT (tysL [.ag [.d (.int .i64) none, .d (.int .i64) none, .d (.sl (.pair (.int .i64) (.pair (.int .i64) (.pair (.int .i64) (.pair (.int .i64) (.int .i64)))))) none, .d (.int .i64) none, .d .str none, .d .str none, .d (.int .i64) none], .d .str none]) ((x0.1, x0.2.1, x0.2.2.1, x0.2.2.2.1, x0.2.2.2.2.1, x0.2.2.2.2.2.1, x0.2.2.2.2.2.2, a1) : RT (tysL [.ag [.d (.int .i64) none, .d (.int .i64) none, .d (.sl (.pair (.int .i64) (.pair (.int .i64) (.pair (.int .i64) (.pair (.int .i64) (.int .i64)))))) none, .d (.int .i64) none, .d .str none, .d .str none, .d (.int .i64) none], .d .str none]))) 0).vs = [.agg (leaves (.pair (.int .i64) (.pair (.int .i64) (.pair (.sl (.pair (.int .i64) (.pair (.int .i64) (.pair (.int .i64) (.pair (.int .i64) (.int .i64)))))) (.pair (.int .i64) (.pair .str (.pair .str (.int .i64))))))) x0), .val .str a1] := by kernel_rfl
  have hhp : (inVL [.ag [.d (.int .i64) none, .d (.int .i64) none, .d (.sl (.pair (.int .i64) (.pair (.int .i64) (.pair (.int .i64) (.pair (.int .i64) (.int .i64)))))) none, .d (.int .i64) none, .d .str none, .d .str none, .d (.int .i64) none], .d .str none] (ofRT (tysL [.ag [.d (.int .i64) none, .d (.int .i64) none, .d (.sl (.pair (.int .i64) (.pair (.int .i64) (.pair (.int .i64) (.pair (.int .i64) (.int .i64)))))) none, .d (.int .i64) none, .d .str none, .d .str none, .d (.int .i64) none], .d .str none]) ((x0.1, x0.2.1, x0.2.2.1, x0.2.2.2.1, x0.2.2.2.2.1, x0.2.2.2.2.2.1, x0.2.2.2.2.2.2, a1) : RT (tysL [.ag [.d (.int .i64) none, .d (.int .i64) none, .d (.sl (.pair (.int .i64) (.pair (.int .i64) (.pair (.int .i64) (.pair (.int .i64) (.int .i64)))))) none, .d (.int .i64) none, .d .str none, .d .str none, .d (.int .i64) none], .d .str none]))) 0).heap = [] := by kernel_rfl
  have hrt : ofRT (tysL ([.d .bool none] ++ flatL (bxsL [.ag [.d (.int .i64) none, .d (.int .i64) none, .d (.sl (.pair (.int .i64) (.pair (.int .i64) (.pair (.int .i64) (.pair (.int .i64) (.int .i64)))))) none, .d (.int .i64) none, .d .str none, .d .str none, .d (.int .i64) none], .d .str none]))) (true : RT (tysL ([.d .bool none] ++ flatL (bxsL [.ag [.d (.int .i64) none, .d (.int .i64) none, .d (.sl (.pair (.int .i64) (.pair (.int .i64) (.pair (.int .i64) (.pair (.int .i64) (.int .i64)))))) none, .d (.int .i64) none, .d .str none, .d .str none, .d (.int .i64) none], .d .str none])))) = [⟨.bool, true⟩] := by kernel_rfl
  have hr' : (fun x => laws_FnExactExecuteCommand.f kr x.1 x.2.1 x.2.2.1 x.2.2.2.1 x.2.2.2.2.1 x.2.2.2.2.2.1 x.2.2.2.2.2.2.1 x.2.2.2.2.2.2.2 : RT (tysL [.ag [.d (.int .i64) none, .d (.int .i64) none, .d (.sl (.pair (.int .i64) (.pair (.int .i64) (.pair (.int .i64) (.pair (.int .i64) (.int .i64)))))) none, .d (.int .i64) none, .d .str none, .d .str none, .d (.int .i64) none], .d .str none]) → Option (RT (tysL ([.d .bool none] ++ flatL (bxsL [.ag [.d (.int .i64) none, .d (.int .i64) none, .d (.sl (.pair (.int .i64) (.pair (.int .i64) (.pair (.int .i64) (.pair (.int .i64) (.int .i64)))))) none, .d (.int .i64) none, .d .str none, .d .str none, .d (.int .i64) none], .d .str none]))))) (x0.1, x0.2.1, x0.2.2.1, x0.2.2.2.1, x0.2.2.2.2.1, x0.2.2.2.2.2.1, x0.2.2.2.2.2.2, a1) = some true := hr
  refine (law_ok hS hr' hrt (by kernel_rfl) hvs hhp hv g1 g2).mono fun e W' ⟨he, bel⟩ => ?_
  subst he
  exact ⟨_, rfl, _, _, _, [], _, [], hW', trodAll_mk1 (shut_bool Tryz.underlying4 _), (trodAll_cons_mk (Below.trod laidOut (by kernel_rfl) (of_decide_eq_true (by kernel_rfl)) k0 bel lt0) (trodAll_cons_mk (shut_string Tryz.underlying9 y1) trodAll_mk0)), rfl, bel.frame _, fun h => by cases h⟩
theorem over : Rows.fnExactExecuteCommandRow.holds Tryz.pinned (OpenSpec.ofChange Rows.fnExactExecuteCommandSpec) :=
  OpenClaim.holds_of_wide 4 Tryz.f4 rfl rfl rfl rfl rfl rfl rfl ⟨rfl, rfl, rfl, rfl, rfl⟩ rfl rfl rfl rfl rfl (by kernel_rfl) Tryz.func4 (by kernel_rfl)
    (of_decide_eq_true (by kernel_rfl)) (by unfold Func.isWrapper; first | (rw [if_pos (by decide +kernel)]; kernel_rfl) | (rw [if_neg (by decide +kernel)]; exact ⟨rfl, rfl⟩))
    (fun os started H enc _ => lifted os started H enc)
theorem proved : Rows.FnExactExecuteCommandSaid := over
theorem carded : Rows.FnExactExecuteCommandCardSaid :=
  Claim7.holds_tied_plain_at .later [] [.data, .data, .data, .data, .sentinel, .sentinel, .pinned] true (true, "8eb5b9420a65e22456ec8d4e0dd9fed5793aad1b78370baed74e63349c94ca5e") true proved (fun _ h => by cases h) (by kernel_rfl) (fun _ h => by cases h) fnExactExecuteCommand_row_tie rfl ⟨rfl, rfl⟩ (by kernel_rfl) rfl
    (fun f fn hf hfn => by
      obtain rfl : f = 4 := Option.some.inj ((show Tryz.prog.funcNamed Rows.fnExactExecuteCommandRow.func = some 4 by kernel_rfl).symm.trans hf) |>.symm
      obtain rfl : fn = Tryz.f4 := (Option.some.inj (Tryz.func4.symm.trans hfn)).symm
      exact ⟨by kernel_rfl, fun j t ht => by
        rw [Tryz.params4] at ht
        have hm : t ∈ [34, 9] := by simpa using Array.mem_of_getElem? ht
        have hall : ([34, 9].all fun u => !Tryz.prog.wantsStandIn u) = true := by kernel_rfl
        exact (show Tryz.prog.wantsStandIn t = false by simpa using List.all_eq_true.1 hall t hm)⟩)
    (by kernel_rfl)
#print axioms carded
end Go.Proofs.YtiacidpjplmgaaaGreatDoor.fnExactExecuteCommand
namespace Go.Proofs.YtiacidpjplmgaaaGreatDoor
/-- The card, under a short name, for the claim. -/
theorem fnExactExecuteCommand_holds : Rows.FnExactExecuteCommandCardSaid := fnExactExecuteCommand.carded
end Go.Proofs.YtiacidpjplmgaaaGreatDoor
