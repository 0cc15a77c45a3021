-- Printed by this session's own program (wip/tool/myprint.py, over the kit's print); Lean checks it.
import Derived.Test.YtahglcpndiadnaaRows
import Derived.Test.YtahglcpndiadnaaOpen
import Derived.Test.YtahglcpndiadnaaPFnExactRunShopx13
import Derived.Test.YtahglcpndiadnaaPureFnExactRunShop
import Derived.WalkKit
import Derived.ProofKit
import Derived.OpenShut
import Derived.ShutString
import Derived.ChangeOld
import Derived.Below
import Derived.SizedLaws
import Derived.ChangeSlices
import Derived.Carry
namespace Go.Proofs.Ytahglcpndiadnaa.fnExactRunShop
open Go.ChangeShapes Go.WideShapes Go.ChangeAt Go.RowKit Go.Proofs.Ytahglcpndiadnaa Go.Proofs.Ytahglcpndiadnaa.PFnExactRunShop Go.Proofs.YtahglcpndiadnaaW.PrintWords Go.Proofs.YtahglcpndiadnaaW.PrintLast Go.Proofs.YtahglcpndiadnaaOpen
open Go.ChangeMaps (open_string shut_string)
set_option linter.unusedVariables false
theorem own : ownKnob Try.prog.godebug = none := by kernel_rfl
theorem laidOut : laidOutB Try.prog = true := by kernel_rfl
theorem cells38 : Try.prog.cellsOf 38 = 4 := by kernel_rfl
theorem cells3 : Try.prog.cellsOf 3 = 1 := by kernel_rfl
theorem opens3 : Opens Try.prog 3 (Kd.int .i64) (fun s => (Lit.int .i64 s).wf = true) := Opens.int Try.underlying3 cells3
theorem cells36 : Try.prog.cellsOf 36 = 1 := by kernel_rfl
theorem cells143 : Try.prog.cellsOf 143 = 5 := by kernel_rfl
theorem sz143 : ((Kd.pair (Kd.int .i64) (Kd.pair (Kd.int .i64) (Kd.pair (Kd.int .i64) (Kd.pair (Kd.int .i64) (Kd.int .i64)))))).sz = Try.prog.cellsOf 143 := by kernel_rfl
theorem opens143 : Opens Try.prog 143 k143 (fun s => ((Lit.int .i64 s.f0).wf = true) ∧ ((Lit.int .i64 s.f1).wf = true) ∧ ((Lit.int .i64 s.f2).wf = true) ∧ ((Lit.int .i64 s.f3).wf = true) ∧ (Lit.int .i64 s.f4).wf = true) := by
  refine Opens.struct (ok := fun a : (Int) × (Int) × (Int) × (Int) × (Int) => ((Lit.int .i64 a.1).wf = true) ∧ ((Lit.int .i64 a.2.1).wf = true) ∧ ((Lit.int .i64 a.2.2.1).wf = true) ∧ ((Lit.int .i64 a.2.2.2.1).wf = true) ∧ (Lit.int .i64 a.2.2.2.2).wf = true) (fun x : S143 => (x.f0, x.f1, x.f2, x.f3, x.f4)) (fun a => ⟨a.1, a.2.1, a.2.2.1, a.2.2.2.1, a.2.2.2.2⟩) (fun _ => rfl) Try.underlying143 sz143 ?_
  exact OpensF.cons (off1 := 1) (sz := 1) (ok := (fun a : Int => (Lit.int .i64 a).wf = true)) (ok1 := fun a : (Int) × (Int) × (Int) × (Int) => ((Lit.int .i64 a.1).wf = true) ∧ ((Lit.int .i64 a.2.1).wf = true) ∧ ((Lit.int .i64 a.2.2.1).wf = true) ∧ (Lit.int .i64 a.2.2.2).wf = true) opens3 rfl cells3 rfl (OpensF.cons (off1 := 2) (sz := 1) (ok := (fun a : Int => (Lit.int .i64 a).wf = true)) (ok1 := fun a : (Int) × (Int) × (Int) => ((Lit.int .i64 a.1).wf = true) ∧ ((Lit.int .i64 a.2.1).wf = true) ∧ (Lit.int .i64 a.2.2).wf = true) opens3 rfl cells3 rfl (OpensF.cons (off1 := 3) (sz := 1) (ok := (fun a : Int => (Lit.int .i64 a).wf = true)) (ok1 := fun a : (Int) × (Int) => ((Lit.int .i64 a.1).wf = true) ∧ (Lit.int .i64 a.2).wf = true) opens3 rfl cells3 rfl (OpensF.cons (off1 := 4) (sz := 1) (ok := (fun a : Int => (Lit.int .i64 a).wf = true)) (ok1 := fun a : (Int) => (Lit.int .i64 a).wf = true) opens3 rfl cells3 rfl (OpensF.one (ok := (fun a : Int => (Lit.int .i64 a).wf = true)) opens3 rfl))))
theorem bytes36_143 : Try.prog.bytesOf 143 = 40 := by kernel_rfl
theorem opens36 : Opens Try.prog 36 (Kd.slice 143 k143) (fun s => s.length * 40 ≤ 140737488351232 ∧ ∀ y1 ∈ s, ((Lit.int .i64 y1.f0).wf = true) ∧ ((Lit.int .i64 y1.f1).wf = true) ∧ ((Lit.int .i64 y1.f2).wf = true) ∧ ((Lit.int .i64 y1.f3).wf = true) ∧ (Lit.int .i64 y1.f4).wf = true) := Opens.slice Try.underlying36 cells36 opens143 40 bytes36_143
theorem sz38 : ((Kd.pair (Kd.int .i64) (Kd.pair (Kd.int .i64) (Kd.pair (Kd.slice 143 k143) (Kd.int .i64))))).sz = Try.prog.cellsOf 38 := by kernel_rfl
theorem opens38 : Opens Try.prog 38 k38 (fun s => ((Lit.int .i64 s.f0).wf = true) ∧ ((Lit.int .i64 s.f1).wf = true) ∧ (s.f2.length * 40 ≤ 140737488351232 ∧ ∀ y1 ∈ s.f2, ((Lit.int .i64 y1.f0).wf = true) ∧ ((Lit.int .i64 y1.f1).wf = true) ∧ ((Lit.int .i64 y1.f2).wf = true) ∧ ((Lit.int .i64 y1.f3).wf = true) ∧ (Lit.int .i64 y1.f4).wf = true) ∧ (Lit.int .i64 s.f3).wf = true) := by
  refine Opens.struct (ok := fun a : (Int) × (Int) × (List (S143)) × (Int) => ((Lit.int .i64 a.1).wf = true) ∧ ((Lit.int .i64 a.2.1).wf = true) ∧ (a.2.2.1.length * 40 ≤ 140737488351232 ∧ ∀ y1 ∈ a.2.2.1, ((Lit.int .i64 y1.f0).wf = true) ∧ ((Lit.int .i64 y1.f1).wf = true) ∧ ((Lit.int .i64 y1.f2).wf = true) ∧ ((Lit.int .i64 y1.f3).wf = true) ∧ (Lit.int .i64 y1.f4).wf = true) ∧ (Lit.int .i64 a.2.2.2).wf = true) (fun x : S38 => (x.f0, x.f1, x.f2, x.f3)) (fun a => ⟨a.1, a.2.1, a.2.2.1, a.2.2.2⟩) (fun _ => rfl) Try.underlying38 sz38 ?_
  exact OpensF.cons (off1 := 1) (sz := 1) (ok := (fun a : Int => (Lit.int .i64 a).wf = true)) (ok1 := fun a : (Int) × (List (S143)) × (Int) => ((Lit.int .i64 a.1).wf = true) ∧ (a.2.1.length * 40 ≤ 140737488351232 ∧ ∀ y1 ∈ a.2.1, ((Lit.int .i64 y1.f0).wf = true) ∧ ((Lit.int .i64 y1.f1).wf = true) ∧ ((Lit.int .i64 y1.f2).wf = true) ∧ ((Lit.int .i64 y1.f3).wf = true) ∧ (Lit.int .i64 y1.f4).wf = true) ∧ (Lit.int .i64 a.2.2).wf = true) opens3 rfl cells3 rfl (OpensF.cons (off1 := 2) (sz := 1) (ok := (fun a : Int => (Lit.int .i64 a).wf = true)) (ok1 := fun a : (List (S143)) × (Int) => (a.1.length * 40 ≤ 140737488351232 ∧ ∀ y1 ∈ a.1, ((Lit.int .i64 y1.f0).wf = true) ∧ ((Lit.int .i64 y1.f1).wf = true) ∧ ((Lit.int .i64 y1.f2).wf = true) ∧ ((Lit.int .i64 y1.f3).wf = true) ∧ (Lit.int .i64 y1.f4).wf = true) ∧ (Lit.int .i64 a.2).wf = true) opens3 rfl cells3 rfl (OpensF.cons (off1 := 3) (sz := 1) (ok := (fun a : List (S143) => a.length * 40 ≤ 140737488351232 ∧ ∀ y1 ∈ a, ((Lit.int .i64 y1.f0).wf = true) ∧ ((Lit.int .i64 y1.f1).wf = true) ∧ ((Lit.int .i64 y1.f2).wf = true) ∧ ((Lit.int .i64 y1.f3).wf = true) ∧ (Lit.int .i64 y1.f4).wf = true)) (ok1 := fun a : (Int) => (Lit.int .i64 a).wf = true) opens36 rfl cells36 rfl (OpensF.one (ok := (fun a : Int => (Lit.int .i64 a).wf = true)) opens3 rfl)))
theorem cells56 : Try.prog.cellsOf 56 = 1 := by kernel_rfl
theorem cells39 : Try.prog.cellsOf 39 = 3 := by kernel_rfl
theorem sz39 : ((Kd.pair (Kd.int .i64) (Kd.pair (Kd.int .i64) (Kd.int .i64)))).sz = Try.prog.cellsOf 39 := by kernel_rfl
theorem opens39 : Opens Try.prog 39 k39 (fun s => ((Lit.int .i64 s.f0).wf = true) ∧ ((Lit.int .i64 s.f1).wf = true) ∧ (Lit.int .i64 s.f2).wf = true) := by
  refine Opens.struct (ok := fun a : (Int) × (Int) × (Int) => ((Lit.int .i64 a.1).wf = true) ∧ ((Lit.int .i64 a.2.1).wf = true) ∧ (Lit.int .i64 a.2.2).wf = true) (fun x : S39 => (x.f0, x.f1, x.f2)) (fun a => ⟨a.1, a.2.1, a.2.2⟩) (fun _ => rfl) Try.underlying39 sz39 ?_
  exact OpensF.cons (off1 := 1) (sz := 1) (ok := (fun a : Int => (Lit.int .i64 a).wf = true)) (ok1 := fun a : (Int) × (Int) => ((Lit.int .i64 a.1).wf = true) ∧ (Lit.int .i64 a.2).wf = true) opens3 rfl cells3 rfl (OpensF.cons (off1 := 2) (sz := 1) (ok := (fun a : Int => (Lit.int .i64 a).wf = true)) (ok1 := fun a : (Int) => (Lit.int .i64 a).wf = true) opens3 rfl cells3 rfl (OpensF.one (ok := (fun a : Int => (Lit.int .i64 a).wf = true)) opens3 rfl))
theorem bytes56_39 : Try.prog.bytesOf 39 = 24 := by kernel_rfl
theorem opens56 : Opens Try.prog 56 (Kd.slice 39 k39) (fun s => s.length * 24 ≤ 140737488351232 ∧ ∀ y1 ∈ s, ((Lit.int .i64 y1.f0).wf = true) ∧ ((Lit.int .i64 y1.f1).wf = true) ∧ (Lit.int .i64 y1.f2).wf = true) := Opens.slice Try.underlying56 cells56 opens39 24 bytes56_39
set_option maxRecDepth 100000 in
theorem lifted (os : Os) (started : os.Started) (H : Type) (enc : TypeId × Value → H) :
    ReturnsInHanded {} Try.checked os 6 .any (Rows.fnExactRunShopSpec.pre6 enc Try.prog Try.f6 Rows.fnExactRunShopRow.domain false) (Rows.fnExactRunShopSpec.post enc Try.prog Try.f6 false true false false) := by
  refine returnsInHanded_of_change_sized (C := Try.checked) own started (by kernel_rfl) Try.func6
    (ChangeSpec.witness6 (enc := enc) (C := Try.checked) false ⟨#[], #[.agg #[.int .i64 0, .int .i64 0, .slice none 0 0, .int .i64 0], .slice none 0 0], []⟩ 8 (by kernel_rfl) (by kernel_rfl) (by kernel_rfl) (by kernel_rfl)) ?_
  intro W base args ds gs before hval0 hW hcnd hsz0 _
  have hsz : (DataW.weightsEach Try.prog (Try.f6.params.toList ++ Rows.fnExactRunShopSpec.plain.varTypes Try.prog) (ds ++ gs)).all (· ≤ reachBytes) = true := hsz0
  have hval : ∀ (j : Nat) t v, Try.f6.params[j]? = some t → args[j]? = some v → Value.okWide Try.prog W .any base t v := hval0
  have hW' := hW
  obtain ⟨p, q, hA0, hV, rfl, hfz, hnd⟩ := hW
  have hA : DataW.TrodAll enc Try.prog W 0 (fun _ => true) true Try.f6.params.toList args.toList ds p := hA0
  rw [Try.params6] at hA hval hsz
  obtain ⟨v0, vs0, d0, ds0, p0, q0, hargs, rfl, rfl, h0, r0⟩ := trodAll_cons hA
  obtain ⟨v1, vs1, d1, ds1, p1, q1, rfl, rfl, rfl, h1, r1⟩ := trodAll_cons r0
  obtain ⟨rfl, rfl, rfl⟩ := trodAll_nil r1
  obtain rfl : args = #[v0, v1] := by cases args; simp_all
  obtain ⟨rfl, rfl⟩ := trodVars_none hV
  have hw0 : ∀ n_ ∈ d0.weights Try.prog 38, n_ ≤ 140737488351232 := fun n_ hn_ => of_decide_eq_true (List.all_eq_true.1 hsz n_ (DataW.weights_mem_each (j := 0) rfl rfl n_ hn_))
  have k0 := h0
  have lt0 : ∀ x ∈ p0, x.block < W.heap.size := by obtain ⟨m, hm⟩ := k0; exact DataW.trod_lt m _ _ _ hm
  obtain ⟨cs0, rfl, hz0⟩ := okWide_struct Try.underlying38 (hval 0 38 v0 rfl rfl)
  obtain ⟨fu0, hf0⟩ := h0
  obtain ⟨x0, hK0, hok0⟩ := opens38.2 _ _ _ _ _ _ _ _ hf0 hw0
  obtain ⟨A0_2, c0_2, hcs0, hl0_2, hC0_2⟩ := k38_open hK0
  obtain rfl : cs0 = #[.int .i64 (x0.f0), .int .i64 (x0.f1), .slice A0_2 (x0.f2).length c0_2, .int .i64 (x0.f3)] := by have e_ := congrArg List.toArray hcs0; simpa [Value.cells] using e_
  have hw1 : ∀ n_ ∈ d1.weights Try.prog 56, n_ ≤ 140737488351232 := fun n_ hn_ => of_decide_eq_true (List.all_eq_true.1 hsz n_ (DataW.weights_mem_each (j := 1) rfl rfl n_ hn_))
  have k1 := h1
  have lt1 : ∀ x ∈ p1, x.block < W.heap.size := by obtain ⟨m, hm⟩ := k1; exact DataW.trod_lt m _ _ _ hm
  obtain ⟨a1, len1, cap1, rfl⟩ := okWide_slice Try.underlying56 (hval 1 56 v1 rfl rfl)
  obtain ⟨fu1, hf1⟩ := h1
  obtain ⟨x1, ⟨A1, c1, hcs1, hl1, hC1⟩, hok1⟩ := opens56.2 _ _ _ _ _ _ _ _ hf1 hw1
  obtain ⟨rfl, rfl, rfl⟩ : a1 = A1 ∧ len1 = x1.length ∧ cap1 = c1 := by simpa [Value.cells] using hcs1
  clear hA0 hval0 hsz0 hsz
  obtain ⟨kr, hr⟩ := Pure.FnExactRunShop x0.f0 x0.f1 x0.f2 x0.f3 x1 hok0.1 hok0.2.1 hok0.2.2.1.1 hok0.2.2.1.2 hok0.2.2.2 hok1.1 hok1.2
  refine (laws_FnExactRunShop.calls kr x0.f0 x0.f1 _ _ x0.f2 x0.f3 _ _ x1 W hC0_2 hl0_2 hC1 hl1 hr).mono fun e W' ⟨he, bel0⟩ => ?_
  have bel : Below W.heap.size W W' := bel0
  subst he
  exact ⟨_, rfl, _, _, _, [], _, [], hW', trodAll_mk1 (shut_bool Try.underlying4 _), (trodAll_cons_mk (Below.trod laidOut (by kernel_rfl) (of_decide_eq_true (by kernel_rfl)) k0 bel lt0) (trodAll_cons_mk (Below.trod laidOut (by kernel_rfl) (of_decide_eq_true (by kernel_rfl)) k1 bel lt1) trodAll_mk0)), rfl, bel.frame _, fun h => by cases h⟩
theorem over : Rows.fnExactRunShopRow.holds Try.pinned (OpenSpec.ofChange Rows.fnExactRunShopSpec) :=
  OpenClaim.holds_of_wide 6 Try.f6 rfl rfl rfl rfl rfl rfl rfl ⟨rfl, rfl, rfl, rfl, rfl⟩ rfl rfl rfl rfl rfl (by kernel_rfl) Try.func6 (by kernel_rfl)
    (of_decide_eq_true (by kernel_rfl)) (by unfold Func.isWrapper; first | (rw [if_pos (by decide +kernel)]; kernel_rfl) | (rw [if_neg (by decide +kernel)]; exact ⟨rfl, rfl⟩))
    (fun os started H enc _ => lifted os started H enc)
theorem proved : Rows.FnExactRunShopSaid := over
#print axioms proved
end Go.Proofs.Ytahglcpndiadnaa.fnExactRunShop
namespace Go.Proofs.Ytahglcpndiadnaa
/-- The row, under a short name, for the claim. -/
theorem fnExactRunShop_holds : Rows.FnExactRunShopSaid := fnExactRunShop.proved
end Go.Proofs.Ytahglcpndiadnaa
