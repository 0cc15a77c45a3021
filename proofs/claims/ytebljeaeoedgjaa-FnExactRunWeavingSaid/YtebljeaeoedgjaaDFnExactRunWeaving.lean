-- Printed by this session's own program (wip/deep/drow.py); Lean checks it.
import Derived.Test.YtebljeaeoedgjaaDFnExactRunWeavingp1
import Derived.Test.YtebljeaeoedgjaaProg
set_option linter.unusedVariables false
set_option maxRecDepth 100000
namespace Go.Proofs.Ytebljeaeoedgjaa.DFnExactRunWeaving
open Go Go.Proofs.YtebljeaeoedgjaaD
/-! ### laws_eqWeaveStep: function 102 -/
def laws_eqWeaveStep.m (k : Nat) (a0_0 : Int) (a0_1 : Int) (a1_0 : Int) (a1_1 : Int) : Option (Bool) := (if ¬ a0_0 = a1_0 then (some false) else (if ¬ a0_1 = a1_1 then (some false) else (some true)))
def laws_eqWeaveStep.f (k : Nat) (a0_0 : Int) (a0_1 : Int) (a1_0 : Int) (a1_1 : Int) : Option (Bool) := laws_eqWeaveStep.m k a0_0 a0_1 a1_0 a1_1
noncomputable def laws_eqWeaveStep.spec (k : Nat) : FnSpec := ⟨[.ag [.d (.int .i64) none, .d (.int .i64) none], .ag [.d (.int .i64) none, .d (.int .i64) none]], [.d .bool none], fun x => laws_eqWeaveStep.f k x.1 x.2.1 x.2.2.1 x.2.2.2⟩
noncomputable def laws_eqWeaveStep.T : FnText := ⟨(conv [] (bodyOf Go.Proofs.Try.f102) 0).1, Go.Proofs.Try.f102.results.toList, 15, [], [.ag [.d (.int .i64) none, .d (.int .i64) none], .ag [.d (.int .i64) none, .d (.int .i64) none]], [.d .bool none]⟩
noncomputable def laws_eqWeaveStep.tbl (k : Nat) : Tbl := []
theorem laws_eqWeaveStep.e (k : Nat) (o : Nat → St → Option (Bool)) (a0_0 : Int) (a0_1 : Int) (a1_0 : Int) (a1_1 : Int) : laws_eqWeaveStep.T.main tyt (laws_eqWeaveStep.tbl k) o (a0_0, a0_1, a1_0, a1_1) = laws_eqWeaveStep.m k a0_0 a0_1 a1_0 a1_1 := by kernel_rfl
theorem laws_eqWeaveStep.ok : laws_eqWeaveStep.T.ok = true := by kernel_rfl
theorem laws_eqWeaveStep.tblok (k : Nat) : TblOk Go.Proofs.Try.prog (laws_eqWeaveStep.tbl k) := TblOk.nil _
theorem laws_eqWeaveStep.sound (k : Nat) : Sound Go.Proofs.Try.prog 102 (laws_eqWeaveStep.spec k) := by
  have h := fn_ok (F := laws_eqWeaveStep.T) (tbl := laws_eqWeaveStep.tbl) mixed tyok Go.Proofs.Try.func102 (by kernel_rfl) (c0 := bodyOf Go.Proofs.Try.f102) rfl (conv_code _ _ _) rfl rfl laws_eqWeaveStep.ok k (fun j _ => laws_eqWeaveStep.tblok j)
  have e : laws_eqWeaveStep.spec k = ⟨laws_eqWeaveStep.T.ps, laws_eqWeaveStep.T.rs, laws_eqWeaveStep.T.ev tyt laws_eqWeaveStep.tbl k⟩ := congrArg (FnSpec.mk _ _) (funext fun x => ((laws_eqWeaveStep.e k (laws_eqWeaveStep.T.run tyt laws_eqWeaveStep.tbl k) x.1 x.2.1 x.2.2.1 x.2.2.2).trans (by rfl)).symm)
  rw [e]
  exact h
/-! ### laws_eqWeaveStepS: function 54 -/
def laws_eqWeaveStepS.b6 (o6 : (List (Int × Int)) → (List (Int × Int)) → Int → Option (Bool)) (k : Nat) (l0_6 : List (Int × Int)) (l1_6 : List (Int × Int)) (x2_6 : Int) : Option (Bool) := (if x2_6 < (l0_6.length : Int) then ((chk l0_6.length x2_6).bind fun i1 => ((chk l1_6.length x2_6).bind fun i2 => ((laws_eqWeaveStep.f k ((l0_6.getD i1 (0, 0)).1) ((l0_6.getD i1 (0, 0)).2) ((l1_6.getD i2 (0, 0)).1) ((l1_6.getD i2 (0, 0)).2)).bind fun r3 => (cond (!r3) (some false) (o6 l0_6 l1_6 (w64 (x2_6 + 1))))))) else (some true))
def laws_eqWeaveStepS.l6 : Nat → (List (Int × Int)) → (List (Int × Int)) → Int → Option (Bool)
  | 0, _, _, _ => none
  | k + 1, l0_6, l1_6, x2_6 => laws_eqWeaveStepS.b6 (laws_eqWeaveStepS.l6 k) k l0_6 l1_6 x2_6
def laws_eqWeaveStepS.m (o6 : (List (Int × Int)) → (List (Int × Int)) → Int → Option (Bool)) (k : Nat) (l0 : List (Int × Int)) (l1 : List (Int × Int)) : Option (Bool) := (if ¬ (l0.length : Int) = (l1.length : Int) then (some false) else (o6 l0 l1 0))
def laws_eqWeaveStepS.f (k : Nat) (l0 : List (Int × Int)) (l1 : List (Int × Int)) : Option (Bool) := laws_eqWeaveStepS.m (laws_eqWeaveStepS.l6 k) k l0 l1
noncomputable def laws_eqWeaveStepS.spec (k : Nat) : FnSpec := ⟨[.d (.sl (.pair (.int .i64) (.int .i64))) none, .d (.sl (.pair (.int .i64) (.int .i64))) none], [.d .bool none], fun x => laws_eqWeaveStepS.f k x.1 x.2⟩
def laws_eqWeaveStepS.S6 (l0_6 : List (Int × Int)) (l1_6 : List (Int × Int)) (x2_6 : Int) : St := ⟨[(0, .val (.sl (.pair (.int .i64) (.int .i64))) l0_6), (1, .val (.sl (.pair (.int .i64) (.int .i64))) l1_6), (5, .val (.int .i64) x2_6)], [], 1000⟩
noncomputable def laws_eqWeaveStepS.T : FnText := ⟨(conv [] (bodyOf Go.Proofs.Try.f54) 0).1, Go.Proofs.Try.f54.results.toList, 27, [(6, [(0, .rd (.sl (.pair (.int .i64) (.int .i64)))), (1, .rd (.sl (.pair (.int .i64) (.int .i64)))), (5, .rd (.int .i64))])], [.d (.sl (.pair (.int .i64) (.int .i64))) none, .d (.sl (.pair (.int .i64) (.int .i64))) none], [.d .bool none]⟩
noncomputable def laws_eqWeaveStepS.tbl (k : Nat) : Tbl := [(102, laws_eqWeaveStep.spec k)]
theorem laws_eqWeaveStepS.e6 (k : Nat) (o : Nat → St → Option (Bool)) (l0_6 : List (Int × Int)) (l1_6 : List (Int × Int)) (x2_6 : Int) : laws_eqWeaveStepS.T.step tyt (laws_eqWeaveStepS.tbl k) o 6 (laws_eqWeaveStepS.S6 l0_6 l1_6 x2_6) = laws_eqWeaveStepS.b6 (fun l0_6 l1_6 x2_6 => o 6 (laws_eqWeaveStepS.S6 l0_6 l1_6 x2_6)) k l0_6 l1_6 x2_6 := by kernel_rfl
theorem laws_eqWeaveStepS.e (k : Nat) (o : Nat → St → Option (Bool)) (l0 : List (Int × Int)) (l1 : List (Int × Int)) : laws_eqWeaveStepS.T.main tyt (laws_eqWeaveStepS.tbl k) o (l0, l1) = laws_eqWeaveStepS.m (fun l0_6 l1_6 x2_6 => o 6 (laws_eqWeaveStepS.S6 l0_6 l1_6 x2_6)) k l0 l1 := by kernel_rfl
theorem laws_eqWeaveStepS.ok : laws_eqWeaveStepS.T.ok = true := by kernel_rfl
theorem laws_eqWeaveStepS.run (k : Nat) : (∀ (l0_6 : List (Int × Int)) (l1_6 : List (Int × Int)) (x2_6 : Int), laws_eqWeaveStepS.T.run tyt laws_eqWeaveStepS.tbl k 6 (laws_eqWeaveStepS.S6 l0_6 l1_6 x2_6) = laws_eqWeaveStepS.l6 k l0_6 l1_6 x2_6) := by
  induction k with
  | zero => exact fun l0_6 l1_6 x2_6 => rfl
  | succ k ih =>
    exact fun l0_6 l1_6 x2_6 => by
      have q6 : (fun l0_6 l1_6 x2_6 => laws_eqWeaveStepS.T.run tyt laws_eqWeaveStepS.tbl k 6 (laws_eqWeaveStepS.S6 l0_6 l1_6 x2_6)) = laws_eqWeaveStepS.l6 k := by funext l0_6 l1_6 x2_6; exact ih l0_6 l1_6 x2_6
      exact (laws_eqWeaveStepS.e6 k (laws_eqWeaveStepS.T.run tyt laws_eqWeaveStepS.tbl k) l0_6 l1_6 x2_6).trans (by rw [q6]; rfl)
theorem laws_eqWeaveStepS.tblok (k : Nat) : TblOk Go.Proofs.Try.prog (laws_eqWeaveStepS.tbl k) := TblOk.cons (laws_eqWeaveStep.sound k) (TblOk.nil _)
theorem laws_eqWeaveStepS.sound (k : Nat) : Sound Go.Proofs.Try.prog 54 (laws_eqWeaveStepS.spec k) := by
  have h := fn_ok (F := laws_eqWeaveStepS.T) (tbl := laws_eqWeaveStepS.tbl) mixed tyok Go.Proofs.Try.func54 (by kernel_rfl) (c0 := bodyOf Go.Proofs.Try.f54) rfl (conv_code _ _ _) rfl rfl laws_eqWeaveStepS.ok k (fun j _ => laws_eqWeaveStepS.tblok j)
  have q6 : (fun l0_6 l1_6 x2_6 => laws_eqWeaveStepS.T.run tyt laws_eqWeaveStepS.tbl k 6 (laws_eqWeaveStepS.S6 l0_6 l1_6 x2_6)) = laws_eqWeaveStepS.l6 k := by funext l0_6 l1_6 x2_6; exact (laws_eqWeaveStepS.run k) l0_6 l1_6 x2_6
  have e : laws_eqWeaveStepS.spec k = ⟨laws_eqWeaveStepS.T.ps, laws_eqWeaveStepS.T.rs, laws_eqWeaveStepS.T.ev tyt laws_eqWeaveStepS.tbl k⟩ := congrArg (FnSpec.mk _ _) (funext fun x => ((laws_eqWeaveStepS.e k (laws_eqWeaveStepS.T.run tyt laws_eqWeaveStepS.tbl k) x.1 x.2).trans (by rw [q6]; rfl)).symm)
  rw [e]
  exact h
/-! ### laws_markIntS: function 75 -/
def laws_markIntS.b3 (o3 : List Int → Int → Int → Option (Int × List Int)) (k : Nat) (l0_3 : List Int) (x1_3 : Int) (x2_3 : Int) : Option (Int × List Int) := (if x2_3 < (l0_3.length : Int) then ((chk l0_3.length x2_3).bind fun i1 => (o3 (l0_3.set i1 x1_3) (w64 (x1_3 + 1)) (w64 (x2_3 + 1)))) else (some (x1_3, l0_3)))
def laws_markIntS.l3 : Nat → List Int → Int → Int → Option (Int × List Int)
  | 0, _, _, _ => none
  | k + 1, l0_3, x1_3, x2_3 => laws_markIntS.b3 (laws_markIntS.l3 k) k l0_3 x1_3 x2_3
def laws_markIntS.m (o3 : List Int → Int → Int → Option (Int × List Int)) (k : Nat) (l0 : List Int) (a1 : Int) : Option (Int × List Int) := (o3 l0 a1 0)
def laws_markIntS.f (k : Nat) (l0 : List Int) (a1 : Int) : Option (Int × List Int) := laws_markIntS.m (laws_markIntS.l3 k) k l0 a1
noncomputable def laws_markIntS.spec (k : Nat) : FnSpec := ⟨[.io 3 (.int .i64), .d (.int .i64) none], [.d (.int .i64) none], fun x => laws_markIntS.f k x.1 x.2⟩
def laws_markIntS.S3 (l0_3 : List Int) (x1_3 : Int) (x2_3 : Int) : St := ⟨[(0, .ref 0), (1, .val (.int .i64) x1_3), (5, .val (.int .i64) x2_3)], [(0, some (.row 3 (.int .i64) l0_3))], 1000⟩
noncomputable def laws_markIntS.T : FnText := ⟨(conv [] (bodyOf Go.Proofs.Try.f75) 0).1, Go.Proofs.Try.f75.results.toList, 19, [(3, [(0, .own 3 (.int .i64) 0), (1, .rd (.int .i64)), (5, .rd (.int .i64))])], [.io 3 (.int .i64), .d (.int .i64) none], [.d (.int .i64) none]⟩
noncomputable def laws_markIntS.tbl (k : Nat) : Tbl := []
theorem laws_markIntS.e3 (k : Nat) (o : Nat → St → Option (Int × List Int)) (l0_3 : List Int) (x1_3 : Int) (x2_3 : Int) : laws_markIntS.T.step tyt (laws_markIntS.tbl k) o 3 (laws_markIntS.S3 l0_3 x1_3 x2_3) = laws_markIntS.b3 (fun l0_3 x1_3 x2_3 => o 3 (laws_markIntS.S3 l0_3 x1_3 x2_3)) k l0_3 x1_3 x2_3 := by kernel_rfl
theorem laws_markIntS.e (k : Nat) (o : Nat → St → Option (Int × List Int)) (l0 : List Int) (a1 : Int) : laws_markIntS.T.main tyt (laws_markIntS.tbl k) o (l0, a1) = laws_markIntS.m (fun l0_3 x1_3 x2_3 => o 3 (laws_markIntS.S3 l0_3 x1_3 x2_3)) k l0 a1 := by kernel_rfl
theorem laws_markIntS.ok : laws_markIntS.T.ok = true := by kernel_rfl
theorem laws_markIntS.run (k : Nat) : (∀ (l0_3 : List Int) (x1_3 : Int) (x2_3 : Int), laws_markIntS.T.run tyt laws_markIntS.tbl k 3 (laws_markIntS.S3 l0_3 x1_3 x2_3) = laws_markIntS.l3 k l0_3 x1_3 x2_3) := by
  induction k with
  | zero => exact fun l0_3 x1_3 x2_3 => rfl
  | succ k ih =>
    exact fun l0_3 x1_3 x2_3 => by
      have q3 : (fun l0_3 x1_3 x2_3 => laws_markIntS.T.run tyt laws_markIntS.tbl k 3 (laws_markIntS.S3 l0_3 x1_3 x2_3)) = laws_markIntS.l3 k := by funext l0_3 x1_3 x2_3; exact ih l0_3 x1_3 x2_3
      exact (laws_markIntS.e3 k (laws_markIntS.T.run tyt laws_markIntS.tbl k) l0_3 x1_3 x2_3).trans (by rw [q3]; rfl)
theorem laws_markIntS.tblok (k : Nat) : TblOk Go.Proofs.Try.prog (laws_markIntS.tbl k) := TblOk.nil _
theorem laws_markIntS.sound (k : Nat) : Sound Go.Proofs.Try.prog 75 (laws_markIntS.spec k) := by
  have h := fn_ok (F := laws_markIntS.T) (tbl := laws_markIntS.tbl) mixed tyok Go.Proofs.Try.func75 (by kernel_rfl) (c0 := bodyOf Go.Proofs.Try.f75) rfl (conv_code _ _ _) rfl rfl laws_markIntS.ok k (fun j _ => laws_markIntS.tblok j)
  have q3 : (fun l0_3 x1_3 x2_3 => laws_markIntS.T.run tyt laws_markIntS.tbl k 3 (laws_markIntS.S3 l0_3 x1_3 x2_3)) = laws_markIntS.l3 k := by funext l0_3 x1_3 x2_3; exact (laws_markIntS.run k) l0_3 x1_3 x2_3
  have e : laws_markIntS.spec k = ⟨laws_markIntS.T.ps, laws_markIntS.T.rs, laws_markIntS.T.ev tyt laws_markIntS.tbl k⟩ := congrArg (FnSpec.mk _ _) (funext fun x => ((laws_markIntS.e k (laws_markIntS.T.run tyt laws_markIntS.tbl k) x.1 x.2).trans (by rw [q3]; rfl)).symm)
  rw [e]
  exact h
/-! ### laws_markChart: function 30 -/
def laws_markChart.m (k : Nat) (a0_0 : Int) (a0_1 : Int) (l0_2 : List Int) (a1 : Int) : Option (Int × List Int) := ((laws_markIntS.f k l0_2 a1).bind fun r1 => (some (r1.1, r1.2)))
def laws_markChart.f (k : Nat) (a0_0 : Int) (a0_1 : Int) (l0_2 : List Int) (a1 : Int) : Option (Int × List Int) := laws_markChart.m k a0_0 a0_1 l0_2 a1
noncomputable def laws_markChart.spec (k : Nat) : FnSpec := ⟨[.ag [.d (.int .i64) none, .d (.int .i64) none, .io 3 (.int .i64)], .d (.int .i64) none], [.d (.int .i64) none], fun x => laws_markChart.f k x.1 x.2.1 x.2.2.1 x.2.2.2⟩
noncomputable def laws_markChart.T : FnText := ⟨(conv [] (bodyOf Go.Proofs.Try.f30) 0).1, Go.Proofs.Try.f30.results.toList, 10, [], [.ag [.d (.int .i64) none, .d (.int .i64) none, .io 3 (.int .i64)], .d (.int .i64) none], [.d (.int .i64) none]⟩
noncomputable def laws_markChart.tbl (k : Nat) : Tbl := [(75, laws_markIntS.spec k)]
theorem laws_markChart.e (k : Nat) (o : Nat → St → Option (Int × List Int)) (a0_0 : Int) (a0_1 : Int) (l0_2 : List Int) (a1 : Int) : laws_markChart.T.main tyt (laws_markChart.tbl k) o (a0_0, a0_1, l0_2, a1) = laws_markChart.m k a0_0 a0_1 l0_2 a1 := by kernel_rfl
theorem laws_markChart.ok : laws_markChart.T.ok = true := by kernel_rfl
theorem laws_markChart.tblok (k : Nat) : TblOk Go.Proofs.Try.prog (laws_markChart.tbl k) := TblOk.cons (laws_markIntS.sound k) (TblOk.nil _)
theorem laws_markChart.sound (k : Nat) : Sound Go.Proofs.Try.prog 30 (laws_markChart.spec k) := by
  have h := fn_ok (F := laws_markChart.T) (tbl := laws_markChart.tbl) mixed tyok Go.Proofs.Try.func30 (by kernel_rfl) (c0 := bodyOf Go.Proofs.Try.f30) rfl (conv_code _ _ _) rfl rfl laws_markChart.ok k (fun j _ => laws_markChart.tblok j)
  have e : laws_markChart.spec k = ⟨laws_markChart.T.ps, laws_markChart.T.rs, laws_markChart.T.ev tyt laws_markChart.tbl k⟩ := congrArg (FnSpec.mk _ _) (funext fun x => ((laws_markChart.e k (laws_markChart.T.run tyt laws_markChart.tbl k) x.1 x.2.1 x.2.2.1 x.2.2.2).trans (by rfl)).symm)
  rw [e]
  exact h
/-! ### laws_markDeviationS: function 76 -/
def laws_markDeviationS.b3 (o3 : (List (Int × Int)) → Int → Int → Option (Int × List (Int × Int))) (k : Nat) (l0_3 : List (Int × Int)) (x1_3 : Int) (x2_3 : Int) : Option (Int × List (Int × Int)) := (if x2_3 < (l0_3.length : Int) then ((chk l0_3.length x2_3).bind fun i1 => ((chk (upd l0_3 i1 (0, 0) fun e2 => (x1_3, e2.2)).length x2_3).bind fun i3 => (o3 (upd (upd l0_3 i1 (0, 0) fun e2 => (x1_3, e2.2)) i3 (0, 0) fun e4 => (e4.1, (w64 (x1_3 + 1)))) (w64 ((w64 (x1_3 + 1)) + 1)) (w64 (x2_3 + 1))))) else (some (x1_3, l0_3)))
def laws_markDeviationS.l3 : Nat → (List (Int × Int)) → Int → Int → Option (Int × List (Int × Int))
  | 0, _, _, _ => none
  | k + 1, l0_3, x1_3, x2_3 => laws_markDeviationS.b3 (laws_markDeviationS.l3 k) k l0_3 x1_3 x2_3
def laws_markDeviationS.m (o3 : (List (Int × Int)) → Int → Int → Option (Int × List (Int × Int))) (k : Nat) (l0 : List (Int × Int)) (a1 : Int) : Option (Int × List (Int × Int)) := (o3 l0 a1 0)
def laws_markDeviationS.f (k : Nat) (l0 : List (Int × Int)) (a1 : Int) : Option (Int × List (Int × Int)) := laws_markDeviationS.m (laws_markDeviationS.l3 k) k l0 a1
noncomputable def laws_markDeviationS.spec (k : Nat) : FnSpec := ⟨[.io 64 (.pair (.int .i64) (.int .i64)), .d (.int .i64) none], [.d (.int .i64) none], fun x => laws_markDeviationS.f k x.1 x.2⟩
def laws_markDeviationS.S3 (l0_3 : List (Int × Int)) (x1_3 : Int) (x2_3 : Int) : St := ⟨[(0, .ref 0), (1, .val (.int .i64) x1_3), (5, .val (.int .i64) x2_3)], [(0, some (.row 64 (.pair (.int .i64) (.int .i64)) l0_3))], 1000⟩
noncomputable def laws_markDeviationS.T : FnText := ⟨(conv [] (bodyOf Go.Proofs.Try.f76) 0).1, Go.Proofs.Try.f76.results.toList, 27, [(3, [(0, .own 64 (.pair (.int .i64) (.int .i64)) 0), (1, .rd (.int .i64)), (5, .rd (.int .i64))])], [.io 64 (.pair (.int .i64) (.int .i64)), .d (.int .i64) none], [.d (.int .i64) none]⟩
noncomputable def laws_markDeviationS.tbl (k : Nat) : Tbl := []
theorem laws_markDeviationS.e3 (k : Nat) (o : Nat → St → Option (Int × List (Int × Int))) (l0_3 : List (Int × Int)) (x1_3 : Int) (x2_3 : Int) : laws_markDeviationS.T.step tyt (laws_markDeviationS.tbl k) o 3 (laws_markDeviationS.S3 l0_3 x1_3 x2_3) = laws_markDeviationS.b3 (fun l0_3 x1_3 x2_3 => o 3 (laws_markDeviationS.S3 l0_3 x1_3 x2_3)) k l0_3 x1_3 x2_3 := by kernel_rfl
theorem laws_markDeviationS.e (k : Nat) (o : Nat → St → Option (Int × List (Int × Int))) (l0 : List (Int × Int)) (a1 : Int) : laws_markDeviationS.T.main tyt (laws_markDeviationS.tbl k) o (l0, a1) = laws_markDeviationS.m (fun l0_3 x1_3 x2_3 => o 3 (laws_markDeviationS.S3 l0_3 x1_3 x2_3)) k l0 a1 := by kernel_rfl
theorem laws_markDeviationS.ok : laws_markDeviationS.T.ok = true := by kernel_rfl
theorem laws_markDeviationS.run (k : Nat) : (∀ (l0_3 : List (Int × Int)) (x1_3 : Int) (x2_3 : Int), laws_markDeviationS.T.run tyt laws_markDeviationS.tbl k 3 (laws_markDeviationS.S3 l0_3 x1_3 x2_3) = laws_markDeviationS.l3 k l0_3 x1_3 x2_3) := by
  induction k with
  | zero => exact fun l0_3 x1_3 x2_3 => rfl
  | succ k ih =>
    exact fun l0_3 x1_3 x2_3 => by
      have q3 : (fun l0_3 x1_3 x2_3 => laws_markDeviationS.T.run tyt laws_markDeviationS.tbl k 3 (laws_markDeviationS.S3 l0_3 x1_3 x2_3)) = laws_markDeviationS.l3 k := by funext l0_3 x1_3 x2_3; exact ih l0_3 x1_3 x2_3
      exact (laws_markDeviationS.e3 k (laws_markDeviationS.T.run tyt laws_markDeviationS.tbl k) l0_3 x1_3 x2_3).trans (by rw [q3]; rfl)
theorem laws_markDeviationS.tblok (k : Nat) : TblOk Go.Proofs.Try.prog (laws_markDeviationS.tbl k) := TblOk.nil _
theorem laws_markDeviationS.sound (k : Nat) : Sound Go.Proofs.Try.prog 76 (laws_markDeviationS.spec k) := by
  have h := fn_ok (F := laws_markDeviationS.T) (tbl := laws_markDeviationS.tbl) mixed tyok Go.Proofs.Try.func76 (by kernel_rfl) (c0 := bodyOf Go.Proofs.Try.f76) rfl (conv_code _ _ _) rfl rfl laws_markDeviationS.ok k (fun j _ => laws_markDeviationS.tblok j)
  have q3 : (fun l0_3 x1_3 x2_3 => laws_markDeviationS.T.run tyt laws_markDeviationS.tbl k 3 (laws_markDeviationS.S3 l0_3 x1_3 x2_3)) = laws_markDeviationS.l3 k := by funext l0_3 x1_3 x2_3; exact (laws_markDeviationS.run k) l0_3 x1_3 x2_3
  have e : laws_markDeviationS.spec k = ⟨laws_markDeviationS.T.ps, laws_markDeviationS.T.rs, laws_markDeviationS.T.ev tyt laws_markDeviationS.tbl k⟩ := congrArg (FnSpec.mk _ _) (funext fun x => ((laws_markDeviationS.e k (laws_markDeviationS.T.run tyt laws_markDeviationS.tbl k) x.1 x.2).trans (by rw [q3]; rfl)).symm)
  rw [e]
  exact h
/-! ### laws_markWeaving: function 31 -/
def laws_markWeaving.m (k : Nat) (a0_0 : Int) (a0_1 : Int) (l0_2 : List Int) (l0_3 : List Int) (a0_4 : Int) (l0_5 : List (Int × Int)) (a0_6 : Bool) (a1 : Int) : Option (Int × List Int × List Int × List (Int × Int)) := ((laws_markChart.f k a0_0 a0_1 l0_2 a1).bind fun r1 => ((laws_markIntS.f k l0_3 r1.1).bind fun r2 => ((laws_markDeviationS.f k l0_5 r2.1).bind fun r3 => (some (r3.1, r1.2, r2.2, r3.2)))))
def laws_markWeaving.f (k : Nat) (a0_0 : Int) (a0_1 : Int) (l0_2 : List Int) (l0_3 : List Int) (a0_4 : Int) (l0_5 : List (Int × Int)) (a0_6 : Bool) (a1 : Int) : Option (Int × List Int × List Int × List (Int × Int)) := laws_markWeaving.m k a0_0 a0_1 l0_2 l0_3 a0_4 l0_5 a0_6 a1
noncomputable def laws_markWeaving.spec (k : Nat) : FnSpec := ⟨[.ag [.d (.int .i64) none, .d (.int .i64) none, .io 3 (.int .i64), .io 3 (.int .i64), .d (.int .i64) none, .io 64 (.pair (.int .i64) (.int .i64)), .d .bool none], .d (.int .i64) none], [.d (.int .i64) none], fun x => laws_markWeaving.f k x.1 x.2.1 x.2.2.1 x.2.2.2.1 x.2.2.2.2.1 x.2.2.2.2.2.1 x.2.2.2.2.2.2.1 x.2.2.2.2.2.2.2⟩
noncomputable def laws_markWeaving.T : FnText := ⟨(conv [] (bodyOf Go.Proofs.Try.f31) 0).1, Go.Proofs.Try.f31.results.toList, 18, [], [.ag [.d (.int .i64) none, .d (.int .i64) none, .io 3 (.int .i64), .io 3 (.int .i64), .d (.int .i64) none, .io 64 (.pair (.int .i64) (.int .i64)), .d .bool none], .d (.int .i64) none], [.d (.int .i64) none]⟩
noncomputable def laws_markWeaving.tbl (k : Nat) : Tbl := [(30, laws_markChart.spec k), (75, laws_markIntS.spec k), (76, laws_markDeviationS.spec k)]
theorem laws_markWeaving.e (k : Nat) (o : Nat → St → Option (Int × List Int × List Int × List (Int × Int))) (a0_0 : Int) (a0_1 : Int) (l0_2 : List Int) (l0_3 : List Int) (a0_4 : Int) (l0_5 : List (Int × Int)) (a0_6 : Bool) (a1 : Int) : laws_markWeaving.T.main tyt (laws_markWeaving.tbl k) o (a0_0, a0_1, l0_2, l0_3, a0_4, l0_5, a0_6, a1) = laws_markWeaving.m k a0_0 a0_1 l0_2 l0_3 a0_4 l0_5 a0_6 a1 := by kernel_rfl
theorem laws_markWeaving.ok : laws_markWeaving.T.ok = true := by kernel_rfl
theorem laws_markWeaving.tblok (k : Nat) : TblOk Go.Proofs.Try.prog (laws_markWeaving.tbl k) := TblOk.cons (laws_markChart.sound k) (TblOk.cons (laws_markIntS.sound k) (TblOk.cons (laws_markDeviationS.sound k) (TblOk.nil _)))
theorem laws_markWeaving.sound (k : Nat) : Sound Go.Proofs.Try.prog 31 (laws_markWeaving.spec k) := by
  have h := fn_ok (F := laws_markWeaving.T) (tbl := laws_markWeaving.tbl) mixed tyok Go.Proofs.Try.func31 (by kernel_rfl) (c0 := bodyOf Go.Proofs.Try.f31) rfl (conv_code _ _ _) rfl rfl laws_markWeaving.ok k (fun j _ => laws_markWeaving.tblok j)
  have e : laws_markWeaving.spec k = ⟨laws_markWeaving.T.ps, laws_markWeaving.T.rs, laws_markWeaving.T.ev tyt laws_markWeaving.tbl k⟩ := congrArg (FnSpec.mk _ _) (funext fun x => ((laws_markWeaving.e k (laws_markWeaving.T.run tyt laws_markWeaving.tbl k) x.1 x.2.1 x.2.2.1 x.2.2.2.1 x.2.2.2.2.1 x.2.2.2.2.2.1 x.2.2.2.2.2.2.1 x.2.2.2.2.2.2.2).trans (by rfl)).symm)
  rw [e]
  exact h
/-! ### laws_markWeaveStepS: function 55 -/
def laws_markWeaveStepS.b3 (o3 : (List (Int × Int)) → Int → Int → Option (Int × List (Int × Int))) (k : Nat) (l0_3 : List (Int × Int)) (x1_3 : Int) (x2_3 : Int) : Option (Int × List (Int × Int)) := (if x2_3 < (l0_3.length : Int) then ((chk l0_3.length x2_3).bind fun i1 => ((chk (upd l0_3 i1 (0, 0) fun e2 => (x1_3, e2.2)).length x2_3).bind fun i3 => (o3 (upd (upd l0_3 i1 (0, 0) fun e2 => (x1_3, e2.2)) i3 (0, 0) fun e4 => (e4.1, (w64 (x1_3 + 1)))) (w64 ((w64 (x1_3 + 1)) + 1)) (w64 (x2_3 + 1))))) else (some (x1_3, l0_3)))
def laws_markWeaveStepS.l3 : Nat → (List (Int × Int)) → Int → Int → Option (Int × List (Int × Int))
  | 0, _, _, _ => none
  | k + 1, l0_3, x1_3, x2_3 => laws_markWeaveStepS.b3 (laws_markWeaveStepS.l3 k) k l0_3 x1_3 x2_3
def laws_markWeaveStepS.m (o3 : (List (Int × Int)) → Int → Int → Option (Int × List (Int × Int))) (k : Nat) (l0 : List (Int × Int)) (a1 : Int) : Option (Int × List (Int × Int)) := (o3 l0 a1 0)
def laws_markWeaveStepS.f (k : Nat) (l0 : List (Int × Int)) (a1 : Int) : Option (Int × List (Int × Int)) := laws_markWeaveStepS.m (laws_markWeaveStepS.l3 k) k l0 a1
noncomputable def laws_markWeaveStepS.spec (k : Nat) : FnSpec := ⟨[.io 39 (.pair (.int .i64) (.int .i64)), .d (.int .i64) none], [.d (.int .i64) none], fun x => laws_markWeaveStepS.f k x.1 x.2⟩
def laws_markWeaveStepS.S3 (l0_3 : List (Int × Int)) (x1_3 : Int) (x2_3 : Int) : St := ⟨[(0, .ref 0), (1, .val (.int .i64) x1_3), (5, .val (.int .i64) x2_3)], [(0, some (.row 39 (.pair (.int .i64) (.int .i64)) l0_3))], 1000⟩
noncomputable def laws_markWeaveStepS.T : FnText := ⟨(conv [] (bodyOf Go.Proofs.Try.f55) 0).1, Go.Proofs.Try.f55.results.toList, 27, [(3, [(0, .own 39 (.pair (.int .i64) (.int .i64)) 0), (1, .rd (.int .i64)), (5, .rd (.int .i64))])], [.io 39 (.pair (.int .i64) (.int .i64)), .d (.int .i64) none], [.d (.int .i64) none]⟩
noncomputable def laws_markWeaveStepS.tbl (k : Nat) : Tbl := []
theorem laws_markWeaveStepS.e3 (k : Nat) (o : Nat → St → Option (Int × List (Int × Int))) (l0_3 : List (Int × Int)) (x1_3 : Int) (x2_3 : Int) : laws_markWeaveStepS.T.step tyt (laws_markWeaveStepS.tbl k) o 3 (laws_markWeaveStepS.S3 l0_3 x1_3 x2_3) = laws_markWeaveStepS.b3 (fun l0_3 x1_3 x2_3 => o 3 (laws_markWeaveStepS.S3 l0_3 x1_3 x2_3)) k l0_3 x1_3 x2_3 := by kernel_rfl
theorem laws_markWeaveStepS.e (k : Nat) (o : Nat → St → Option (Int × List (Int × Int))) (l0 : List (Int × Int)) (a1 : Int) : laws_markWeaveStepS.T.main tyt (laws_markWeaveStepS.tbl k) o (l0, a1) = laws_markWeaveStepS.m (fun l0_3 x1_3 x2_3 => o 3 (laws_markWeaveStepS.S3 l0_3 x1_3 x2_3)) k l0 a1 := by kernel_rfl
theorem laws_markWeaveStepS.ok : laws_markWeaveStepS.T.ok = true := by kernel_rfl
theorem laws_markWeaveStepS.run (k : Nat) : (∀ (l0_3 : List (Int × Int)) (x1_3 : Int) (x2_3 : Int), laws_markWeaveStepS.T.run tyt laws_markWeaveStepS.tbl k 3 (laws_markWeaveStepS.S3 l0_3 x1_3 x2_3) = laws_markWeaveStepS.l3 k l0_3 x1_3 x2_3) := by
  induction k with
  | zero => exact fun l0_3 x1_3 x2_3 => rfl
  | succ k ih =>
    exact fun l0_3 x1_3 x2_3 => by
      have q3 : (fun l0_3 x1_3 x2_3 => laws_markWeaveStepS.T.run tyt laws_markWeaveStepS.tbl k 3 (laws_markWeaveStepS.S3 l0_3 x1_3 x2_3)) = laws_markWeaveStepS.l3 k := by funext l0_3 x1_3 x2_3; exact ih l0_3 x1_3 x2_3
      exact (laws_markWeaveStepS.e3 k (laws_markWeaveStepS.T.run tyt laws_markWeaveStepS.tbl k) l0_3 x1_3 x2_3).trans (by rw [q3]; rfl)
theorem laws_markWeaveStepS.tblok (k : Nat) : TblOk Go.Proofs.Try.prog (laws_markWeaveStepS.tbl k) := TblOk.nil _
theorem laws_markWeaveStepS.sound (k : Nat) : Sound Go.Proofs.Try.prog 55 (laws_markWeaveStepS.spec k) := by
  have h := fn_ok (F := laws_markWeaveStepS.T) (tbl := laws_markWeaveStepS.tbl) mixed tyok Go.Proofs.Try.func55 (by kernel_rfl) (c0 := bodyOf Go.Proofs.Try.f55) rfl (conv_code _ _ _) rfl rfl laws_markWeaveStepS.ok k (fun j _ => laws_markWeaveStepS.tblok j)
  have q3 : (fun l0_3 x1_3 x2_3 => laws_markWeaveStepS.T.run tyt laws_markWeaveStepS.tbl k 3 (laws_markWeaveStepS.S3 l0_3 x1_3 x2_3)) = laws_markWeaveStepS.l3 k := by funext l0_3 x1_3 x2_3; exact (laws_markWeaveStepS.run k) l0_3 x1_3 x2_3
  have e : laws_markWeaveStepS.spec k = ⟨laws_markWeaveStepS.T.ps, laws_markWeaveStepS.T.rs, laws_markWeaveStepS.T.ev tyt laws_markWeaveStepS.tbl k⟩ := congrArg (FnSpec.mk _ _) (funext fun x => ((laws_markWeaveStepS.e k (laws_markWeaveStepS.T.run tyt laws_markWeaveStepS.tbl k) x.1 x.2).trans (by rw [q3]; rfl)).symm)
  rw [e]
  exact h
/-! ### laws_heldIntS: function 78 -/
def laws_heldIntS.b3 (o3 : List Int → Int → Int → Option (Int)) (k : Nat) (l0_3 : List Int) (x1_3 : Int) (x2_3 : Int) : Option (Int) := (if x2_3 < (l0_3.length : Int) then ((chk l0_3.length x2_3).bind fun i1 => (if ¬ (l0_3.getD i1 0) = x1_3 then (some (-1)) else (o3 l0_3 (w64 (x1_3 + 1)) (w64 (x2_3 + 1))))) else (some x1_3))
def laws_heldIntS.l3 : Nat → List Int → Int → Int → Option (Int)
  | 0, _, _, _ => none
  | k + 1, l0_3, x1_3, x2_3 => laws_heldIntS.b3 (laws_heldIntS.l3 k) k l0_3 x1_3 x2_3
def laws_heldIntS.m (o3 : List Int → Int → Int → Option (Int)) (k : Nat) (l0 : List Int) (a1 : Int) : Option (Int) := (o3 l0 a1 0)
def laws_heldIntS.f (k : Nat) (l0 : List Int) (a1 : Int) : Option (Int) := laws_heldIntS.m (laws_heldIntS.l3 k) k l0 a1
noncomputable def laws_heldIntS.spec (k : Nat) : FnSpec := ⟨[.d (.sl (.int .i64)) none, .d (.int .i64) none], [.d (.int .i64) none], fun x => laws_heldIntS.f k x.1 x.2⟩
def laws_heldIntS.S3 (l0_3 : List Int) (x1_3 : Int) (x2_3 : Int) : St := ⟨[(0, .val (.sl (.int .i64)) l0_3), (1, .val (.int .i64) x1_3), (5, .val (.int .i64) x2_3)], [], 1000⟩
noncomputable def laws_heldIntS.T : FnText := ⟨(conv [] (bodyOf Go.Proofs.Try.f78) 0).1, Go.Proofs.Try.f78.results.toList, 21, [(3, [(0, .rd (.sl (.int .i64))), (1, .rd (.int .i64)), (5, .rd (.int .i64))])], [.d (.sl (.int .i64)) none, .d (.int .i64) none], [.d (.int .i64) none]⟩
noncomputable def laws_heldIntS.tbl (k : Nat) : Tbl := []
theorem laws_heldIntS.e3 (k : Nat) (o : Nat → St → Option (Int)) (l0_3 : List Int) (x1_3 : Int) (x2_3 : Int) : laws_heldIntS.T.step tyt (laws_heldIntS.tbl k) o 3 (laws_heldIntS.S3 l0_3 x1_3 x2_3) = laws_heldIntS.b3 (fun l0_3 x1_3 x2_3 => o 3 (laws_heldIntS.S3 l0_3 x1_3 x2_3)) k l0_3 x1_3 x2_3 := by kernel_rfl
theorem laws_heldIntS.e (k : Nat) (o : Nat → St → Option (Int)) (l0 : List Int) (a1 : Int) : laws_heldIntS.T.main tyt (laws_heldIntS.tbl k) o (l0, a1) = laws_heldIntS.m (fun l0_3 x1_3 x2_3 => o 3 (laws_heldIntS.S3 l0_3 x1_3 x2_3)) k l0 a1 := by kernel_rfl
theorem laws_heldIntS.ok : laws_heldIntS.T.ok = true := by kernel_rfl
theorem laws_heldIntS.run (k : Nat) : (∀ (l0_3 : List Int) (x1_3 : Int) (x2_3 : Int), laws_heldIntS.T.run tyt laws_heldIntS.tbl k 3 (laws_heldIntS.S3 l0_3 x1_3 x2_3) = laws_heldIntS.l3 k l0_3 x1_3 x2_3) := by
  induction k with
  | zero => exact fun l0_3 x1_3 x2_3 => rfl
  | succ k ih =>
    exact fun l0_3 x1_3 x2_3 => by
      have q3 : (fun l0_3 x1_3 x2_3 => laws_heldIntS.T.run tyt laws_heldIntS.tbl k 3 (laws_heldIntS.S3 l0_3 x1_3 x2_3)) = laws_heldIntS.l3 k := by funext l0_3 x1_3 x2_3; exact ih l0_3 x1_3 x2_3
      exact (laws_heldIntS.e3 k (laws_heldIntS.T.run tyt laws_heldIntS.tbl k) l0_3 x1_3 x2_3).trans (by rw [q3]; rfl)
theorem laws_heldIntS.tblok (k : Nat) : TblOk Go.Proofs.Try.prog (laws_heldIntS.tbl k) := TblOk.nil _
theorem laws_heldIntS.sound (k : Nat) : Sound Go.Proofs.Try.prog 78 (laws_heldIntS.spec k) := by
  have h := fn_ok (F := laws_heldIntS.T) (tbl := laws_heldIntS.tbl) mixed tyok Go.Proofs.Try.func78 (by kernel_rfl) (c0 := bodyOf Go.Proofs.Try.f78) rfl (conv_code _ _ _) rfl rfl laws_heldIntS.ok k (fun j _ => laws_heldIntS.tblok j)
  have q3 : (fun l0_3 x1_3 x2_3 => laws_heldIntS.T.run tyt laws_heldIntS.tbl k 3 (laws_heldIntS.S3 l0_3 x1_3 x2_3)) = laws_heldIntS.l3 k := by funext l0_3 x1_3 x2_3; exact (laws_heldIntS.run k) l0_3 x1_3 x2_3
  have e : laws_heldIntS.spec k = ⟨laws_heldIntS.T.ps, laws_heldIntS.T.rs, laws_heldIntS.T.ev tyt laws_heldIntS.tbl k⟩ := congrArg (FnSpec.mk _ _) (funext fun x => ((laws_heldIntS.e k (laws_heldIntS.T.run tyt laws_heldIntS.tbl k) x.1 x.2).trans (by rw [q3]; rfl)).symm)
  rw [e]
  exact h
/-! ### laws_heldChart: function 77 -/
def laws_heldChart.m (k : Nat) (a0_0 : Int) (a0_1 : Int) (l0_2 : List Int) (a1 : Int) : Option (Int) := ((laws_heldIntS.f k l0_2 a1).bind fun r1 => (if r1 < 0 then (some (-1)) else (some r1)))
def laws_heldChart.f (k : Nat) (a0_0 : Int) (a0_1 : Int) (l0_2 : List Int) (a1 : Int) : Option (Int) := laws_heldChart.m k a0_0 a0_1 l0_2 a1
noncomputable def laws_heldChart.spec (k : Nat) : FnSpec := ⟨[.ag [.d (.int .i64) none, .d (.int .i64) none, .d (.sl (.int .i64)) none], .d (.int .i64) none], [.d (.int .i64) none], fun x => laws_heldChart.f k x.1 x.2.1 x.2.2.1 x.2.2.2⟩
noncomputable def laws_heldChart.T : FnText := ⟨(conv [] (bodyOf Go.Proofs.Try.f77) 0).1, Go.Proofs.Try.f77.results.toList, 12, [], [.ag [.d (.int .i64) none, .d (.int .i64) none, .d (.sl (.int .i64)) none], .d (.int .i64) none], [.d (.int .i64) none]⟩
noncomputable def laws_heldChart.tbl (k : Nat) : Tbl := [(78, laws_heldIntS.spec k)]
theorem laws_heldChart.e (k : Nat) (o : Nat → St → Option (Int)) (a0_0 : Int) (a0_1 : Int) (l0_2 : List Int) (a1 : Int) : laws_heldChart.T.main tyt (laws_heldChart.tbl k) o (a0_0, a0_1, l0_2, a1) = laws_heldChart.m k a0_0 a0_1 l0_2 a1 := by kernel_rfl
theorem laws_heldChart.ok : laws_heldChart.T.ok = true := by kernel_rfl
theorem laws_heldChart.tblok (k : Nat) : TblOk Go.Proofs.Try.prog (laws_heldChart.tbl k) := TblOk.cons (laws_heldIntS.sound k) (TblOk.nil _)
theorem laws_heldChart.sound (k : Nat) : Sound Go.Proofs.Try.prog 77 (laws_heldChart.spec k) := by
  have h := fn_ok (F := laws_heldChart.T) (tbl := laws_heldChart.tbl) mixed tyok Go.Proofs.Try.func77 (by kernel_rfl) (c0 := bodyOf Go.Proofs.Try.f77) rfl (conv_code _ _ _) rfl rfl laws_heldChart.ok k (fun j _ => laws_heldChart.tblok j)
  have e : laws_heldChart.spec k = ⟨laws_heldChart.T.ps, laws_heldChart.T.rs, laws_heldChart.T.ev tyt laws_heldChart.tbl k⟩ := congrArg (FnSpec.mk _ _) (funext fun x => ((laws_heldChart.e k (laws_heldChart.T.run tyt laws_heldChart.tbl k) x.1 x.2.1 x.2.2.1 x.2.2.2).trans (by rfl)).symm)
  rw [e]
  exact h
/-! ### laws_heldDeviationS: function 79 -/
def laws_heldDeviationS.b3 (o3 : (List (Int × Int)) → Int → Int → Option (Int)) (k : Nat) (l0_3 : List (Int × Int)) (x1_3 : Int) (x2_3 : Int) : Option (Int) := (if x2_3 < (l0_3.length : Int) then ((chk l0_3.length x2_3).bind fun i1 => (if ¬ ((l0_3.getD i1 (0, 0)).1) = x1_3 then (some (-1)) else ((chk l0_3.length x2_3).bind fun i2 => (if ¬ ((l0_3.getD i2 (0, 0)).2) = (w64 (x1_3 + 1)) then (some (-1)) else (o3 l0_3 (w64 ((w64 (x1_3 + 1)) + 1)) (w64 (x2_3 + 1))))))) else (some x1_3))
def laws_heldDeviationS.l3 : Nat → (List (Int × Int)) → Int → Int → Option (Int)
  | 0, _, _, _ => none
  | k + 1, l0_3, x1_3, x2_3 => laws_heldDeviationS.b3 (laws_heldDeviationS.l3 k) k l0_3 x1_3 x2_3
def laws_heldDeviationS.m (o3 : (List (Int × Int)) → Int → Int → Option (Int)) (k : Nat) (l0 : List (Int × Int)) (a1 : Int) : Option (Int) := (o3 l0 a1 0)
def laws_heldDeviationS.f (k : Nat) (l0 : List (Int × Int)) (a1 : Int) : Option (Int) := laws_heldDeviationS.m (laws_heldDeviationS.l3 k) k l0 a1
noncomputable def laws_heldDeviationS.spec (k : Nat) : FnSpec := ⟨[.d (.sl (.pair (.int .i64) (.int .i64))) none, .d (.int .i64) none], [.d (.int .i64) none], fun x => laws_heldDeviationS.f k x.1 x.2⟩
def laws_heldDeviationS.S3 (l0_3 : List (Int × Int)) (x1_3 : Int) (x2_3 : Int) : St := ⟨[(0, .val (.sl (.pair (.int .i64) (.int .i64))) l0_3), (1, .val (.int .i64) x1_3), (5, .val (.int .i64) x2_3)], [], 1000⟩
noncomputable def laws_heldDeviationS.T : FnText := ⟨(conv [] (bodyOf Go.Proofs.Try.f79) 0).1, Go.Proofs.Try.f79.results.toList, 31, [(3, [(0, .rd (.sl (.pair (.int .i64) (.int .i64)))), (1, .rd (.int .i64)), (5, .rd (.int .i64))])], [.d (.sl (.pair (.int .i64) (.int .i64))) none, .d (.int .i64) none], [.d (.int .i64) none]⟩
noncomputable def laws_heldDeviationS.tbl (k : Nat) : Tbl := []
theorem laws_heldDeviationS.e3 (k : Nat) (o : Nat → St → Option (Int)) (l0_3 : List (Int × Int)) (x1_3 : Int) (x2_3 : Int) : laws_heldDeviationS.T.step tyt (laws_heldDeviationS.tbl k) o 3 (laws_heldDeviationS.S3 l0_3 x1_3 x2_3) = laws_heldDeviationS.b3 (fun l0_3 x1_3 x2_3 => o 3 (laws_heldDeviationS.S3 l0_3 x1_3 x2_3)) k l0_3 x1_3 x2_3 := by kernel_rfl
theorem laws_heldDeviationS.e (k : Nat) (o : Nat → St → Option (Int)) (l0 : List (Int × Int)) (a1 : Int) : laws_heldDeviationS.T.main tyt (laws_heldDeviationS.tbl k) o (l0, a1) = laws_heldDeviationS.m (fun l0_3 x1_3 x2_3 => o 3 (laws_heldDeviationS.S3 l0_3 x1_3 x2_3)) k l0 a1 := by kernel_rfl
theorem laws_heldDeviationS.ok : laws_heldDeviationS.T.ok = true := by kernel_rfl
theorem laws_heldDeviationS.run (k : Nat) : (∀ (l0_3 : List (Int × Int)) (x1_3 : Int) (x2_3 : Int), laws_heldDeviationS.T.run tyt laws_heldDeviationS.tbl k 3 (laws_heldDeviationS.S3 l0_3 x1_3 x2_3) = laws_heldDeviationS.l3 k l0_3 x1_3 x2_3) := by
  induction k with
  | zero => exact fun l0_3 x1_3 x2_3 => rfl
  | succ k ih =>
    exact fun l0_3 x1_3 x2_3 => by
      have q3 : (fun l0_3 x1_3 x2_3 => laws_heldDeviationS.T.run tyt laws_heldDeviationS.tbl k 3 (laws_heldDeviationS.S3 l0_3 x1_3 x2_3)) = laws_heldDeviationS.l3 k := by funext l0_3 x1_3 x2_3; exact ih l0_3 x1_3 x2_3
      exact (laws_heldDeviationS.e3 k (laws_heldDeviationS.T.run tyt laws_heldDeviationS.tbl k) l0_3 x1_3 x2_3).trans (by rw [q3]; rfl)
theorem laws_heldDeviationS.tblok (k : Nat) : TblOk Go.Proofs.Try.prog (laws_heldDeviationS.tbl k) := TblOk.nil _
theorem laws_heldDeviationS.sound (k : Nat) : Sound Go.Proofs.Try.prog 79 (laws_heldDeviationS.spec k) := by
  have h := fn_ok (F := laws_heldDeviationS.T) (tbl := laws_heldDeviationS.tbl) mixed tyok Go.Proofs.Try.func79 (by kernel_rfl) (c0 := bodyOf Go.Proofs.Try.f79) rfl (conv_code _ _ _) rfl rfl laws_heldDeviationS.ok k (fun j _ => laws_heldDeviationS.tblok j)
  have q3 : (fun l0_3 x1_3 x2_3 => laws_heldDeviationS.T.run tyt laws_heldDeviationS.tbl k 3 (laws_heldDeviationS.S3 l0_3 x1_3 x2_3)) = laws_heldDeviationS.l3 k := by funext l0_3 x1_3 x2_3; exact (laws_heldDeviationS.run k) l0_3 x1_3 x2_3
  have e : laws_heldDeviationS.spec k = ⟨laws_heldDeviationS.T.ps, laws_heldDeviationS.T.rs, laws_heldDeviationS.T.ev tyt laws_heldDeviationS.tbl k⟩ := congrArg (FnSpec.mk _ _) (funext fun x => ((laws_heldDeviationS.e k (laws_heldDeviationS.T.run tyt laws_heldDeviationS.tbl k) x.1 x.2).trans (by rw [q3]; rfl)).symm)
  rw [e]
  exact h
/-! ### laws_heldWeaving: function 32 -/
def laws_heldWeaving.m (k : Nat) (a0_0 : Int) (a0_1 : Int) (l0_2 : List Int) (l0_3 : List Int) (a0_4 : Int) (l0_5 : List (Int × Int)) (a0_6 : Bool) (a1 : Int) : Option (Int) := ((laws_heldChart.f k a0_0 a0_1 l0_2 a1).bind fun r1 => (if r1 < 0 then (some (-1)) else ((laws_heldIntS.f k l0_3 r1).bind fun r2 => (if r2 < 0 then (some (-1)) else ((laws_heldDeviationS.f k l0_5 r2).bind fun r3 => (if r3 < 0 then (some (-1)) else (some r3)))))))
def laws_heldWeaving.f (k : Nat) (a0_0 : Int) (a0_1 : Int) (l0_2 : List Int) (l0_3 : List Int) (a0_4 : Int) (l0_5 : List (Int × Int)) (a0_6 : Bool) (a1 : Int) : Option (Int) := laws_heldWeaving.m k a0_0 a0_1 l0_2 l0_3 a0_4 l0_5 a0_6 a1
noncomputable def laws_heldWeaving.spec (k : Nat) : FnSpec := ⟨[.ag [.d (.int .i64) none, .d (.int .i64) none, .d (.sl (.int .i64)) none, .d (.sl (.int .i64)) none, .d (.int .i64) none, .d (.sl (.pair (.int .i64) (.int .i64))) none, .d .bool none], .d (.int .i64) none], [.d (.int .i64) none], fun x => laws_heldWeaving.f k x.1 x.2.1 x.2.2.1 x.2.2.2.1 x.2.2.2.2.1 x.2.2.2.2.2.1 x.2.2.2.2.2.2.1 x.2.2.2.2.2.2.2⟩
noncomputable def laws_heldWeaving.T : FnText := ⟨(conv [] (bodyOf Go.Proofs.Try.f32) 0).1, Go.Proofs.Try.f32.results.toList, 24, [], [.ag [.d (.int .i64) none, .d (.int .i64) none, .d (.sl (.int .i64)) none, .d (.sl (.int .i64)) none, .d (.int .i64) none, .d (.sl (.pair (.int .i64) (.int .i64))) none, .d .bool none], .d (.int .i64) none], [.d (.int .i64) none]⟩
noncomputable def laws_heldWeaving.tbl (k : Nat) : Tbl := [(77, laws_heldChart.spec k), (78, laws_heldIntS.spec k), (79, laws_heldDeviationS.spec k)]
theorem laws_heldWeaving.e (k : Nat) (o : Nat → St → Option (Int)) (a0_0 : Int) (a0_1 : Int) (l0_2 : List Int) (l0_3 : List Int) (a0_4 : Int) (l0_5 : List (Int × Int)) (a0_6 : Bool) (a1 : Int) : laws_heldWeaving.T.main tyt (laws_heldWeaving.tbl k) o (a0_0, a0_1, l0_2, l0_3, a0_4, l0_5, a0_6, a1) = laws_heldWeaving.m k a0_0 a0_1 l0_2 l0_3 a0_4 l0_5 a0_6 a1 := by kernel_rfl
theorem laws_heldWeaving.ok : laws_heldWeaving.T.ok = true := by kernel_rfl
theorem laws_heldWeaving.tblok (k : Nat) : TblOk Go.Proofs.Try.prog (laws_heldWeaving.tbl k) := TblOk.cons (laws_heldChart.sound k) (TblOk.cons (laws_heldIntS.sound k) (TblOk.cons (laws_heldDeviationS.sound k) (TblOk.nil _)))
theorem laws_heldWeaving.sound (k : Nat) : Sound Go.Proofs.Try.prog 32 (laws_heldWeaving.spec k) := by
  have h := fn_ok (F := laws_heldWeaving.T) (tbl := laws_heldWeaving.tbl) mixed tyok Go.Proofs.Try.func32 (by kernel_rfl) (c0 := bodyOf Go.Proofs.Try.f32) rfl (conv_code _ _ _) rfl rfl laws_heldWeaving.ok k (fun j _ => laws_heldWeaving.tblok j)
  have e : laws_heldWeaving.spec k = ⟨laws_heldWeaving.T.ps, laws_heldWeaving.T.rs, laws_heldWeaving.T.ev tyt laws_heldWeaving.tbl k⟩ := congrArg (FnSpec.mk _ _) (funext fun x => ((laws_heldWeaving.e k (laws_heldWeaving.T.run tyt laws_heldWeaving.tbl k) x.1 x.2.1 x.2.2.1 x.2.2.2.1 x.2.2.2.2.1 x.2.2.2.2.2.1 x.2.2.2.2.2.2.1 x.2.2.2.2.2.2.2).trans (by rfl)).symm)
  rw [e]
  exact h
/-! ### laws_FnExactRunWeaving: function 9 -/
def laws_FnExactRunWeaving.m (k : Nat) (a0_0 : Int) (a0_1 : Int) (l0_2 : List Int) (l0_3 : List Int) (a0_4 : Int) (l0_5 : List (Int × Int)) (a0_6 : Bool) (l1 : List (Int × Int)) : Option (Bool) := ((laws_szWeaving.f k a0_0 a0_1 l0_2 l0_3 a0_4 l0_5 a0_6 1048576).bind fun r1 => (if r1 < 0 then (some true) else ((laws_szWeaveStepS.f k l1 r1).bind fun r2 => (if r2 < 0 then (some true) else ((laws_toWeaving.f k a0_0 a0_1 l0_2 l0_3 a0_4 l0_5 a0_6).bind fun r3 => ((laws_toWeaveStepS.f k l1).bind fun r4 => ((spec_RunWeaving.f k r3.1 r3.2.1 r3.2.2.1 r3.2.2.2.1 r3.2.2.2.2.1 r3.2.2.2.2.2.1 r3.2.2.2.2.2.2 r4).bind fun r5 => ((laws_toWeaving.f k a0_0 a0_1 l0_2 l0_3 a0_4 l0_5 a0_6).bind fun r6 => ((laws_toWeaveStepS.f k l1).bind fun r7 => ((impl_RunWeaving.f k r6.1 r6.2.1 r6.2.2.1 r6.2.2.2.1 r6.2.2.2.2.1 r6.2.2.2.2.2.1 r6.2.2.2.2.2.2 r7).bind fun r8 => ((laws_eqWeaving.f k r8.1 r8.2.1 r8.2.2.1 r8.2.2.2.1 r8.2.2.2.2.1 r8.2.2.2.2.2.1 r8.2.2.2.2.2.2.1 r5.1 r5.2.1 r5.2.2.1 r5.2.2.2.1 r5.2.2.2.2.1 r5.2.2.2.2.2.1 r5.2.2.2.2.2.2.1).bind fun r9 => (cond (!r9) (some false) (if ¬ r8.2.2.2.2.2.2.2.1 = r5.2.2.2.2.2.2.2.1 then (some false) else (if ¬ r8.2.2.2.2.2.2.2.2 = r5.2.2.2.2.2.2.2.2 then (some false) else ((laws_toWeaving.f k a0_0 a0_1 l0_2 l0_3 a0_4 l0_5 a0_6).bind fun r10 => ((laws_eqWeaving.f k r6.1 r6.2.1 r6.2.2.1 r6.2.2.2.1 r6.2.2.2.2.1 r6.2.2.2.2.2.1 r6.2.2.2.2.2.2 r10.1 r10.2.1 r10.2.2.1 r10.2.2.2.1 r10.2.2.2.2.1 r10.2.2.2.2.2.1 r10.2.2.2.2.2.2).bind fun r11 => (cond (!r11) (some false) ((laws_toWeaveStepS.f k l1).bind fun r12 => ((laws_eqWeaveStepS.f k r7 r12).bind fun r13 => (cond (!r13) (some false) ((laws_markWeaving.f k r6.1 r6.2.1 r6.2.2.1 r6.2.2.2.1 r6.2.2.2.2.1 r6.2.2.2.2.2.1 r6.2.2.2.2.2.2 1).bind fun r14 => ((laws_markWeaveStepS.f k r7 r14.1).bind fun r15 => (if r15.1 < 0 then (some false) else ((laws_eqWeaving.f k r8.1 r8.2.1 r8.2.2.1 r8.2.2.2.1 r8.2.2.2.2.1 r8.2.2.2.2.2.1 r8.2.2.2.2.2.2.1 r5.1 r5.2.1 r5.2.2.1 r5.2.2.2.1 r5.2.2.2.2.1 r5.2.2.2.2.2.1 r5.2.2.2.2.2.2.1).bind fun r16 => (cond (!r16) (some false) (if ¬ r8.2.2.2.2.2.2.2.1 = r5.2.2.2.2.2.2.2.1 then (some false) else (if ¬ r8.2.2.2.2.2.2.2.2 = r5.2.2.2.2.2.2.2.2 then (some false) else ((laws_markWeaving.f k r8.1 r8.2.1 r8.2.2.1 r8.2.2.2.1 r8.2.2.2.2.1 r8.2.2.2.2.2.1 r8.2.2.2.2.2.2.1 1).bind fun r17 => ((laws_heldWeaving.f k r8.1 r8.2.1 r17.2.1 r17.2.2.1 r8.2.2.2.2.1 r17.2.2.2 r8.2.2.2.2.2.2.1 1).bind fun r18 => (if r18 < 0 then (some false) else (if ¬ r18 = r17.1 then (some false) else ((laws_toWeaving.f k a0_0 a0_1 l0_2 l0_3 a0_4 l0_5 a0_6).bind fun r19 => ((laws_toWeaveStepS.f k l1).bind fun r20 => ((impl_RunWeaving.f k r19.1 r19.2.1 r19.2.2.1 r19.2.2.2.1 r19.2.2.2.2.1 r19.2.2.2.2.2.1 r19.2.2.2.2.2.2 r20).bind fun r21 => ((laws_eqWeaving.f k r21.1 r21.2.1 r21.2.2.1 r21.2.2.2.1 r21.2.2.2.2.1 r21.2.2.2.2.2.1 r21.2.2.2.2.2.2.1 r5.1 r5.2.1 r5.2.2.1 r5.2.2.2.1 r5.2.2.2.2.1 r5.2.2.2.2.2.1 r5.2.2.2.2.2.2.1).bind fun r22 => (cond (!r22) (some false) (if ¬ r21.2.2.2.2.2.2.2.1 = r5.2.2.2.2.2.2.2.1 then (some false) else (if ¬ r21.2.2.2.2.2.2.2.2 = r5.2.2.2.2.2.2.2.2 then (some false) else ((laws_heldWeaving.f k r8.1 r8.2.1 r17.2.1 r17.2.2.1 r8.2.2.2.2.1 r17.2.2.2 r8.2.2.2.2.2.2.1 1).bind fun r23 => (if r23 < 0 then (some false) else (if ¬ r23 = r17.1 then (some false) else (some true))))))))))))))))))))))))))))))))))))))))))
def laws_FnExactRunWeaving.f (k : Nat) (a0_0 : Int) (a0_1 : Int) (l0_2 : List Int) (l0_3 : List Int) (a0_4 : Int) (l0_5 : List (Int × Int)) (a0_6 : Bool) (l1 : List (Int × Int)) : Option (Bool) := laws_FnExactRunWeaving.m k a0_0 a0_1 l0_2 l0_3 a0_4 l0_5 a0_6 l1
noncomputable def laws_FnExactRunWeaving.spec (k : Nat) : FnSpec := ⟨[.ag [.d (.int .i64) none, .d (.int .i64) none, .d (.sl (.int .i64)) none, .d (.sl (.int .i64)) none, .d (.int .i64) none, .d (.sl (.pair (.int .i64) (.int .i64))) none, .d .bool none], .d (.sl (.pair (.int .i64) (.int .i64))) none], [.d .bool none], fun x => laws_FnExactRunWeaving.f k x.1 x.2.1 x.2.2.1 x.2.2.2.1 x.2.2.2.2.1 x.2.2.2.2.2.1 x.2.2.2.2.2.2.1 x.2.2.2.2.2.2.2⟩
noncomputable def laws_FnExactRunWeaving.T : FnText := ⟨(conv [] (bodyOf Go.Proofs.Try.f9) 0).1, Go.Proofs.Try.f9.results.toList, 140, [], [.ag [.d (.int .i64) none, .d (.int .i64) none, .d (.sl (.int .i64)) none, .d (.sl (.int .i64)) none, .d (.int .i64) none, .d (.sl (.pair (.int .i64) (.int .i64))) none, .d .bool none], .d (.sl (.pair (.int .i64) (.int .i64))) none], [.d .bool none]⟩
noncomputable def laws_FnExactRunWeaving.tbl (k : Nat) : Tbl := [(49, laws_szWeaving.spec k), (52, laws_szWeaveStepS.spec k), (50, laws_toWeaving.spec k), (53, laws_toWeaveStepS.spec k), (42, spec_RunWeaving.spec k), (41, impl_RunWeaving.spec k), (28, laws_eqWeaving.spec k), (54, laws_eqWeaveStepS.spec k), (31, laws_markWeaving.spec k), (55, laws_markWeaveStepS.spec k), (32, laws_heldWeaving.spec k)]
theorem laws_FnExactRunWeaving.e (k : Nat) (o : Nat → St → Option (Bool)) (a0_0 : Int) (a0_1 : Int) (l0_2 : List Int) (l0_3 : List Int) (a0_4 : Int) (l0_5 : List (Int × Int)) (a0_6 : Bool) (l1 : List (Int × Int)) : laws_FnExactRunWeaving.T.main tyt (laws_FnExactRunWeaving.tbl k) o (a0_0, a0_1, l0_2, l0_3, a0_4, l0_5, a0_6, l1) = laws_FnExactRunWeaving.m k a0_0 a0_1 l0_2 l0_3 a0_4 l0_5 a0_6 l1 := by kernel_rfl
theorem laws_FnExactRunWeaving.ok : laws_FnExactRunWeaving.T.ok = true := by kernel_rfl
theorem laws_FnExactRunWeaving.tblok (k : Nat) : TblOk Go.Proofs.Try.prog (laws_FnExactRunWeaving.tbl k) := TblOk.cons (laws_szWeaving.sound k) (TblOk.cons (laws_szWeaveStepS.sound k) (TblOk.cons (laws_toWeaving.sound k) (TblOk.cons (laws_toWeaveStepS.sound k) (TblOk.cons (spec_RunWeaving.sound k) (TblOk.cons (impl_RunWeaving.sound k) (TblOk.cons (laws_eqWeaving.sound k) (TblOk.cons (laws_eqWeaveStepS.sound k) (TblOk.cons (laws_markWeaving.sound k) (TblOk.cons (laws_markWeaveStepS.sound k) (TblOk.cons (laws_heldWeaving.sound k) (TblOk.nil _)))))))))))
theorem laws_FnExactRunWeaving.sound (k : Nat) : Sound Go.Proofs.Try.prog 9 (laws_FnExactRunWeaving.spec k) := by
  have h := fn_ok (F := laws_FnExactRunWeaving.T) (tbl := laws_FnExactRunWeaving.tbl) mixed tyok Go.Proofs.Try.func9 (by kernel_rfl) (c0 := bodyOf Go.Proofs.Try.f9) rfl (conv_code _ _ _) rfl rfl laws_FnExactRunWeaving.ok k (fun j _ => laws_FnExactRunWeaving.tblok j)
  have e : laws_FnExactRunWeaving.spec k = ⟨laws_FnExactRunWeaving.T.ps, laws_FnExactRunWeaving.T.rs, laws_FnExactRunWeaving.T.ev tyt laws_FnExactRunWeaving.tbl k⟩ := congrArg (FnSpec.mk _ _) (funext fun x => ((laws_FnExactRunWeaving.e k (laws_FnExactRunWeaving.T.run tyt laws_FnExactRunWeaving.tbl k) x.1 x.2.1 x.2.2.1 x.2.2.2.1 x.2.2.2.2.1 x.2.2.2.2.2.1 x.2.2.2.2.2.2.1 x.2.2.2.2.2.2.2).trans (by rfl)).symm)
  rw [e]
  exact h

/-- The pure statement. -/
def Pure : Prop := ∀ (a0_0 : Int) (a0_1 : Int) (l0_2 : List Int) (l0_3 : List Int) (a0_4 : Int) (l0_5 : List (Int × Int)) (a0_6 : Bool) (l1 : List (Int × Int)), ((Lit.int .i64 a0_0).wf = true) → ((Lit.int .i64 a0_1).wf = true) → (l0_2.length * 8 ≤ 140737488351232) → (∀ y0 ∈ l0_2, (Lit.int .i64 y0).wf = true) → (l0_3.length * 8 ≤ 140737488351232) → (∀ y0 ∈ l0_3, (Lit.int .i64 y0).wf = true) → ((Lit.int .i64 a0_4).wf = true) → (l0_5.length * 16 ≤ 140737488351232) → (∀ y0 ∈ l0_5, ((Lit.int .i64 y0.1).wf = true) ∧ (Lit.int .i64 y0.2).wf = true) → (l1.length * 16 ≤ 140737488351232) → (∀ y0 ∈ l1, ((Lit.int .i64 y0.1).wf = true) ∧ (Lit.int .i64 y0.2).wf = true) → ∃ k, laws_FnExactRunWeaving.f k a0_0 a0_1 l0_2 l0_3 a0_4 l0_5 a0_6 l1 = some true
end Go.Proofs.Ytebljeaeoedgjaa.DFnExactRunWeaving
