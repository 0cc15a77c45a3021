-- Printed by this session's own program (wip/deep/drow.py); Lean checks it.
import Derived.Test.YteiaakppjcpgcaaDn26
import Derived.Test.YteiaakppjcpgcaaProg
set_option linter.unusedVariables false
set_option maxRecDepth 100000
namespace Go.Proofs.Yteiaakppjcpgcaa.DFnExactPutPart
open Go Go.Proofs.YteiaakppjcpgcaaD
def tyt3 : TI := ⟨.int .i64, 1, 8, (.int .i64)⟩
def tyt4 : TI := ⟨.bool, 1, 1, .bool⟩
def tyt22 : TI := ⟨.slice 3, 1, 24, (.sl (.int .i64))⟩
def tyt24 : TI := ⟨.struct #[⟨ "Width", 3, 0, false, "", "", 0⟩, ⟨ "Height", 3, 1, false, "", "", 8⟩, ⟨ "Knots", 22, 2, false, "", "", 16⟩], 3, 40, (.pair (.int .i64) (.pair (.int .i64) (.sl (.int .i64))))⟩
def tyt26 : TI := ⟨.struct #[⟨ "Width", 3, 0, false, "", "", 0⟩, ⟨ "Height", 3, 1, false, "", "", 8⟩, ⟨ "Knots", 22, 2, false, "", "", 16⟩], 3, 40, (.pair (.int .i64) (.pair (.int .i64) (.sl (.int .i64))))⟩
def tyt44 : TI := ⟨.func #[3] #[4] false, 1, 8, .fn⟩
def tyt : TT := [(3, tyt3), (4, tyt4), (22, tyt22), (24, tyt24), (26, tyt26), (44, tyt44)]
theorem mixed : Go.Proofs.Try.prog.follows .mixedOrders = true := by kernel_rfl
theorem tok3 : TOk1 Go.Proofs.Try.prog 3 (tyt3) := TOk1.of (by kernel_rfl) (by kernel_rfl) (by kernel_rfl) (by kernel_rfl) (by kernel_rfl) (by kernel_rfl) (by kernel_rfl) (fun h => nomatch (show false = true from h)) (fun h => nomatch (show false = true from h))
theorem tok4 : TOk1 Go.Proofs.Try.prog 4 (tyt4) := TOk1.of (by kernel_rfl) (by kernel_rfl) (by kernel_rfl) (by kernel_rfl) (by kernel_rfl) (by kernel_rfl) (by kernel_rfl) (fun h => nomatch (show false = true from h)) (fun h => nomatch (show false = true from h))
theorem tok22 : TOk1 Go.Proofs.Try.prog 22 (tyt22) := TOk1.of (by kernel_rfl) (by kernel_rfl) (by kernel_rfl) (by kernel_rfl) (by kernel_rfl) (by kernel_rfl) (by kernel_rfl) (fun h => nomatch (show false = true from h)) (fun h => nomatch (show false = true from h))
theorem tok24 : TOk1 Go.Proofs.Try.prog 24 (tyt24) := TOk1.of (by kernel_rfl) (by kernel_rfl) (by kernel_rfl) (by kernel_rfl) (by kernel_rfl) (by kernel_rfl) (by kernel_rfl) (fun _ => by kernel_rfl) (fun h => nomatch (show false = true from h))
theorem tok26 : TOk1 Go.Proofs.Try.prog 26 (tyt26) := TOk1.of (by kernel_rfl) (by kernel_rfl) (by kernel_rfl) (by kernel_rfl) (by kernel_rfl) (by kernel_rfl) (by kernel_rfl) (fun _ => by kernel_rfl) (fun h => nomatch (show false = true from h))
theorem tok44 : TOk1 Go.Proofs.Try.prog 44 (tyt44) := TOk1.of (by kernel_rfl) (by kernel_rfl) (by kernel_rfl) (by kernel_rfl) (by kernel_rfl) (by kernel_rfl) (by kernel_rfl) (fun h => nomatch (show false = true from h)) (fun h => nomatch (show false = true from h))
theorem tyok : TOk Go.Proofs.Try.prog tyt := TOk.cons tok3 (TOk.cons tok4 (TOk.cons tok22 (TOk.cons tok24 (TOk.cons tok26 (TOk.cons tok44 (TOk.nil _))))))
/-! ### laws_szIntS: function 53 -/
def laws_szIntS.m (k : Nat) (l0 : List Int) (a1 : Int) : Option (Int) := (if (w64 (a1 - (l0.length : Int))) < 0 then (some (-1)) else (some (w64 (a1 - (l0.length : Int)))))
def laws_szIntS.f (k : Nat) (l0 : List Int) (a1 : Int) : Option (Int) := laws_szIntS.m k l0 a1
noncomputable def laws_szIntS.spec (k : Nat) : FnSpec := ⟨[.d (.sl (.int .i64)) none, .d (.int .i64) none], [.d (.int .i64) none], fun x => laws_szIntS.f k x.1 x.2⟩
noncomputable def laws_szIntS.T : FnText := ⟨(conv [] (bodyOf Go.Proofs.Try.f53) 0).1, Go.Proofs.Try.f53.results.toList, 12, [], [.d (.sl (.int .i64)) none, .d (.int .i64) none], [.d (.int .i64) none]⟩
noncomputable def laws_szIntS.tbl (k : Nat) : Tbl := []
theorem laws_szIntS.e (k : Nat) (o : Nat → St → Option (Int)) (l0 : List Int) (a1 : Int) : laws_szIntS.T.main tyt (laws_szIntS.tbl k) o (l0, a1) = laws_szIntS.m k l0 a1 := by kernel_rfl
theorem laws_szIntS.ok : laws_szIntS.T.ok = true := by kernel_rfl
theorem laws_szIntS.tblok (k : Nat) : TblOk Go.Proofs.Try.prog (laws_szIntS.tbl k) := TblOk.nil _
theorem laws_szIntS.sound (k : Nat) : Sound Go.Proofs.Try.prog 53 (laws_szIntS.spec k) := by
  have h := fn_ok (F := laws_szIntS.T) (tbl := laws_szIntS.tbl) mixed tyok Go.Proofs.Try.func53 (by kernel_rfl) (c0 := bodyOf Go.Proofs.Try.f53) rfl (conv_code _ _ _) rfl rfl laws_szIntS.ok k (fun j _ => laws_szIntS.tblok j)
  have e : laws_szIntS.spec k = ⟨laws_szIntS.T.ps, laws_szIntS.T.rs, laws_szIntS.T.ev tyt laws_szIntS.tbl k⟩ := congrArg (FnSpec.mk _ _) (funext fun x => ((laws_szIntS.e k (laws_szIntS.T.run tyt laws_szIntS.tbl k) x.1 x.2).trans (by rfl)).symm)
  rw [e]
  exact h
/-! ### laws_szChart: function 15 -/
def laws_szChart.m (k : Nat) (a0_0 : Int) (a0_1 : Int) (l0_2 : List Int) (a1 : Int) : Option (Int) := ((laws_szIntS.f k l0_2 a1).bind fun r1 => (if r1 < 0 then (some (-1)) else (some r1)))
def laws_szChart.f (k : Nat) (a0_0 : Int) (a0_1 : Int) (l0_2 : List Int) (a1 : Int) : Option (Int) := laws_szChart.m k a0_0 a0_1 l0_2 a1
noncomputable def laws_szChart.spec (k : Nat) : FnSpec := ⟨[.ag [.d (.int .i64) none, .d (.int .i64) none, .d (.sl (.int .i64)) none], .d (.int .i64) none], [.d (.int .i64) none], fun x => laws_szChart.f k x.1 x.2.1 x.2.2.1 x.2.2.2⟩
noncomputable def laws_szChart.T : FnText := ⟨(conv [] (bodyOf Go.Proofs.Try.f15) 0).1, Go.Proofs.Try.f15.results.toList, 12, [], [.ag [.d (.int .i64) none, .d (.int .i64) none, .d (.sl (.int .i64)) none], .d (.int .i64) none], [.d (.int .i64) none]⟩
noncomputable def laws_szChart.tbl (k : Nat) : Tbl := [(53, laws_szIntS.spec k)]
theorem laws_szChart.e (k : Nat) (o : Nat → St → Option (Int)) (a0_0 : Int) (a0_1 : Int) (l0_2 : List Int) (a1 : Int) : laws_szChart.T.main tyt (laws_szChart.tbl k) o (a0_0, a0_1, l0_2, a1) = laws_szChart.m k a0_0 a0_1 l0_2 a1 := by kernel_rfl
theorem laws_szChart.ok : laws_szChart.T.ok = true := by kernel_rfl
theorem laws_szChart.tblok (k : Nat) : TblOk Go.Proofs.Try.prog (laws_szChart.tbl k) := TblOk.cons (laws_szIntS.sound k) (TblOk.nil _)
theorem laws_szChart.sound (k : Nat) : Sound Go.Proofs.Try.prog 15 (laws_szChart.spec k) := by
  have h := fn_ok (F := laws_szChart.T) (tbl := laws_szChart.tbl) mixed tyok Go.Proofs.Try.func15 (by kernel_rfl) (c0 := bodyOf Go.Proofs.Try.f15) rfl (conv_code _ _ _) rfl rfl laws_szChart.ok k (fun j _ => laws_szChart.tblok j)
  have e : laws_szChart.spec k = ⟨laws_szChart.T.ps, laws_szChart.T.rs, laws_szChart.T.ev tyt laws_szChart.tbl k⟩ := congrArg (FnSpec.mk _ _) (funext fun x => ((laws_szChart.e k (laws_szChart.T.run tyt laws_szChart.tbl k) x.1 x.2.1 x.2.2.1 x.2.2.2).trans (by rfl)).symm)
  rw [e]
  exact h
/-! ### laws_toIntS: function 42 -/
def laws_toIntS.b4 (o4 : List Int → List Int → Int → Option (List Int)) (k : Nat) (l0_4 : List Int) (l1_4 : List Int) (x2_4 : Int) : Option (List Int) := (if x2_4 < (l0_4.length : Int) then ((chk l0_4.length x2_4).bind fun i2 => ((chk l1_4.length x2_4).bind fun i3 => (o4 l0_4 (l1_4.set i3 (l0_4.getD i2 0)) (w64 (x2_4 + 1))))) else (some l1_4))
def laws_toIntS.l4 : Nat → List Int → List Int → Int → Option (List Int)
  | 0, _, _, _ => none
  | k + 1, l0_4, l1_4, x2_4 => laws_toIntS.b4 (laws_toIntS.l4 k) k l0_4 l1_4 x2_4
def laws_toIntS.m (o4 : List Int → List Int → Int → Option (List Int)) (k : Nat) (l0 : List Int) : Option (List Int) := ((mkl 17592186044416 (l0.length : Int) (l0.length : Int)).bind fun n1 => (o4 l0 (List.replicate n1 (0 : Int)) 0))
def laws_toIntS.f (k : Nat) (l0 : List Int) : Option (List Int) := laws_toIntS.m (laws_toIntS.l4 k) k l0
noncomputable def laws_toIntS.spec (k : Nat) : FnSpec := ⟨[.d (.sl (.int .i64)) none], [.d (.sl (.int .i64)) (some 3)], fun x => laws_toIntS.f k x⟩
def laws_toIntS.S4 (l0_4 : List Int) (l1_4 : List Int) (x2_4 : Int) : St := ⟨[(0, .val (.sl (.int .i64)) l0_4), (3, .ref 100), (4, .val (.int .i64) x2_4)], [(100, some (.row 3 (.int .i64) l1_4))], 1000⟩
noncomputable def laws_toIntS.T : FnText := ⟨(conv [] (bodyOf Go.Proofs.Try.f42) 0).1, Go.Proofs.Try.f42.results.toList, 22, [(4, [(0, .rd (.sl (.int .i64))), (3, .own 3 (.int .i64) 100), (4, .rd (.int .i64))])], [.d (.sl (.int .i64)) none], [.d (.sl (.int .i64)) (some 3)]⟩
noncomputable def laws_toIntS.tbl (k : Nat) : Tbl := []
theorem laws_toIntS.e4 (k : Nat) (o : Nat → St → Option (List Int)) (l0_4 : List Int) (l1_4 : List Int) (x2_4 : Int) : laws_toIntS.T.step tyt (laws_toIntS.tbl k) o 4 (laws_toIntS.S4 l0_4 l1_4 x2_4) = laws_toIntS.b4 (fun l0_4 l1_4 x2_4 => o 4 (laws_toIntS.S4 l0_4 l1_4 x2_4)) k l0_4 l1_4 x2_4 := by kernel_rfl
theorem laws_toIntS.e (k : Nat) (o : Nat → St → Option (List Int)) (l0 : List Int) : laws_toIntS.T.main tyt (laws_toIntS.tbl k) o l0 = laws_toIntS.m (fun l0_4 l1_4 x2_4 => o 4 (laws_toIntS.S4 l0_4 l1_4 x2_4)) k l0 := by kernel_rfl
theorem laws_toIntS.ok : laws_toIntS.T.ok = true := by kernel_rfl
theorem laws_toIntS.run (k : Nat) : (∀ (l0_4 : List Int) (l1_4 : List Int) (x2_4 : Int), laws_toIntS.T.run tyt laws_toIntS.tbl k 4 (laws_toIntS.S4 l0_4 l1_4 x2_4) = laws_toIntS.l4 k l0_4 l1_4 x2_4) := by
  induction k with
  | zero => exact fun l0_4 l1_4 x2_4 => rfl
  | succ k ih =>
    exact fun l0_4 l1_4 x2_4 => by
      have q4 : (fun l0_4 l1_4 x2_4 => laws_toIntS.T.run tyt laws_toIntS.tbl k 4 (laws_toIntS.S4 l0_4 l1_4 x2_4)) = laws_toIntS.l4 k := by funext l0_4 l1_4 x2_4; exact ih l0_4 l1_4 x2_4
      exact (laws_toIntS.e4 k (laws_toIntS.T.run tyt laws_toIntS.tbl k) l0_4 l1_4 x2_4).trans (by rw [q4]; rfl)
theorem laws_toIntS.tblok (k : Nat) : TblOk Go.Proofs.Try.prog (laws_toIntS.tbl k) := TblOk.nil _
theorem laws_toIntS.sound (k : Nat) : Sound Go.Proofs.Try.prog 42 (laws_toIntS.spec k) := by
  have h := fn_ok (F := laws_toIntS.T) (tbl := laws_toIntS.tbl) mixed tyok Go.Proofs.Try.func42 (by kernel_rfl) (c0 := bodyOf Go.Proofs.Try.f42) rfl (conv_code _ _ _) rfl rfl laws_toIntS.ok k (fun j _ => laws_toIntS.tblok j)
  have q4 : (fun l0_4 l1_4 x2_4 => laws_toIntS.T.run tyt laws_toIntS.tbl k 4 (laws_toIntS.S4 l0_4 l1_4 x2_4)) = laws_toIntS.l4 k := by funext l0_4 l1_4 x2_4; exact (laws_toIntS.run k) l0_4 l1_4 x2_4
  have e : laws_toIntS.spec k = ⟨laws_toIntS.T.ps, laws_toIntS.T.rs, laws_toIntS.T.ev tyt laws_toIntS.tbl k⟩ := congrArg (FnSpec.mk _ _) (funext fun x => ((laws_toIntS.e k (laws_toIntS.T.run tyt laws_toIntS.tbl k) x).trans (by rw [q4]; rfl)).symm)
  rw [e]
  exact h
/-! ### laws_toChart: function 17 -/
def laws_toChart.m (k : Nat) (a0_0 : Int) (a0_1 : Int) (l0_2 : List Int) : Option (Int × Int × List Int) := ((laws_toIntS.f k l0_2).bind fun r1 => (some (a0_0, a0_1, r1)))
def laws_toChart.f (k : Nat) (a0_0 : Int) (a0_1 : Int) (l0_2 : List Int) : Option (Int × Int × List Int) := laws_toChart.m k a0_0 a0_1 l0_2
noncomputable def laws_toChart.spec (k : Nat) : FnSpec := ⟨[.ag [.d (.int .i64) none, .d (.int .i64) none, .d (.sl (.int .i64)) none]], [.ag [.d (.int .i64) none, .d (.int .i64) none, .d (.sl (.int .i64)) (some 3)]], fun x => laws_toChart.f k x.1 x.2.1 x.2.2⟩
noncomputable def laws_toChart.T : FnText := ⟨(conv [] (bodyOf Go.Proofs.Try.f17) 0).1, Go.Proofs.Try.f17.results.toList, 15, [], [.ag [.d (.int .i64) none, .d (.int .i64) none, .d (.sl (.int .i64)) none]], [.ag [.d (.int .i64) none, .d (.int .i64) none, .d (.sl (.int .i64)) (some 3)]]⟩
noncomputable def laws_toChart.tbl (k : Nat) : Tbl := [(42, laws_toIntS.spec k)]
theorem laws_toChart.e (k : Nat) (o : Nat → St → Option (Int × Int × List Int)) (a0_0 : Int) (a0_1 : Int) (l0_2 : List Int) : laws_toChart.T.main tyt (laws_toChart.tbl k) o (a0_0, a0_1, l0_2) = laws_toChart.m k a0_0 a0_1 l0_2 := by kernel_rfl
theorem laws_toChart.ok : laws_toChart.T.ok = true := by kernel_rfl
theorem laws_toChart.tblok (k : Nat) : TblOk Go.Proofs.Try.prog (laws_toChart.tbl k) := TblOk.cons (laws_toIntS.sound k) (TblOk.nil _)
theorem laws_toChart.sound (k : Nat) : Sound Go.Proofs.Try.prog 17 (laws_toChart.spec k) := by
  have h := fn_ok (F := laws_toChart.T) (tbl := laws_toChart.tbl) mixed tyok Go.Proofs.Try.func17 (by kernel_rfl) (c0 := bodyOf Go.Proofs.Try.f17) rfl (conv_code _ _ _) rfl rfl laws_toChart.ok k (fun j _ => laws_toChart.tblok j)
  have e : laws_toChart.spec k = ⟨laws_toChart.T.ps, laws_toChart.T.rs, laws_toChart.T.ev tyt laws_toChart.tbl k⟩ := congrArg (FnSpec.mk _ _) (funext fun x => ((laws_toChart.e k (laws_toChart.T.run tyt laws_toChart.tbl k) x.1 x.2.1 x.2.2).trans (by rfl)).symm)
  rw [e]
  exact h
/-! ### spec_l1In: function 101 -/
def spec_l1In.m (k : Nat) (a0 : Int) (a1 : Int) (a2 : Int) : Option (Bool) := (if a1 ≤ a0 then (some (decide (a0 ≤ a2))) else (some false))
def spec_l1In.f (k : Nat) (a0 : Int) (a1 : Int) (a2 : Int) : Option (Bool) := spec_l1In.m k a0 a1 a2
noncomputable def spec_l1In.spec (k : Nat) : FnSpec := ⟨[.d (.int .i64) none, .d (.int .i64) none, .d (.int .i64) none], [.d .bool none], fun x => spec_l1In.f k x.1 x.2.1 x.2.2⟩
noncomputable def spec_l1In.T : FnText := ⟨(conv [] (bodyOf Go.Proofs.Try.f101) 0).1, Go.Proofs.Try.f101.results.toList, 15, [], [.d (.int .i64) none, .d (.int .i64) none, .d (.int .i64) none], [.d .bool none]⟩
noncomputable def spec_l1In.tbl (k : Nat) : Tbl := []
theorem spec_l1In.e (k : Nat) (o : Nat → St → Option (Bool)) (a0 : Int) (a1 : Int) (a2 : Int) : spec_l1In.T.main tyt (spec_l1In.tbl k) o (a0, a1, a2) = spec_l1In.m k a0 a1 a2 := by kernel_rfl
theorem spec_l1In.ok : spec_l1In.T.ok = true := by kernel_rfl
theorem spec_l1In.tblok (k : Nat) : TblOk Go.Proofs.Try.prog (spec_l1In.tbl k) := TblOk.nil _
theorem spec_l1In.sound (k : Nat) : Sound Go.Proofs.Try.prog 101 (spec_l1In.spec k) := by
  have h := fn_ok (F := spec_l1In.T) (tbl := spec_l1In.tbl) mixed tyok Go.Proofs.Try.func101 (by kernel_rfl) (c0 := bodyOf Go.Proofs.Try.f101) rfl (conv_code _ _ _) rfl rfl spec_l1In.ok k (fun j _ => spec_l1In.tblok j)
  have e : spec_l1In.spec k = ⟨spec_l1In.T.ps, spec_l1In.T.rs, spec_l1In.T.ev tyt spec_l1In.tbl k⟩ := congrArg (FnSpec.mk _ _) (funext fun x => ((spec_l1In.e k (spec_l1In.T.run tyt spec_l1In.tbl k) x.1 x.2.1 x.2.2).trans (by rfl)).symm)
  rw [e]
  exact h
/-! ### spec_l2Color: function 55 -/
def spec_l2Color.m (k : Nat) (a0 : Int) : Option (Bool) := ((spec_l1In.f k a0 0 5).bind fun r1 => (some r1))
def spec_l2Color.f (k : Nat) (a0 : Int) : Option (Bool) := spec_l2Color.m k a0
noncomputable def spec_l2Color.spec (k : Nat) : FnSpec := ⟨[.d (.int .i64) none], [.d .bool none], fun x => spec_l2Color.f k x⟩
noncomputable def spec_l2Color.T : FnText := ⟨(conv [] (bodyOf Go.Proofs.Try.f55) 0).1, Go.Proofs.Try.f55.results.toList, 5, [], [.d (.int .i64) none], [.d .bool none]⟩
noncomputable def spec_l2Color.tbl (k : Nat) : Tbl := [(101, spec_l1In.spec k)]
theorem spec_l2Color.e (k : Nat) (o : Nat → St → Option (Bool)) (a0 : Int) : spec_l2Color.T.main tyt (spec_l2Color.tbl k) o a0 = spec_l2Color.m k a0 := by kernel_rfl
theorem spec_l2Color.ok : spec_l2Color.T.ok = true := by kernel_rfl
theorem spec_l2Color.tblok (k : Nat) : TblOk Go.Proofs.Try.prog (spec_l2Color.tbl k) := TblOk.cons (spec_l1In.sound k) (TblOk.nil _)
theorem spec_l2Color.sound (k : Nat) : Sound Go.Proofs.Try.prog 55 (spec_l2Color.spec k) := by
  have h := fn_ok (F := spec_l2Color.T) (tbl := spec_l2Color.tbl) mixed tyok Go.Proofs.Try.func55 (by kernel_rfl) (c0 := bodyOf Go.Proofs.Try.f55) rfl (conv_code _ _ _) rfl rfl spec_l2Color.ok k (fun j _ => spec_l2Color.tblok j)
  have e : spec_l2Color.spec k = ⟨spec_l2Color.T.ps, spec_l2Color.T.rs, spec_l2Color.T.ev tyt spec_l2Color.tbl k⟩ := congrArg (FnSpec.mk _ _) (funext fun x => ((spec_l2Color.e k (spec_l2Color.T.run tyt spec_l2Color.tbl k) x).trans (by rfl)).symm)
  rw [e]
  exact h
/-! ### spec_l2Side: function 100 -/
def spec_l2Side.m (k : Nat) (a0 : Int) : Option (Bool) := ((spec_l1In.f k a0 1 8).bind fun r1 => (some r1))
def spec_l2Side.f (k : Nat) (a0 : Int) : Option (Bool) := spec_l2Side.m k a0
noncomputable def spec_l2Side.spec (k : Nat) : FnSpec := ⟨[.d (.int .i64) none], [.d .bool none], fun x => spec_l2Side.f k x⟩
noncomputable def spec_l2Side.T : FnText := ⟨(conv [] (bodyOf Go.Proofs.Try.f100) 0).1, Go.Proofs.Try.f100.results.toList, 5, [], [.d (.int .i64) none], [.d .bool none]⟩
noncomputable def spec_l2Side.tbl (k : Nat) : Tbl := [(101, spec_l1In.spec k)]
theorem spec_l2Side.e (k : Nat) (o : Nat → St → Option (Bool)) (a0 : Int) : spec_l2Side.T.main tyt (spec_l2Side.tbl k) o a0 = spec_l2Side.m k a0 := by kernel_rfl
theorem spec_l2Side.ok : spec_l2Side.T.ok = true := by kernel_rfl
theorem spec_l2Side.tblok (k : Nat) : TblOk Go.Proofs.Try.prog (spec_l2Side.tbl k) := TblOk.cons (spec_l1In.sound k) (TblOk.nil _)
theorem spec_l2Side.sound (k : Nat) : Sound Go.Proofs.Try.prog 100 (spec_l2Side.spec k) := by
  have h := fn_ok (F := spec_l2Side.T) (tbl := spec_l2Side.tbl) mixed tyok Go.Proofs.Try.func100 (by kernel_rfl) (c0 := bodyOf Go.Proofs.Try.f100) rfl (conv_code _ _ _) rfl rfl spec_l2Side.ok k (fun j _ => spec_l2Side.tblok j)
  have e : spec_l2Side.spec k = ⟨spec_l2Side.T.ps, spec_l2Side.T.rs, spec_l2Side.T.ev tyt spec_l2Side.tbl k⟩ := congrArg (FnSpec.mk _ _) (funext fun x => ((spec_l2Side.e k (spec_l2Side.T.run tyt spec_l2Side.tbl k) x).trans (by rfl)).symm)
  rw [e]
  exact h
/-! ### spec_l2Good: function 54 -/
def spec_l2Good.b3 (o3 : Int → Int → List Int → Int → Option (Bool)) (k : Nat) (x0_3 : Int) (x1_3 : Int) (l2_3 : List Int) (x3_3 : Int) : Option (Bool) := (if x3_3 < (l2_3.length : Int) then ((chk l2_3.length x3_3).bind fun i1 => ((spec_l2Color.f k (l2_3.getD i1 0)).bind fun r2 => (cond (!r2) (some false) (o3 x0_3 x1_3 l2_3 (w64 (x3_3 + 1)))))) else ((spec_l2Side.f k x0_3).bind fun r3 => (cond r3 ((spec_l2Side.f k x1_3).bind fun r4 => (cond r4 (some (decide ((l2_3.length : Int) = (w64 (x0_3 * x1_3))))) (some false))) (some false))))
def spec_l2Good.l3 : Nat → Int → Int → List Int → Int → Option (Bool)
  | 0, _, _, _, _ => none
  | k + 1, x0_3, x1_3, l2_3, x3_3 => spec_l2Good.b3 (spec_l2Good.l3 k) k x0_3 x1_3 l2_3 x3_3
def spec_l2Good.m (o3 : Int → Int → List Int → Int → Option (Bool)) (k : Nat) (a0_0 : Int) (a0_1 : Int) (l0_2 : List Int) : Option (Bool) := (o3 a0_0 a0_1 l0_2 0)
def spec_l2Good.f (k : Nat) (a0_0 : Int) (a0_1 : Int) (l0_2 : List Int) : Option (Bool) := spec_l2Good.m (spec_l2Good.l3 k) k a0_0 a0_1 l0_2
noncomputable def spec_l2Good.spec (k : Nat) : FnSpec := ⟨[.ag [.d (.int .i64) none, .d (.int .i64) none, .d (.sl (.int .i64)) none]], [.d .bool none], fun x => spec_l2Good.f k x.1 x.2.1 x.2.2⟩
def spec_l2Good.S3 (x0_3 : Int) (x1_3 : Int) (l2_3 : List Int) (x3_3 : Int) : St := ⟨[(1, .ptr 100 0), (3, .val (.int .i64) x3_3)], [(100, some (.box [.val (.int .i64) x0_3, .val (.int .i64) x1_3, .val (.sl (.int .i64)) l2_3]))], 1000⟩
noncomputable def spec_l2Good.T : FnText := ⟨(conv [] (bodyOf Go.Proofs.Try.f54) 0).1, Go.Proofs.Try.f54.results.toList, 37, [(3, [(1, .bx 100 [.rd (.int .i64), .rd (.int .i64), .rd (.sl (.int .i64))]), (3, .rd (.int .i64))])], [.ag [.d (.int .i64) none, .d (.int .i64) none, .d (.sl (.int .i64)) none]], [.d .bool none]⟩
noncomputable def spec_l2Good.tbl (k : Nat) : Tbl := [(55, spec_l2Color.spec k), (100, spec_l2Side.spec k)]
theorem spec_l2Good.e3 (k : Nat) (o : Nat → St → Option (Bool)) (x0_3 : Int) (x1_3 : Int) (l2_3 : List Int) (x3_3 : Int) : spec_l2Good.T.step tyt (spec_l2Good.tbl k) o 3 (spec_l2Good.S3 x0_3 x1_3 l2_3 x3_3) = spec_l2Good.b3 (fun x0_3 x1_3 l2_3 x3_3 => o 3 (spec_l2Good.S3 x0_3 x1_3 l2_3 x3_3)) k x0_3 x1_3 l2_3 x3_3 := by kernel_rfl
theorem spec_l2Good.e (k : Nat) (o : Nat → St → Option (Bool)) (a0_0 : Int) (a0_1 : Int) (l0_2 : List Int) : spec_l2Good.T.main tyt (spec_l2Good.tbl k) o (a0_0, a0_1, l0_2) = spec_l2Good.m (fun x0_3 x1_3 l2_3 x3_3 => o 3 (spec_l2Good.S3 x0_3 x1_3 l2_3 x3_3)) k a0_0 a0_1 l0_2 := by kernel_rfl
theorem spec_l2Good.ok : spec_l2Good.T.ok = true := by kernel_rfl
theorem spec_l2Good.run (k : Nat) : (∀ (x0_3 : Int) (x1_3 : Int) (l2_3 : List Int) (x3_3 : Int), spec_l2Good.T.run tyt spec_l2Good.tbl k 3 (spec_l2Good.S3 x0_3 x1_3 l2_3 x3_3) = spec_l2Good.l3 k x0_3 x1_3 l2_3 x3_3) := by
  induction k with
  | zero => exact fun x0_3 x1_3 l2_3 x3_3 => rfl
  | succ k ih =>
    exact fun x0_3 x1_3 l2_3 x3_3 => by
      have q3 : (fun x0_3 x1_3 l2_3 x3_3 => spec_l2Good.T.run tyt spec_l2Good.tbl k 3 (spec_l2Good.S3 x0_3 x1_3 l2_3 x3_3)) = spec_l2Good.l3 k := by funext x0_3 x1_3 l2_3 x3_3; exact ih x0_3 x1_3 l2_3 x3_3
      exact (spec_l2Good.e3 k (spec_l2Good.T.run tyt spec_l2Good.tbl k) x0_3 x1_3 l2_3 x3_3).trans (by rw [q3]; rfl)
theorem spec_l2Good.tblok (k : Nat) : TblOk Go.Proofs.Try.prog (spec_l2Good.tbl k) := TblOk.cons (spec_l2Color.sound k) (TblOk.cons (spec_l2Side.sound k) (TblOk.nil _))
theorem spec_l2Good.sound (k : Nat) : Sound Go.Proofs.Try.prog 54 (spec_l2Good.spec k) := by
  have h := fn_ok (F := spec_l2Good.T) (tbl := spec_l2Good.tbl) mixed tyok Go.Proofs.Try.func54 (by kernel_rfl) (c0 := bodyOf Go.Proofs.Try.f54) rfl (conv_code _ _ _) rfl rfl spec_l2Good.ok k (fun j _ => spec_l2Good.tblok j)
  have q3 : (fun x0_3 x1_3 l2_3 x3_3 => spec_l2Good.T.run tyt spec_l2Good.tbl k 3 (spec_l2Good.S3 x0_3 x1_3 l2_3 x3_3)) = spec_l2Good.l3 k := by funext x0_3 x1_3 l2_3 x3_3; exact (spec_l2Good.run k) x0_3 x1_3 l2_3 x3_3
  have e : spec_l2Good.spec k = ⟨spec_l2Good.T.ps, spec_l2Good.T.rs, spec_l2Good.T.ev tyt spec_l2Good.tbl k⟩ := congrArg (FnSpec.mk _ _) (funext fun x => ((spec_l2Good.e k (spec_l2Good.T.run tyt spec_l2Good.tbl k) x.1 x.2.1 x.2.2).trans (by rw [q3]; rfl)).symm)
  rw [e]
  exact h
/-! ### spec_l2Within: function 112 -/
def spec_l2Within.m (k : Nat) (a0_0 : Int) (a0_1 : Int) (l0_2 : List Int) (a1 : Int) (a2 : Int) : Option (Bool) := ((spec_l2Good.f k a0_0 a0_1 l0_2).bind fun r1 => (cond r1 ((spec_l1In.f k a1 0 (w64 (a0_1 - 1))).bind fun r2 => (cond r2 ((spec_l1In.f k a2 0 (w64 (a0_0 - 1))).bind fun r3 => (some r3)) (some false))) (some false)))
def spec_l2Within.f (k : Nat) (a0_0 : Int) (a0_1 : Int) (l0_2 : List Int) (a1 : Int) (a2 : Int) : Option (Bool) := spec_l2Within.m k a0_0 a0_1 l0_2 a1 a2
noncomputable def spec_l2Within.spec (k : Nat) : FnSpec := ⟨[.ag [.d (.int .i64) none, .d (.int .i64) none, .d (.sl (.int .i64)) none], .d (.int .i64) none, .d (.int .i64) none], [.d .bool none], fun x => spec_l2Within.f k x.1 x.2.1 x.2.2.1 x.2.2.2.1 x.2.2.2.2⟩
noncomputable def spec_l2Within.T : FnText := ⟨(conv [] (bodyOf Go.Proofs.Try.f112) 0).1, Go.Proofs.Try.f112.results.toList, 23, [], [.ag [.d (.int .i64) none, .d (.int .i64) none, .d (.sl (.int .i64)) none], .d (.int .i64) none, .d (.int .i64) none], [.d .bool none]⟩
noncomputable def spec_l2Within.tbl (k : Nat) : Tbl := [(54, spec_l2Good.spec k), (101, spec_l1In.spec k)]
theorem spec_l2Within.e (k : Nat) (o : Nat → St → Option (Bool)) (a0_0 : Int) (a0_1 : Int) (l0_2 : List Int) (a1 : Int) (a2 : Int) : spec_l2Within.T.main tyt (spec_l2Within.tbl k) o (a0_0, a0_1, l0_2, a1, a2) = spec_l2Within.m k a0_0 a0_1 l0_2 a1 a2 := by kernel_rfl
theorem spec_l2Within.ok : spec_l2Within.T.ok = true := by kernel_rfl
theorem spec_l2Within.tblok (k : Nat) : TblOk Go.Proofs.Try.prog (spec_l2Within.tbl k) := TblOk.cons (spec_l2Good.sound k) (TblOk.cons (spec_l1In.sound k) (TblOk.nil _))
theorem spec_l2Within.sound (k : Nat) : Sound Go.Proofs.Try.prog 112 (spec_l2Within.spec k) := by
  have h := fn_ok (F := spec_l2Within.T) (tbl := spec_l2Within.tbl) mixed tyok Go.Proofs.Try.func112 (by kernel_rfl) (c0 := bodyOf Go.Proofs.Try.f112) rfl (conv_code _ _ _) rfl rfl spec_l2Within.ok k (fun j _ => spec_l2Within.tblok j)
  have e : spec_l2Within.spec k = ⟨spec_l2Within.T.ps, spec_l2Within.T.rs, spec_l2Within.T.ev tyt spec_l2Within.tbl k⟩ := congrArg (FnSpec.mk _ _) (funext fun x => ((spec_l2Within.e k (spec_l2Within.T.run tyt spec_l2Within.tbl k) x.1 x.2.1 x.2.2.1 x.2.2.2.1 x.2.2.2.2).trans (by rfl)).symm)
  rw [e]
  exact h
/-! ### spec_l2Fits: function 70 -/
def spec_l2Fits.m (k : Nat) (a0_0 : Int) (a0_1 : Int) (l0_2 : List Int) (a1 : Int) (a2 : Int) (a3 : Int) (a4 : Int) : Option (Bool) := ((spec_l2Within.f k a0_0 a0_1 l0_2 a1 a2).bind fun r1 => (cond r1 ((spec_l1In.f k a3 1 (w64 (a0_1 - a1))).bind fun r2 => (cond r2 ((spec_l1In.f k a4 1 (w64 (a0_0 - a2))).bind fun r3 => (some r3)) (some false))) (some false)))
def spec_l2Fits.f (k : Nat) (a0_0 : Int) (a0_1 : Int) (l0_2 : List Int) (a1 : Int) (a2 : Int) (a3 : Int) (a4 : Int) : Option (Bool) := spec_l2Fits.m k a0_0 a0_1 l0_2 a1 a2 a3 a4
noncomputable def spec_l2Fits.spec (k : Nat) : FnSpec := ⟨[.ag [.d (.int .i64) none, .d (.int .i64) none, .d (.sl (.int .i64)) none], .d (.int .i64) none, .d (.int .i64) none, .d (.int .i64) none, .d (.int .i64) none], [.d .bool none], fun x => spec_l2Fits.f k x.1 x.2.1 x.2.2.1 x.2.2.2.1 x.2.2.2.2.1 x.2.2.2.2.2.1 x.2.2.2.2.2.2⟩
noncomputable def spec_l2Fits.T : FnText := ⟨(conv [] (bodyOf Go.Proofs.Try.f70) 0).1, Go.Proofs.Try.f70.results.toList, 31, [], [.ag [.d (.int .i64) none, .d (.int .i64) none, .d (.sl (.int .i64)) none], .d (.int .i64) none, .d (.int .i64) none, .d (.int .i64) none, .d (.int .i64) none], [.d .bool none]⟩
noncomputable def spec_l2Fits.tbl (k : Nat) : Tbl := [(112, spec_l2Within.spec k), (101, spec_l1In.spec k)]
theorem spec_l2Fits.e (k : Nat) (o : Nat → St → Option (Bool)) (a0_0 : Int) (a0_1 : Int) (l0_2 : List Int) (a1 : Int) (a2 : Int) (a3 : Int) (a4 : Int) : spec_l2Fits.T.main tyt (spec_l2Fits.tbl k) o (a0_0, a0_1, l0_2, a1, a2, a3, a4) = spec_l2Fits.m k a0_0 a0_1 l0_2 a1 a2 a3 a4 := by kernel_rfl
theorem spec_l2Fits.ok : spec_l2Fits.T.ok = true := by kernel_rfl
theorem spec_l2Fits.tblok (k : Nat) : TblOk Go.Proofs.Try.prog (spec_l2Fits.tbl k) := TblOk.cons (spec_l2Within.sound k) (TblOk.cons (spec_l1In.sound k) (TblOk.nil _))
theorem spec_l2Fits.sound (k : Nat) : Sound Go.Proofs.Try.prog 70 (spec_l2Fits.spec k) := by
  have h := fn_ok (F := spec_l2Fits.T) (tbl := spec_l2Fits.tbl) mixed tyok Go.Proofs.Try.func70 (by kernel_rfl) (c0 := bodyOf Go.Proofs.Try.f70) rfl (conv_code _ _ _) rfl rfl spec_l2Fits.ok k (fun j _ => spec_l2Fits.tblok j)
  have e : spec_l2Fits.spec k = ⟨spec_l2Fits.T.ps, spec_l2Fits.T.rs, spec_l2Fits.T.ev tyt spec_l2Fits.tbl k⟩ := congrArg (FnSpec.mk _ _) (funext fun x => ((spec_l2Fits.e k (spec_l2Fits.T.run tyt spec_l2Fits.tbl k) x.1 x.2.1 x.2.2.1 x.2.2.2.1 x.2.2.2.2.1 x.2.2.2.2.2.1 x.2.2.2.2.2.2).trans (by rfl)).symm)
  rw [e]
  exact h
/-! ### spec_l1Own: function 102 -/
def spec_l1Own.m (k : Nat) (l0 : List Int) : Option (List Int) := ((app 17592186044416 ([] : List (Int)) l0).bind fun l1 => (some l1))
def spec_l1Own.f (k : Nat) (l0 : List Int) : Option (List Int) := spec_l1Own.m k l0
noncomputable def spec_l1Own.spec (k : Nat) : FnSpec := ⟨[.d (.sl (.int .i64)) none], [.d (.sl (.int .i64)) (some 3)], fun x => spec_l1Own.f k x⟩
noncomputable def spec_l1Own.T : FnText := ⟨(conv [] (bodyOf Go.Proofs.Try.f102) 0).1, Go.Proofs.Try.f102.results.toList, 6, [], [.d (.sl (.int .i64)) none], [.d (.sl (.int .i64)) (some 3)]⟩
noncomputable def spec_l1Own.tbl (k : Nat) : Tbl := []
theorem spec_l1Own.e (k : Nat) (o : Nat → St → Option (List Int)) (l0 : List Int) : spec_l1Own.T.main tyt (spec_l1Own.tbl k) o l0 = spec_l1Own.m k l0 := by kernel_rfl
theorem spec_l1Own.ok : spec_l1Own.T.ok = true := by kernel_rfl
theorem spec_l1Own.tblok (k : Nat) : TblOk Go.Proofs.Try.prog (spec_l1Own.tbl k) := TblOk.nil _
theorem spec_l1Own.sound (k : Nat) : Sound Go.Proofs.Try.prog 102 (spec_l1Own.spec k) := by
  have h := fn_ok (F := spec_l1Own.T) (tbl := spec_l1Own.tbl) mixed tyok Go.Proofs.Try.func102 (by kernel_rfl) (c0 := bodyOf Go.Proofs.Try.f102) rfl (conv_code _ _ _) rfl rfl spec_l1Own.ok k (fun j _ => spec_l1Own.tblok j)
  have e : spec_l1Own.spec k = ⟨spec_l1Own.T.ps, spec_l1Own.T.rs, spec_l1Own.T.ev tyt spec_l1Own.tbl k⟩ := congrArg (FnSpec.mk _ _) (funext fun x => ((spec_l1Own.e k (spec_l1Own.T.run tyt spec_l1Own.tbl k) x).trans (by rfl)).symm)
  rw [e]
  exact h
/-! ### spec_l2Own: function 56 -/
def spec_l2Own.m (k : Nat) (a0_0 : Int) (a0_1 : Int) (l0_2 : List Int) : Option (Int × Int × List Int) := ((spec_l1Own.f k l0_2).bind fun r1 => (some (a0_0, a0_1, r1)))
def spec_l2Own.f (k : Nat) (a0_0 : Int) (a0_1 : Int) (l0_2 : List Int) : Option (Int × Int × List Int) := spec_l2Own.m k a0_0 a0_1 l0_2
noncomputable def spec_l2Own.spec (k : Nat) : FnSpec := ⟨[.ag [.d (.int .i64) none, .d (.int .i64) none, .d (.sl (.int .i64)) none]], [.ag [.d (.int .i64) none, .d (.int .i64) none, .d (.sl (.int .i64)) (some 3)]], fun x => spec_l2Own.f k x.1 x.2.1 x.2.2⟩
noncomputable def spec_l2Own.T : FnText := ⟨(conv [] (bodyOf Go.Proofs.Try.f56) 0).1, Go.Proofs.Try.f56.results.toList, 11, [], [.ag [.d (.int .i64) none, .d (.int .i64) none, .d (.sl (.int .i64)) none]], [.ag [.d (.int .i64) none, .d (.int .i64) none, .d (.sl (.int .i64)) (some 3)]]⟩
noncomputable def spec_l2Own.tbl (k : Nat) : Tbl := [(102, spec_l1Own.spec k)]
theorem spec_l2Own.e (k : Nat) (o : Nat → St → Option (Int × Int × List Int)) (a0_0 : Int) (a0_1 : Int) (l0_2 : List Int) : spec_l2Own.T.main tyt (spec_l2Own.tbl k) o (a0_0, a0_1, l0_2) = spec_l2Own.m k a0_0 a0_1 l0_2 := by kernel_rfl
theorem spec_l2Own.ok : spec_l2Own.T.ok = true := by kernel_rfl
theorem spec_l2Own.tblok (k : Nat) : TblOk Go.Proofs.Try.prog (spec_l2Own.tbl k) := TblOk.cons (spec_l1Own.sound k) (TblOk.nil _)
theorem spec_l2Own.sound (k : Nat) : Sound Go.Proofs.Try.prog 56 (spec_l2Own.spec k) := by
  have h := fn_ok (F := spec_l2Own.T) (tbl := spec_l2Own.tbl) mixed tyok Go.Proofs.Try.func56 (by kernel_rfl) (c0 := bodyOf Go.Proofs.Try.f56) rfl (conv_code _ _ _) rfl rfl spec_l2Own.ok k (fun j _ => spec_l2Own.tblok j)
  have e : spec_l2Own.spec k = ⟨spec_l2Own.T.ps, spec_l2Own.T.rs, spec_l2Own.T.ev tyt spec_l2Own.tbl k⟩ := congrArg (FnSpec.mk _ _) (funext fun x => ((spec_l2Own.e k (spec_l2Own.T.run tyt spec_l2Own.tbl k) x.1 x.2.1 x.2.2).trans (by rfl)).symm)
  rw [e]
  exact h
/-! ### spec_l2At: function 113 -/
def spec_l2At.m (k : Nat) (a0_0 : Int) (a0_1 : Int) (l0_2 : List Int) (a1 : Int) (a2 : Int) : Option (Int) := ((chk l0_2.length (w64 ((w64 (a1 * a0_0)) + a2))).bind fun i1 => (some (l0_2.getD i1 0)))
def spec_l2At.f (k : Nat) (a0_0 : Int) (a0_1 : Int) (l0_2 : List Int) (a1 : Int) (a2 : Int) : Option (Int) := spec_l2At.m k a0_0 a0_1 l0_2 a1 a2
noncomputable def spec_l2At.spec (k : Nat) : FnSpec := ⟨[.ag [.d (.int .i64) none, .d (.int .i64) none, .d (.sl (.int .i64)) none], .d (.int .i64) none, .d (.int .i64) none], [.d (.int .i64) none], fun x => spec_l2At.f k x.1 x.2.1 x.2.2.1 x.2.2.2.1 x.2.2.2.2⟩
noncomputable def spec_l2At.T : FnText := ⟨(conv [] (bodyOf Go.Proofs.Try.f113) 0).1, Go.Proofs.Try.f113.results.toList, 17, [], [.ag [.d (.int .i64) none, .d (.int .i64) none, .d (.sl (.int .i64)) none], .d (.int .i64) none, .d (.int .i64) none], [.d (.int .i64) none]⟩
noncomputable def spec_l2At.tbl (k : Nat) : Tbl := []
theorem spec_l2At.e (k : Nat) (o : Nat → St → Option (Int)) (a0_0 : Int) (a0_1 : Int) (l0_2 : List Int) (a1 : Int) (a2 : Int) : spec_l2At.T.main tyt (spec_l2At.tbl k) o (a0_0, a0_1, l0_2, a1, a2) = spec_l2At.m k a0_0 a0_1 l0_2 a1 a2 := by kernel_rfl
theorem spec_l2At.ok : spec_l2At.T.ok = true := by kernel_rfl
theorem spec_l2At.tblok (k : Nat) : TblOk Go.Proofs.Try.prog (spec_l2At.tbl k) := TblOk.nil _
theorem spec_l2At.sound (k : Nat) : Sound Go.Proofs.Try.prog 113 (spec_l2At.spec k) := by
  have h := fn_ok (F := spec_l2At.T) (tbl := spec_l2At.tbl) mixed tyok Go.Proofs.Try.func113 (by kernel_rfl) (c0 := bodyOf Go.Proofs.Try.f113) rfl (conv_code _ _ _) rfl rfl spec_l2At.ok k (fun j _ => spec_l2At.tblok j)
  have e : spec_l2At.spec k = ⟨spec_l2At.T.ps, spec_l2At.T.rs, spec_l2At.T.ev tyt spec_l2At.tbl k⟩ := congrArg (FnSpec.mk _ _) (funext fun x => ((spec_l2At.e k (spec_l2At.T.run tyt spec_l2At.tbl k) x.1 x.2.1 x.2.2.1 x.2.2.2.1 x.2.2.2.2).trans (by rfl)).symm)
  rw [e]
  exact h
/-! ### spec_l2Put: function 71 -/
def spec_l2Put.b4 (o9 : Int → Int → Int → Int → List Int → Int → Int → List Int → Int → Int → List Int → Int → Int → List Int → Int → Int → Option (Int × Int × List Int)) (k : Nat) (x0_4 : Int) (x1_4 : Int) (x2_4 : Int) (x3_4 : Int) (l4_4 : List Int) (x5_4 : Int) (x6_4 : Int) (l7_4 : List Int) (x8_4 : Int) (x9_4 : Int) (l10_4 : List Int) (x11_4 : Int) (x12_4 : Int) (l13_4 : List Int) (x14_4 : Int) : Option (Int × Int × List Int) := (if x14_4 < x6_4 then (o9 x0_4 x1_4 x2_4 x3_4 l4_4 x5_4 x6_4 l7_4 x8_4 x9_4 l10_4 x11_4 x12_4 l13_4 x14_4 0) else (some (x11_4, x12_4, l13_4)))
def spec_l2Put.b9 (o4 : Int → Int → Int → Int → List Int → Int → Int → List Int → Int → Int → List Int → Int → Int → List Int → Int → Option (Int × Int × List Int)) (o9 : Int → Int → Int → Int → List Int → Int → Int → List Int → Int → Int → List Int → Int → Int → List Int → Int → Int → Option (Int × Int × List Int)) (k : Nat) (x0_9 : Int) (x1_9 : Int) (x2_9 : Int) (x3_9 : Int) (l4_9 : List Int) (x5_9 : Int) (x6_9 : Int) (l7_9 : List Int) (x8_9 : Int) (x9_9 : Int) (l10_9 : List Int) (x11_9 : Int) (x12_9 : Int) (l13_9 : List Int) (x14_9 : Int) (x15_9 : Int) : Option (Int × Int × List Int) := (if x15_9 < x5_9 then ((spec_l2At.f k x5_9 x6_9 l7_9 x14_9 x15_9).bind fun r2 => ((chk l13_9.length (w64 ((w64 ((w64 ((w64 (x0_9 + x14_9)) * x2_9)) + x1_9)) + x15_9))).bind fun i3 => (o9 x0_9 x1_9 x2_9 x3_9 l4_9 x5_9 x6_9 l7_9 x8_9 x9_9 l10_9 x11_9 x12_9 (l13_9.set i3 r2) x14_9 (w64 (x15_9 + 1))))) else (o4 x0_9 x1_9 x2_9 x3_9 l4_9 x5_9 x6_9 l7_9 x8_9 x9_9 l10_9 x11_9 x12_9 l13_9 (w64 (x14_9 + 1))))
mutual
def spec_l2Put.l4 : Nat → Int → Int → Int → Int → List Int → Int → Int → List Int → Int → Int → List Int → Int → Int → List Int → Int → Option (Int × Int × List Int)
  | 0, _, _, _, _, _, _, _, _, _, _, _, _, _, _, _ => none
  | k + 1, x0_4, x1_4, x2_4, x3_4, l4_4, x5_4, x6_4, l7_4, x8_4, x9_4, l10_4, x11_4, x12_4, l13_4, x14_4 => spec_l2Put.b4 (spec_l2Put.l9 k) k x0_4 x1_4 x2_4 x3_4 l4_4 x5_4 x6_4 l7_4 x8_4 x9_4 l10_4 x11_4 x12_4 l13_4 x14_4
def spec_l2Put.l9 : Nat → Int → Int → Int → Int → List Int → Int → Int → List Int → Int → Int → List Int → Int → Int → List Int → Int → Int → Option (Int × Int × List Int)
  | 0, _, _, _, _, _, _, _, _, _, _, _, _, _, _, _, _ => none
  | k + 1, x0_9, x1_9, x2_9, x3_9, l4_9, x5_9, x6_9, l7_9, x8_9, x9_9, l10_9, x11_9, x12_9, l13_9, x14_9, x15_9 => spec_l2Put.b9 (spec_l2Put.l4 k) (spec_l2Put.l9 k) k x0_9 x1_9 x2_9 x3_9 l4_9 x5_9 x6_9 l7_9 x8_9 x9_9 l10_9 x11_9 x12_9 l13_9 x14_9 x15_9
end
def spec_l2Put.m (o4 : Int → Int → Int → Int → List Int → Int → Int → List Int → Int → Int → List Int → Int → Int → List Int → Int → Option (Int × Int × List Int)) (k : Nat) (a0_0 : Int) (a0_1 : Int) (l0_2 : List Int) (a1_0 : Int) (a1_1 : Int) (l1_2 : List Int) (a2 : Int) (a3 : Int) : Option (Int × Int × List Int) := ((spec_l2Own.f k a0_0 a0_1 l0_2).bind fun r1 => (o4 a2 a3 a0_0 a0_1 l0_2 a1_0 a1_1 l1_2 0 0 [] r1.1 r1.2.1 r1.2.2 0))
def spec_l2Put.f (k : Nat) (a0_0 : Int) (a0_1 : Int) (l0_2 : List Int) (a1_0 : Int) (a1_1 : Int) (l1_2 : List Int) (a2 : Int) (a3 : Int) : Option (Int × Int × List Int) := spec_l2Put.m (spec_l2Put.l4 k) k a0_0 a0_1 l0_2 a1_0 a1_1 l1_2 a2 a3
noncomputable def spec_l2Put.spec (k : Nat) : FnSpec := ⟨[.ag [.d (.int .i64) none, .d (.int .i64) none, .d (.sl (.int .i64)) none], .ag [.d (.int .i64) none, .d (.int .i64) none, .d (.sl (.int .i64)) none], .d (.int .i64) none, .d (.int .i64) none], [.ag [.d (.int .i64) none, .d (.int .i64) none, .d (.sl (.int .i64)) (some 3)]], fun x => spec_l2Put.f k x.1 x.2.1 x.2.2.1 x.2.2.2.1 x.2.2.2.2.1 x.2.2.2.2.2.1 x.2.2.2.2.2.2.1 x.2.2.2.2.2.2.2⟩
def spec_l2Put.S4 (x0_4 : Int) (x1_4 : Int) (x2_4 : Int) (x3_4 : Int) (l4_4 : List Int) (x5_4 : Int) (x6_4 : Int) (l7_4 : List Int) (x8_4 : Int) (x9_4 : Int) (l10_4 : List Int) (x11_4 : Int) (x12_4 : Int) (l13_4 : List Int) (x14_4 : Int) : St := ⟨[(2, .val (.int .i64) x0_4), (3, .val (.int .i64) x1_4), (4, .ptr 100 0), (5, .ptr 101 0), (8, .ptr 102 0), (9, .ptr 103 0), (10, .val (.int .i64) x14_4)], [(103, some (.box [.val (.int .i64) x11_4, .val (.int .i64) x12_4, .ref 104])), (104, some (.row 3 (.int .i64) l13_4)), (102, some (.box [.val (.int .i64) x8_4, .val (.int .i64) x9_4, .val (.sl (.int .i64)) l10_4])), (101, some (.box [.val (.int .i64) x5_4, .val (.int .i64) x6_4, .val (.sl (.int .i64)) l7_4])), (100, some (.box [.val (.int .i64) x2_4, .val (.int .i64) x3_4, .val (.sl (.int .i64)) l4_4]))], 1000⟩
def spec_l2Put.S9 (x0_9 : Int) (x1_9 : Int) (x2_9 : Int) (x3_9 : Int) (l4_9 : List Int) (x5_9 : Int) (x6_9 : Int) (l7_9 : List Int) (x8_9 : Int) (x9_9 : Int) (l10_9 : List Int) (x11_9 : Int) (x12_9 : Int) (l13_9 : List Int) (x14_9 : Int) (x15_9 : Int) : St := ⟨[(2, .val (.int .i64) x0_9), (3, .val (.int .i64) x1_9), (4, .ptr 100 0), (5, .ptr 101 0), (8, .ptr 102 0), (9, .ptr 103 0), (10, .val (.int .i64) x14_9), (11, .val (.int .i64) x15_9)], [(103, some (.box [.val (.int .i64) x11_9, .val (.int .i64) x12_9, .ref 104])), (104, some (.row 3 (.int .i64) l13_9)), (102, some (.box [.val (.int .i64) x8_9, .val (.int .i64) x9_9, .val (.sl (.int .i64)) l10_9])), (101, some (.box [.val (.int .i64) x5_9, .val (.int .i64) x6_9, .val (.sl (.int .i64)) l7_9])), (100, some (.box [.val (.int .i64) x2_9, .val (.int .i64) x3_9, .val (.sl (.int .i64)) l4_9]))], 1000⟩
noncomputable def spec_l2Put.T : FnText := ⟨(conv [] (bodyOf Go.Proofs.Try.f71) 0).1, Go.Proofs.Try.f71.results.toList, 44, [(4, [(2, .rd (.int .i64)), (3, .rd (.int .i64)), (4, .bx 100 [.rd (.int .i64), .rd (.int .i64), .rd (.sl (.int .i64))]), (5, .bx 101 [.rd (.int .i64), .rd (.int .i64), .rd (.sl (.int .i64))]), (8, .bx 102 [.rd (.int .i64), .rd (.int .i64), .rd (.sl (.int .i64))]), (9, .bx 103 [.rd (.int .i64), .rd (.int .i64), .own 3 (.int .i64) 104]), (10, .rd (.int .i64))]), (9, [(2, .rd (.int .i64)), (3, .rd (.int .i64)), (4, .bx 100 [.rd (.int .i64), .rd (.int .i64), .rd (.sl (.int .i64))]), (5, .bx 101 [.rd (.int .i64), .rd (.int .i64), .rd (.sl (.int .i64))]), (8, .bx 102 [.rd (.int .i64), .rd (.int .i64), .rd (.sl (.int .i64))]), (9, .bx 103 [.rd (.int .i64), .rd (.int .i64), .own 3 (.int .i64) 104]), (10, .rd (.int .i64)), (11, .rd (.int .i64))])], [.ag [.d (.int .i64) none, .d (.int .i64) none, .d (.sl (.int .i64)) none], .ag [.d (.int .i64) none, .d (.int .i64) none, .d (.sl (.int .i64)) none], .d (.int .i64) none, .d (.int .i64) none], [.ag [.d (.int .i64) none, .d (.int .i64) none, .d (.sl (.int .i64)) (some 3)]]⟩
noncomputable def spec_l2Put.tbl (k : Nat) : Tbl := [(56, spec_l2Own.spec k), (113, spec_l2At.spec k)]
theorem spec_l2Put.e4 (k : Nat) (o : Nat → St → Option (Int × Int × List Int)) (x0_4 : Int) (x1_4 : Int) (x2_4 : Int) (x3_4 : Int) (l4_4 : List Int) (x5_4 : Int) (x6_4 : Int) (l7_4 : List Int) (x8_4 : Int) (x9_4 : Int) (l10_4 : List Int) (x11_4 : Int) (x12_4 : Int) (l13_4 : List Int) (x14_4 : Int) : spec_l2Put.T.step tyt (spec_l2Put.tbl k) o 4 (spec_l2Put.S4 x0_4 x1_4 x2_4 x3_4 l4_4 x5_4 x6_4 l7_4 x8_4 x9_4 l10_4 x11_4 x12_4 l13_4 x14_4) = spec_l2Put.b4 (fun x0_9 x1_9 x2_9 x3_9 l4_9 x5_9 x6_9 l7_9 x8_9 x9_9 l10_9 x11_9 x12_9 l13_9 x14_9 x15_9 => o 9 (spec_l2Put.S9 x0_9 x1_9 x2_9 x3_9 l4_9 x5_9 x6_9 l7_9 x8_9 x9_9 l10_9 x11_9 x12_9 l13_9 x14_9 x15_9)) k x0_4 x1_4 x2_4 x3_4 l4_4 x5_4 x6_4 l7_4 x8_4 x9_4 l10_4 x11_4 x12_4 l13_4 x14_4 := by kernel_rfl
theorem spec_l2Put.e9 (k : Nat) (o : Nat → St → Option (Int × Int × List Int)) (x0_9 : Int) (x1_9 : Int) (x2_9 : Int) (x3_9 : Int) (l4_9 : List Int) (x5_9 : Int) (x6_9 : Int) (l7_9 : List Int) (x8_9 : Int) (x9_9 : Int) (l10_9 : List Int) (x11_9 : Int) (x12_9 : Int) (l13_9 : List Int) (x14_9 : Int) (x15_9 : Int) : spec_l2Put.T.step tyt (spec_l2Put.tbl k) o 9 (spec_l2Put.S9 x0_9 x1_9 x2_9 x3_9 l4_9 x5_9 x6_9 l7_9 x8_9 x9_9 l10_9 x11_9 x12_9 l13_9 x14_9 x15_9) = spec_l2Put.b9 (fun x0_4 x1_4 x2_4 x3_4 l4_4 x5_4 x6_4 l7_4 x8_4 x9_4 l10_4 x11_4 x12_4 l13_4 x14_4 => o 4 (spec_l2Put.S4 x0_4 x1_4 x2_4 x3_4 l4_4 x5_4 x6_4 l7_4 x8_4 x9_4 l10_4 x11_4 x12_4 l13_4 x14_4)) (fun x0_9 x1_9 x2_9 x3_9 l4_9 x5_9 x6_9 l7_9 x8_9 x9_9 l10_9 x11_9 x12_9 l13_9 x14_9 x15_9 => o 9 (spec_l2Put.S9 x0_9 x1_9 x2_9 x3_9 l4_9 x5_9 x6_9 l7_9 x8_9 x9_9 l10_9 x11_9 x12_9 l13_9 x14_9 x15_9)) k x0_9 x1_9 x2_9 x3_9 l4_9 x5_9 x6_9 l7_9 x8_9 x9_9 l10_9 x11_9 x12_9 l13_9 x14_9 x15_9 := by kernel_rfl
theorem spec_l2Put.e (k : Nat) (o : Nat → St → Option (Int × Int × List Int)) (a0_0 : Int) (a0_1 : Int) (l0_2 : List Int) (a1_0 : Int) (a1_1 : Int) (l1_2 : List Int) (a2 : Int) (a3 : Int) : spec_l2Put.T.main tyt (spec_l2Put.tbl k) o (a0_0, a0_1, l0_2, a1_0, a1_1, l1_2, a2, a3) = spec_l2Put.m (fun x0_4 x1_4 x2_4 x3_4 l4_4 x5_4 x6_4 l7_4 x8_4 x9_4 l10_4 x11_4 x12_4 l13_4 x14_4 => o 4 (spec_l2Put.S4 x0_4 x1_4 x2_4 x3_4 l4_4 x5_4 x6_4 l7_4 x8_4 x9_4 l10_4 x11_4 x12_4 l13_4 x14_4)) k a0_0 a0_1 l0_2 a1_0 a1_1 l1_2 a2 a3 := by kernel_rfl
theorem spec_l2Put.ok : spec_l2Put.T.ok = true := by kernel_rfl
theorem spec_l2Put.run (k : Nat) : (∀ (x0_4 : Int) (x1_4 : Int) (x2_4 : Int) (x3_4 : Int) (l4_4 : List Int) (x5_4 : Int) (x6_4 : Int) (l7_4 : List Int) (x8_4 : Int) (x9_4 : Int) (l10_4 : List Int) (x11_4 : Int) (x12_4 : Int) (l13_4 : List Int) (x14_4 : Int), spec_l2Put.T.run tyt spec_l2Put.tbl k 4 (spec_l2Put.S4 x0_4 x1_4 x2_4 x3_4 l4_4 x5_4 x6_4 l7_4 x8_4 x9_4 l10_4 x11_4 x12_4 l13_4 x14_4) = spec_l2Put.l4 k x0_4 x1_4 x2_4 x3_4 l4_4 x5_4 x6_4 l7_4 x8_4 x9_4 l10_4 x11_4 x12_4 l13_4 x14_4) ∧ (∀ (x0_9 : Int) (x1_9 : Int) (x2_9 : Int) (x3_9 : Int) (l4_9 : List Int) (x5_9 : Int) (x6_9 : Int) (l7_9 : List Int) (x8_9 : Int) (x9_9 : Int) (l10_9 : List Int) (x11_9 : Int) (x12_9 : Int) (l13_9 : List Int) (x14_9 : Int) (x15_9 : Int), spec_l2Put.T.run tyt spec_l2Put.tbl k 9 (spec_l2Put.S9 x0_9 x1_9 x2_9 x3_9 l4_9 x5_9 x6_9 l7_9 x8_9 x9_9 l10_9 x11_9 x12_9 l13_9 x14_9 x15_9) = spec_l2Put.l9 k x0_9 x1_9 x2_9 x3_9 l4_9 x5_9 x6_9 l7_9 x8_9 x9_9 l10_9 x11_9 x12_9 l13_9 x14_9 x15_9) := by
  induction k with
  | zero => exact ⟨fun x0_4 x1_4 x2_4 x3_4 l4_4 x5_4 x6_4 l7_4 x8_4 x9_4 l10_4 x11_4 x12_4 l13_4 x14_4 => rfl, fun x0_9 x1_9 x2_9 x3_9 l4_9 x5_9 x6_9 l7_9 x8_9 x9_9 l10_9 x11_9 x12_9 l13_9 x14_9 x15_9 => rfl⟩
  | succ k ih =>
    exact ⟨fun x0_4 x1_4 x2_4 x3_4 l4_4 x5_4 x6_4 l7_4 x8_4 x9_4 l10_4 x11_4 x12_4 l13_4 x14_4 => by
      have q9 : (fun x0_9 x1_9 x2_9 x3_9 l4_9 x5_9 x6_9 l7_9 x8_9 x9_9 l10_9 x11_9 x12_9 l13_9 x14_9 x15_9 => spec_l2Put.T.run tyt spec_l2Put.tbl k 9 (spec_l2Put.S9 x0_9 x1_9 x2_9 x3_9 l4_9 x5_9 x6_9 l7_9 x8_9 x9_9 l10_9 x11_9 x12_9 l13_9 x14_9 x15_9)) = spec_l2Put.l9 k := by funext x0_9 x1_9 x2_9 x3_9 l4_9 x5_9 x6_9 l7_9 x8_9 x9_9 l10_9 x11_9 x12_9 l13_9 x14_9 x15_9; exact ih.2 x0_9 x1_9 x2_9 x3_9 l4_9 x5_9 x6_9 l7_9 x8_9 x9_9 l10_9 x11_9 x12_9 l13_9 x14_9 x15_9
      exact (spec_l2Put.e4 k (spec_l2Put.T.run tyt spec_l2Put.tbl k) x0_4 x1_4 x2_4 x3_4 l4_4 x5_4 x6_4 l7_4 x8_4 x9_4 l10_4 x11_4 x12_4 l13_4 x14_4).trans (by rw [q9]; rfl), fun x0_9 x1_9 x2_9 x3_9 l4_9 x5_9 x6_9 l7_9 x8_9 x9_9 l10_9 x11_9 x12_9 l13_9 x14_9 x15_9 => by
      have q4 : (fun x0_4 x1_4 x2_4 x3_4 l4_4 x5_4 x6_4 l7_4 x8_4 x9_4 l10_4 x11_4 x12_4 l13_4 x14_4 => spec_l2Put.T.run tyt spec_l2Put.tbl k 4 (spec_l2Put.S4 x0_4 x1_4 x2_4 x3_4 l4_4 x5_4 x6_4 l7_4 x8_4 x9_4 l10_4 x11_4 x12_4 l13_4 x14_4)) = spec_l2Put.l4 k := by funext x0_4 x1_4 x2_4 x3_4 l4_4 x5_4 x6_4 l7_4 x8_4 x9_4 l10_4 x11_4 x12_4 l13_4 x14_4; exact ih.1 x0_4 x1_4 x2_4 x3_4 l4_4 x5_4 x6_4 l7_4 x8_4 x9_4 l10_4 x11_4 x12_4 l13_4 x14_4
      have q9 : (fun x0_9 x1_9 x2_9 x3_9 l4_9 x5_9 x6_9 l7_9 x8_9 x9_9 l10_9 x11_9 x12_9 l13_9 x14_9 x15_9 => spec_l2Put.T.run tyt spec_l2Put.tbl k 9 (spec_l2Put.S9 x0_9 x1_9 x2_9 x3_9 l4_9 x5_9 x6_9 l7_9 x8_9 x9_9 l10_9 x11_9 x12_9 l13_9 x14_9 x15_9)) = spec_l2Put.l9 k := by funext x0_9 x1_9 x2_9 x3_9 l4_9 x5_9 x6_9 l7_9 x8_9 x9_9 l10_9 x11_9 x12_9 l13_9 x14_9 x15_9; exact ih.2 x0_9 x1_9 x2_9 x3_9 l4_9 x5_9 x6_9 l7_9 x8_9 x9_9 l10_9 x11_9 x12_9 l13_9 x14_9 x15_9
      exact (spec_l2Put.e9 k (spec_l2Put.T.run tyt spec_l2Put.tbl k) x0_9 x1_9 x2_9 x3_9 l4_9 x5_9 x6_9 l7_9 x8_9 x9_9 l10_9 x11_9 x12_9 l13_9 x14_9 x15_9).trans (by rw [q4, q9]; rfl)⟩
theorem spec_l2Put.tblok (k : Nat) : TblOk Go.Proofs.Try.prog (spec_l2Put.tbl k) := TblOk.cons (spec_l2Own.sound k) (TblOk.cons (spec_l2At.sound k) (TblOk.nil _))
theorem spec_l2Put.sound (k : Nat) : Sound Go.Proofs.Try.prog 71 (spec_l2Put.spec k) := by
  have h := fn_ok (F := spec_l2Put.T) (tbl := spec_l2Put.tbl) mixed tyok Go.Proofs.Try.func71 (by kernel_rfl) (c0 := bodyOf Go.Proofs.Try.f71) rfl (conv_code _ _ _) rfl rfl spec_l2Put.ok k (fun j _ => spec_l2Put.tblok j)
  have q4 : (fun x0_4 x1_4 x2_4 x3_4 l4_4 x5_4 x6_4 l7_4 x8_4 x9_4 l10_4 x11_4 x12_4 l13_4 x14_4 => spec_l2Put.T.run tyt spec_l2Put.tbl k 4 (spec_l2Put.S4 x0_4 x1_4 x2_4 x3_4 l4_4 x5_4 x6_4 l7_4 x8_4 x9_4 l10_4 x11_4 x12_4 l13_4 x14_4)) = spec_l2Put.l4 k := by funext x0_4 x1_4 x2_4 x3_4 l4_4 x5_4 x6_4 l7_4 x8_4 x9_4 l10_4 x11_4 x12_4 l13_4 x14_4; exact (spec_l2Put.run k).1 x0_4 x1_4 x2_4 x3_4 l4_4 x5_4 x6_4 l7_4 x8_4 x9_4 l10_4 x11_4 x12_4 l13_4 x14_4
  have e : spec_l2Put.spec k = ⟨spec_l2Put.T.ps, spec_l2Put.T.rs, spec_l2Put.T.ev tyt spec_l2Put.tbl k⟩ := congrArg (FnSpec.mk _ _) (funext fun x => ((spec_l2Put.e k (spec_l2Put.T.run tyt spec_l2Put.tbl k) x.1 x.2.1 x.2.2.1 x.2.2.2.1 x.2.2.2.2.1 x.2.2.2.2.2.1 x.2.2.2.2.2.2.1 x.2.2.2.2.2.2.2).trans (by rw [q4]; rfl)).symm)
  rw [e]
  exact h
/-! ### spec_PutPart: function 31 -/
def spec_PutPart.m (k : Nat) (a0_0 : Int) (a0_1 : Int) (l0_2 : List Int) (a1_0 : Int) (a1_1 : Int) (l1_2 : List Int) (a2 : Int) (a3 : Int) : Option (Int × Int × List Int × Bool) := ((spec_l2Good.f k a1_0 a1_1 l1_2).bind fun r1 => (cond (!r1) (some (0, 0, [], false)) ((spec_l2Fits.f k a0_0 a0_1 l0_2 a2 a3 a1_1 a1_0).bind fun r2 => (cond (!r2) (some (0, 0, [], false)) ((spec_l2Put.f k a0_0 a0_1 l0_2 a1_0 a1_1 l1_2 a2 a3).bind fun r3 => (some (r3.1, r3.2.1, r3.2.2, true)))))))
def spec_PutPart.f (k : Nat) (a0_0 : Int) (a0_1 : Int) (l0_2 : List Int) (a1_0 : Int) (a1_1 : Int) (l1_2 : List Int) (a2 : Int) (a3 : Int) : Option (Int × Int × List Int × Bool) := spec_PutPart.m k a0_0 a0_1 l0_2 a1_0 a1_1 l1_2 a2 a3
noncomputable def spec_PutPart.spec (k : Nat) : FnSpec := ⟨[.ag [.d (.int .i64) none, .d (.int .i64) none, .d (.sl (.int .i64)) none], .ag [.d (.int .i64) none, .d (.int .i64) none, .d (.sl (.int .i64)) none], .d (.int .i64) none, .d (.int .i64) none], [.ag [.d (.int .i64) none, .d (.int .i64) none, .d (.sl (.int .i64)) (some 3)], .d .bool none], fun x => spec_PutPart.f k x.1 x.2.1 x.2.2.1 x.2.2.2.1 x.2.2.2.2.1 x.2.2.2.2.2.1 x.2.2.2.2.2.2.1 x.2.2.2.2.2.2.2⟩
noncomputable def spec_PutPart.T : FnText := ⟨(conv [] (bodyOf Go.Proofs.Try.f31) 0).1, Go.Proofs.Try.f31.results.toList, 30, [], [.ag [.d (.int .i64) none, .d (.int .i64) none, .d (.sl (.int .i64)) none], .ag [.d (.int .i64) none, .d (.int .i64) none, .d (.sl (.int .i64)) none], .d (.int .i64) none, .d (.int .i64) none], [.ag [.d (.int .i64) none, .d (.int .i64) none, .d (.sl (.int .i64)) (some 3)], .d .bool none]⟩
noncomputable def spec_PutPart.tbl (k : Nat) : Tbl := [(54, spec_l2Good.spec k), (70, spec_l2Fits.spec k), (71, spec_l2Put.spec k)]
theorem spec_PutPart.e (k : Nat) (o : Nat → St → Option (Int × Int × List Int × Bool)) (a0_0 : Int) (a0_1 : Int) (l0_2 : List Int) (a1_0 : Int) (a1_1 : Int) (l1_2 : List Int) (a2 : Int) (a3 : Int) : spec_PutPart.T.main tyt (spec_PutPart.tbl k) o (a0_0, a0_1, l0_2, a1_0, a1_1, l1_2, a2, a3) = spec_PutPart.m k a0_0 a0_1 l0_2 a1_0 a1_1 l1_2 a2 a3 := by kernel_rfl
theorem spec_PutPart.ok : spec_PutPart.T.ok = true := by kernel_rfl
theorem spec_PutPart.tblok (k : Nat) : TblOk Go.Proofs.Try.prog (spec_PutPart.tbl k) := TblOk.cons (spec_l2Good.sound k) (TblOk.cons (spec_l2Fits.sound k) (TblOk.cons (spec_l2Put.sound k) (TblOk.nil _)))
theorem spec_PutPart.sound (k : Nat) : Sound Go.Proofs.Try.prog 31 (spec_PutPart.spec k) := by
  have h := fn_ok (F := spec_PutPart.T) (tbl := spec_PutPart.tbl) mixed tyok Go.Proofs.Try.func31 (by kernel_rfl) (c0 := bodyOf Go.Proofs.Try.f31) rfl (conv_code _ _ _) rfl rfl spec_PutPart.ok k (fun j _ => spec_PutPart.tblok j)
  have e : spec_PutPart.spec k = ⟨spec_PutPart.T.ps, spec_PutPart.T.rs, spec_PutPart.T.ev tyt spec_PutPart.tbl k⟩ := congrArg (FnSpec.mk _ _) (funext fun x => ((spec_PutPart.e k (spec_PutPart.T.run tyt spec_PutPart.tbl k) x.1 x.2.1 x.2.2.1 x.2.2.2.1 x.2.2.2.2.1 x.2.2.2.2.2.1 x.2.2.2.2.2.2.1 x.2.2.2.2.2.2.2).trans (by rfl)).symm)
  rw [e]
  exact h
/-! ### impl_in: function 67 -/
def impl_in.m (k : Nat) (a0 : Int) (a1 : Int) (a2 : Int) : Option (Bool) := (if a1 ≤ a0 then (some (decide (a0 ≤ a2))) else (some false))
def impl_in.f (k : Nat) (a0 : Int) (a1 : Int) (a2 : Int) : Option (Bool) := impl_in.m k a0 a1 a2
noncomputable def impl_in.spec (k : Nat) : FnSpec := ⟨[.d (.int .i64) none, .d (.int .i64) none, .d (.int .i64) none], [.d .bool none], fun x => impl_in.f k x.1 x.2.1 x.2.2⟩
noncomputable def impl_in.T : FnText := ⟨(conv [] (bodyOf Go.Proofs.Try.f67) 0).1, Go.Proofs.Try.f67.results.toList, 15, [], [.d (.int .i64) none, .d (.int .i64) none, .d (.int .i64) none], [.d .bool none]⟩
noncomputable def impl_in.tbl (k : Nat) : Tbl := []
theorem impl_in.e (k : Nat) (o : Nat → St → Option (Bool)) (a0 : Int) (a1 : Int) (a2 : Int) : impl_in.T.main tyt (impl_in.tbl k) o (a0, a1, a2) = impl_in.m k a0 a1 a2 := by kernel_rfl
theorem impl_in.ok : impl_in.T.ok = true := by kernel_rfl
theorem impl_in.tblok (k : Nat) : TblOk Go.Proofs.Try.prog (impl_in.tbl k) := TblOk.nil _
theorem impl_in.sound (k : Nat) : Sound Go.Proofs.Try.prog 67 (impl_in.spec k) := by
  have h := fn_ok (F := impl_in.T) (tbl := impl_in.tbl) mixed tyok Go.Proofs.Try.func67 (by kernel_rfl) (c0 := bodyOf Go.Proofs.Try.f67) rfl (conv_code _ _ _) rfl rfl impl_in.ok k (fun j _ => impl_in.tblok j)
  have e : impl_in.spec k = ⟨impl_in.T.ps, impl_in.T.rs, impl_in.T.ev tyt impl_in.tbl k⟩ := congrArg (FnSpec.mk _ _) (funext fun x => ((impl_in.e k (impl_in.T.run tyt impl_in.tbl k) x.1 x.2.1 x.2.2).trans (by rfl)).symm)
  rw [e]
  exact h
/-! ### impl_isSide: function 93 -/
def impl_isSide.m (k : Nat) (a0 : Int) : Option (Bool) := ((impl_in.f k a0 1 8).bind fun r1 => (some r1))
def impl_isSide.f (k : Nat) (a0 : Int) : Option (Bool) := impl_isSide.m k a0
noncomputable def impl_isSide.spec (k : Nat) : FnSpec := ⟨[.d (.int .i64) none], [.d .bool none], fun x => impl_isSide.f k x⟩
noncomputable def impl_isSide.T : FnText := ⟨(conv [] (bodyOf Go.Proofs.Try.f93) 0).1, Go.Proofs.Try.f93.results.toList, 5, [], [.d (.int .i64) none], [.d .bool none]⟩
noncomputable def impl_isSide.tbl (k : Nat) : Tbl := [(67, impl_in.spec k)]
theorem impl_isSide.e (k : Nat) (o : Nat → St → Option (Bool)) (a0 : Int) : impl_isSide.T.main tyt (impl_isSide.tbl k) o a0 = impl_isSide.m k a0 := by kernel_rfl
theorem impl_isSide.ok : impl_isSide.T.ok = true := by kernel_rfl
theorem impl_isSide.tblok (k : Nat) : TblOk Go.Proofs.Try.prog (impl_isSide.tbl k) := TblOk.cons (impl_in.sound k) (TblOk.nil _)
theorem impl_isSide.sound (k : Nat) : Sound Go.Proofs.Try.prog 93 (impl_isSide.spec k) := by
  have h := fn_ok (F := impl_isSide.T) (tbl := impl_isSide.tbl) mixed tyok Go.Proofs.Try.func93 (by kernel_rfl) (c0 := bodyOf Go.Proofs.Try.f93) rfl (conv_code _ _ _) rfl rfl impl_isSide.ok k (fun j _ => impl_isSide.tblok j)
  have e : impl_isSide.spec k = ⟨impl_isSide.T.ps, impl_isSide.T.rs, impl_isSide.T.ev tyt impl_isSide.tbl k⟩ := congrArg (FnSpec.mk _ _) (funext fun x => ((impl_isSide.e k (impl_isSide.T.run tyt impl_isSide.tbl k) x).trans (by rfl)).symm)
  rw [e]
  exact h
/-! ### impl_isColor: function 58 -/
def impl_isColor.m (k : Nat) (a0 : Int) : Option (Bool) := ((impl_in.f k a0 0 5).bind fun r1 => (some r1))
def impl_isColor.f (k : Nat) (a0 : Int) : Option (Bool) := impl_isColor.m k a0
noncomputable def impl_isColor.spec (k : Nat) : FnSpec := ⟨[.d (.int .i64) none], [.d .bool none], fun x => impl_isColor.f k x⟩
noncomputable def impl_isColor.T : FnText := ⟨(conv [] (bodyOf Go.Proofs.Try.f58) 0).1, Go.Proofs.Try.f58.results.toList, 5, [], [.d (.int .i64) none], [.d .bool none]⟩
noncomputable def impl_isColor.tbl (k : Nat) : Tbl := [(67, impl_in.spec k)]
theorem impl_isColor.e (k : Nat) (o : Nat → St → Option (Bool)) (a0 : Int) : impl_isColor.T.main tyt (impl_isColor.tbl k) o a0 = impl_isColor.m k a0 := by kernel_rfl
theorem impl_isColor.ok : impl_isColor.T.ok = true := by kernel_rfl
theorem impl_isColor.tblok (k : Nat) : TblOk Go.Proofs.Try.prog (impl_isColor.tbl k) := TblOk.cons (impl_in.sound k) (TblOk.nil _)
theorem impl_isColor.sound (k : Nat) : Sound Go.Proofs.Try.prog 58 (impl_isColor.spec k) := by
  have h := fn_ok (F := impl_isColor.T) (tbl := impl_isColor.tbl) mixed tyok Go.Proofs.Try.func58 (by kernel_rfl) (c0 := bodyOf Go.Proofs.Try.f58) rfl (conv_code _ _ _) rfl rfl impl_isColor.ok k (fun j _ => impl_isColor.tblok j)
  have e : impl_isColor.spec k = ⟨impl_isColor.T.ps, impl_isColor.T.rs, impl_isColor.T.ev tyt impl_isColor.tbl k⟩ := congrArg (FnSpec.mk _ _) (funext fun x => ((impl_isColor.e k (impl_isColor.T.run tyt impl_isColor.tbl k) x).trans (by rfl)).symm)
  rw [e]
  exact h
/-! ### impl_areAll_int_1__impl_isColor: function 122 -/
def impl_areAll_int_1__impl_isColor.m (k : Nat) (a0 : Int) : Option (Bool) := ((impl_isColor.f k a0).bind fun r1 => (some (!r1)))
def impl_areAll_int_1__impl_isColor.f (k : Nat) (a0 : Int) : Option (Bool) := impl_areAll_int_1__impl_isColor.m k a0
noncomputable def impl_areAll_int_1__impl_isColor.spec (k : Nat) : FnSpec := ⟨[.d (.int .i64) none, .rb [.fv 58 [] []]], [.d .bool none], fun x => impl_areAll_int_1__impl_isColor.f k x⟩
noncomputable def impl_areAll_int_1__impl_isColor.T : FnText := ⟨(conv [] (bodyOf Go.Proofs.Try.f122) 0).1, Go.Proofs.Try.f122.results.toList, 8, [], [.d (.int .i64) none, .rb [.fv 58 [] []]], [.d .bool none]⟩
noncomputable def impl_areAll_int_1__impl_isColor.tbl (k : Nat) : Tbl := [(58, impl_isColor.spec k)]
theorem impl_areAll_int_1__impl_isColor.e (k : Nat) (o : Nat → St → Option (Bool)) (a0 : Int) : impl_areAll_int_1__impl_isColor.T.main tyt (impl_areAll_int_1__impl_isColor.tbl k) o a0 = impl_areAll_int_1__impl_isColor.m k a0 := by kernel_rfl
theorem impl_areAll_int_1__impl_isColor.ok : impl_areAll_int_1__impl_isColor.T.ok = true := by kernel_rfl
theorem impl_areAll_int_1__impl_isColor.tblok (k : Nat) : TblOk Go.Proofs.Try.prog (impl_areAll_int_1__impl_isColor.tbl k) := TblOk.cons (impl_isColor.sound k) (TblOk.nil _)
theorem impl_areAll_int_1__impl_isColor.sound (k : Nat) : Sound Go.Proofs.Try.prog 122 (impl_areAll_int_1__impl_isColor.spec k) := by
  have h := fn_ok (F := impl_areAll_int_1__impl_isColor.T) (tbl := impl_areAll_int_1__impl_isColor.tbl) mixed tyok Go.Proofs.Try.func122 (by kernel_rfl) (c0 := bodyOf Go.Proofs.Try.f122) rfl (conv_code _ _ _) rfl rfl impl_areAll_int_1__impl_isColor.ok k (fun j _ => impl_areAll_int_1__impl_isColor.tblok j)
  have e : impl_areAll_int_1__impl_isColor.spec k = ⟨impl_areAll_int_1__impl_isColor.T.ps, impl_areAll_int_1__impl_isColor.T.rs, impl_areAll_int_1__impl_isColor.T.ev tyt impl_areAll_int_1__impl_isColor.tbl k⟩ := congrArg (FnSpec.mk _ _) (funext fun x => ((impl_areAll_int_1__impl_isColor.e k (impl_areAll_int_1__impl_isColor.T.run tyt impl_areAll_int_1__impl_isColor.tbl k) x).trans (by rfl)).symm)
  rw [e]
  exact h
/-! ### slices_IndexFunc_int_int__impl_areAll_int_1__impl_isColor: function 135 -/
def slices_IndexFunc_int_int__impl_areAll_int_1__impl_isColor.b3 (o3 : List Int → Int → Int → Option (Int)) (k : Nat) (l0_3 : List Int) (x1_3 : Int) (x2_3 : Int) : Option (Int) := (if x2_3 < x1_3 then ((chk l0_3.length x2_3).bind fun i1 => ((impl_areAll_int_1__impl_isColor.f k (l0_3.getD i1 0)).bind fun r2 => (cond r2 (some x2_3) (o3 l0_3 x1_3 (w64 (x2_3 + 1)))))) else (some (-1)))
def slices_IndexFunc_int_int__impl_areAll_int_1__impl_isColor.l3 : Nat → List Int → Int → Int → Option (Int)
  | 0, _, _, _ => none
  | k + 1, l0_3, x1_3, x2_3 => slices_IndexFunc_int_int__impl_areAll_int_1__impl_isColor.b3 (slices_IndexFunc_int_int__impl_areAll_int_1__impl_isColor.l3 k) k l0_3 x1_3 x2_3
def slices_IndexFunc_int_int__impl_areAll_int_1__impl_isColor.m (o3 : List Int → Int → Int → Option (Int)) (k : Nat) (l0 : List Int) : Option (Int) := (o3 l0 (l0.length : Int) 0)
def slices_IndexFunc_int_int__impl_areAll_int_1__impl_isColor.f (k : Nat) (l0 : List Int) : Option (Int) := slices_IndexFunc_int_int__impl_areAll_int_1__impl_isColor.m (slices_IndexFunc_int_int__impl_areAll_int_1__impl_isColor.l3 k) k l0
noncomputable def slices_IndexFunc_int_int__impl_areAll_int_1__impl_isColor.spec (k : Nat) : FnSpec := ⟨[.d (.sl (.int .i64)) none, .fv 122 [] [.rb [.fv 58 [] []]]], [.d (.int .i64) none], fun x => slices_IndexFunc_int_int__impl_areAll_int_1__impl_isColor.f k x⟩
def slices_IndexFunc_int_int__impl_areAll_int_1__impl_isColor.S3 (l0_3 : List Int) (x1_3 : Int) (x2_3 : Int) : St := ⟨[(0, .val (.sl (.int .i64)) l0_3), (1, .fn 122 [] [.cptr [.fn 58 [] []] 0]), (7, .val (.int .i64) x1_3), (8, .val (.int .i64) x2_3)], [], 1000⟩
noncomputable def slices_IndexFunc_int_int__impl_areAll_int_1__impl_isColor.T : FnText := ⟨(conv [] (bodyOf Go.Proofs.Try.f135) 0).1, Go.Proofs.Try.f135.results.toList, 19, [(3, [(0, .rd (.sl (.int .i64))), (1, .as), (7, .rd (.int .i64)), (8, .rd (.int .i64))])], [.d (.sl (.int .i64)) none, .fv 122 [] [.rb [.fv 58 [] []]]], [.d (.int .i64) none]⟩
noncomputable def slices_IndexFunc_int_int__impl_areAll_int_1__impl_isColor.tbl (k : Nat) : Tbl := [(122, impl_areAll_int_1__impl_isColor.spec k)]
theorem slices_IndexFunc_int_int__impl_areAll_int_1__impl_isColor.e3 (k : Nat) (o : Nat → St → Option (Int)) (l0_3 : List Int) (x1_3 : Int) (x2_3 : Int) : slices_IndexFunc_int_int__impl_areAll_int_1__impl_isColor.T.step tyt (slices_IndexFunc_int_int__impl_areAll_int_1__impl_isColor.tbl k) o 3 (slices_IndexFunc_int_int__impl_areAll_int_1__impl_isColor.S3 l0_3 x1_3 x2_3) = slices_IndexFunc_int_int__impl_areAll_int_1__impl_isColor.b3 (fun l0_3 x1_3 x2_3 => o 3 (slices_IndexFunc_int_int__impl_areAll_int_1__impl_isColor.S3 l0_3 x1_3 x2_3)) k l0_3 x1_3 x2_3 := by kernel_rfl
theorem slices_IndexFunc_int_int__impl_areAll_int_1__impl_isColor.e (k : Nat) (o : Nat → St → Option (Int)) (l0 : List Int) : slices_IndexFunc_int_int__impl_areAll_int_1__impl_isColor.T.main tyt (slices_IndexFunc_int_int__impl_areAll_int_1__impl_isColor.tbl k) o l0 = slices_IndexFunc_int_int__impl_areAll_int_1__impl_isColor.m (fun l0_3 x1_3 x2_3 => o 3 (slices_IndexFunc_int_int__impl_areAll_int_1__impl_isColor.S3 l0_3 x1_3 x2_3)) k l0 := by kernel_rfl
theorem slices_IndexFunc_int_int__impl_areAll_int_1__impl_isColor.ok : slices_IndexFunc_int_int__impl_areAll_int_1__impl_isColor.T.ok = true := by kernel_rfl
theorem slices_IndexFunc_int_int__impl_areAll_int_1__impl_isColor.run (k : Nat) : (∀ (l0_3 : List Int) (x1_3 : Int) (x2_3 : Int), slices_IndexFunc_int_int__impl_areAll_int_1__impl_isColor.T.run tyt slices_IndexFunc_int_int__impl_areAll_int_1__impl_isColor.tbl k 3 (slices_IndexFunc_int_int__impl_areAll_int_1__impl_isColor.S3 l0_3 x1_3 x2_3) = slices_IndexFunc_int_int__impl_areAll_int_1__impl_isColor.l3 k l0_3 x1_3 x2_3) := by
  induction k with
  | zero => exact fun l0_3 x1_3 x2_3 => rfl
  | succ k ih =>
    exact fun l0_3 x1_3 x2_3 => by
      have q3 : (fun l0_3 x1_3 x2_3 => slices_IndexFunc_int_int__impl_areAll_int_1__impl_isColor.T.run tyt slices_IndexFunc_int_int__impl_areAll_int_1__impl_isColor.tbl k 3 (slices_IndexFunc_int_int__impl_areAll_int_1__impl_isColor.S3 l0_3 x1_3 x2_3)) = slices_IndexFunc_int_int__impl_areAll_int_1__impl_isColor.l3 k := by funext l0_3 x1_3 x2_3; exact ih l0_3 x1_3 x2_3
      exact (slices_IndexFunc_int_int__impl_areAll_int_1__impl_isColor.e3 k (slices_IndexFunc_int_int__impl_areAll_int_1__impl_isColor.T.run tyt slices_IndexFunc_int_int__impl_areAll_int_1__impl_isColor.tbl k) l0_3 x1_3 x2_3).trans (by rw [q3]; rfl)
theorem slices_IndexFunc_int_int__impl_areAll_int_1__impl_isColor.tblok (k : Nat) : TblOk Go.Proofs.Try.prog (slices_IndexFunc_int_int__impl_areAll_int_1__impl_isColor.tbl k) := TblOk.cons (impl_areAll_int_1__impl_isColor.sound k) (TblOk.nil _)
theorem slices_IndexFunc_int_int__impl_areAll_int_1__impl_isColor.sound (k : Nat) : Sound Go.Proofs.Try.prog 135 (slices_IndexFunc_int_int__impl_areAll_int_1__impl_isColor.spec k) := by
  have h := fn_ok (F := slices_IndexFunc_int_int__impl_areAll_int_1__impl_isColor.T) (tbl := slices_IndexFunc_int_int__impl_areAll_int_1__impl_isColor.tbl) mixed tyok Go.Proofs.Try.func135 (by kernel_rfl) (c0 := bodyOf Go.Proofs.Try.f135) rfl (conv_code _ _ _) rfl rfl slices_IndexFunc_int_int__impl_areAll_int_1__impl_isColor.ok k (fun j _ => slices_IndexFunc_int_int__impl_areAll_int_1__impl_isColor.tblok j)
  have q3 : (fun l0_3 x1_3 x2_3 => slices_IndexFunc_int_int__impl_areAll_int_1__impl_isColor.T.run tyt slices_IndexFunc_int_int__impl_areAll_int_1__impl_isColor.tbl k 3 (slices_IndexFunc_int_int__impl_areAll_int_1__impl_isColor.S3 l0_3 x1_3 x2_3)) = slices_IndexFunc_int_int__impl_areAll_int_1__impl_isColor.l3 k := by funext l0_3 x1_3 x2_3; exact (slices_IndexFunc_int_int__impl_areAll_int_1__impl_isColor.run k) l0_3 x1_3 x2_3
  have e : slices_IndexFunc_int_int__impl_areAll_int_1__impl_isColor.spec k = ⟨slices_IndexFunc_int_int__impl_areAll_int_1__impl_isColor.T.ps, slices_IndexFunc_int_int__impl_areAll_int_1__impl_isColor.T.rs, slices_IndexFunc_int_int__impl_areAll_int_1__impl_isColor.T.ev tyt slices_IndexFunc_int_int__impl_areAll_int_1__impl_isColor.tbl k⟩ := congrArg (FnSpec.mk _ _) (funext fun x => ((slices_IndexFunc_int_int__impl_areAll_int_1__impl_isColor.e k (slices_IndexFunc_int_int__impl_areAll_int_1__impl_isColor.T.run tyt slices_IndexFunc_int_int__impl_areAll_int_1__impl_isColor.tbl k) x).trans (by rw [q3]; rfl)).symm)
  rw [e]
  exact h
/-! ### slices_ContainsFunc_int_int__impl_areAll_int_1__impl_isColor: function 121 -/
def slices_ContainsFunc_int_int__impl_areAll_int_1__impl_isColor.m (k : Nat) (l0 : List Int) : Option (Bool) := ((slices_IndexFunc_int_int__impl_areAll_int_1__impl_isColor.f k l0).bind fun r1 => (some (decide (0 ≤ r1))))
def slices_ContainsFunc_int_int__impl_areAll_int_1__impl_isColor.f (k : Nat) (l0 : List Int) : Option (Bool) := slices_ContainsFunc_int_int__impl_areAll_int_1__impl_isColor.m k l0
noncomputable def slices_ContainsFunc_int_int__impl_areAll_int_1__impl_isColor.spec (k : Nat) : FnSpec := ⟨[.d (.sl (.int .i64)) none, .fv 122 [] [.rb [.fv 58 [] []]]], [.d .bool none], fun x => slices_ContainsFunc_int_int__impl_areAll_int_1__impl_isColor.f k x⟩
noncomputable def slices_ContainsFunc_int_int__impl_areAll_int_1__impl_isColor.T : FnText := ⟨(conv [] (bodyOf Go.Proofs.Try.f121) 0).1, Go.Proofs.Try.f121.results.toList, 9, [], [.d (.sl (.int .i64)) none, .fv 122 [] [.rb [.fv 58 [] []]]], [.d .bool none]⟩
noncomputable def slices_ContainsFunc_int_int__impl_areAll_int_1__impl_isColor.tbl (k : Nat) : Tbl := [(135, slices_IndexFunc_int_int__impl_areAll_int_1__impl_isColor.spec k)]
theorem slices_ContainsFunc_int_int__impl_areAll_int_1__impl_isColor.e (k : Nat) (o : Nat → St → Option (Bool)) (l0 : List Int) : slices_ContainsFunc_int_int__impl_areAll_int_1__impl_isColor.T.main tyt (slices_ContainsFunc_int_int__impl_areAll_int_1__impl_isColor.tbl k) o l0 = slices_ContainsFunc_int_int__impl_areAll_int_1__impl_isColor.m k l0 := by kernel_rfl
theorem slices_ContainsFunc_int_int__impl_areAll_int_1__impl_isColor.ok : slices_ContainsFunc_int_int__impl_areAll_int_1__impl_isColor.T.ok = true := by kernel_rfl
theorem slices_ContainsFunc_int_int__impl_areAll_int_1__impl_isColor.tblok (k : Nat) : TblOk Go.Proofs.Try.prog (slices_ContainsFunc_int_int__impl_areAll_int_1__impl_isColor.tbl k) := TblOk.cons (slices_IndexFunc_int_int__impl_areAll_int_1__impl_isColor.sound k) (TblOk.nil _)
theorem slices_ContainsFunc_int_int__impl_areAll_int_1__impl_isColor.sound (k : Nat) : Sound Go.Proofs.Try.prog 121 (slices_ContainsFunc_int_int__impl_areAll_int_1__impl_isColor.spec k) := by
  have h := fn_ok (F := slices_ContainsFunc_int_int__impl_areAll_int_1__impl_isColor.T) (tbl := slices_ContainsFunc_int_int__impl_areAll_int_1__impl_isColor.tbl) mixed tyok Go.Proofs.Try.func121 (by kernel_rfl) (c0 := bodyOf Go.Proofs.Try.f121) rfl (conv_code _ _ _) rfl rfl slices_ContainsFunc_int_int__impl_areAll_int_1__impl_isColor.ok k (fun j _ => slices_ContainsFunc_int_int__impl_areAll_int_1__impl_isColor.tblok j)
  have e : slices_ContainsFunc_int_int__impl_areAll_int_1__impl_isColor.spec k = ⟨slices_ContainsFunc_int_int__impl_areAll_int_1__impl_isColor.T.ps, slices_ContainsFunc_int_int__impl_areAll_int_1__impl_isColor.T.rs, slices_ContainsFunc_int_int__impl_areAll_int_1__impl_isColor.T.ev tyt slices_ContainsFunc_int_int__impl_areAll_int_1__impl_isColor.tbl k⟩ := congrArg (FnSpec.mk _ _) (funext fun x => ((slices_ContainsFunc_int_int__impl_areAll_int_1__impl_isColor.e k (slices_ContainsFunc_int_int__impl_areAll_int_1__impl_isColor.T.run tyt slices_ContainsFunc_int_int__impl_areAll_int_1__impl_isColor.tbl k) x).trans (by rfl)).symm)
  rw [e]
  exact h
/-! ### impl_areAll_int__impl_isColor: function 88 -/
def impl_areAll_int__impl_isColor.m (k : Nat) (l0 : List Int) : Option (Bool) := ((slices_ContainsFunc_int_int__impl_areAll_int_1__impl_isColor.f k l0).bind fun r1 => (some (!r1)))
def impl_areAll_int__impl_isColor.f (k : Nat) (l0 : List Int) : Option (Bool) := impl_areAll_int__impl_isColor.m k l0
noncomputable def impl_areAll_int__impl_isColor.spec (k : Nat) : FnSpec := ⟨[.d (.sl (.int .i64)) none, .fv 58 [] []], [.d .bool none], fun x => impl_areAll_int__impl_isColor.f k x⟩
noncomputable def impl_areAll_int__impl_isColor.T : FnText := ⟨(conv [] (bodyOf Go.Proofs.Try.f88) 0).1, Go.Proofs.Try.f88.results.toList, 9, [], [.d (.sl (.int .i64)) none, .fv 58 [] []], [.d .bool none]⟩
noncomputable def impl_areAll_int__impl_isColor.tbl (k : Nat) : Tbl := [(121, slices_ContainsFunc_int_int__impl_areAll_int_1__impl_isColor.spec k)]
theorem impl_areAll_int__impl_isColor.e (k : Nat) (o : Nat → St → Option (Bool)) (l0 : List Int) : impl_areAll_int__impl_isColor.T.main tyt (impl_areAll_int__impl_isColor.tbl k) o l0 = impl_areAll_int__impl_isColor.m k l0 := by kernel_rfl
theorem impl_areAll_int__impl_isColor.ok : impl_areAll_int__impl_isColor.T.ok = true := by kernel_rfl
theorem impl_areAll_int__impl_isColor.tblok (k : Nat) : TblOk Go.Proofs.Try.prog (impl_areAll_int__impl_isColor.tbl k) := TblOk.cons (slices_ContainsFunc_int_int__impl_areAll_int_1__impl_isColor.sound k) (TblOk.nil _)
theorem impl_areAll_int__impl_isColor.sound (k : Nat) : Sound Go.Proofs.Try.prog 88 (impl_areAll_int__impl_isColor.spec k) := by
  have h := fn_ok (F := impl_areAll_int__impl_isColor.T) (tbl := impl_areAll_int__impl_isColor.tbl) mixed tyok Go.Proofs.Try.func88 (by kernel_rfl) (c0 := bodyOf Go.Proofs.Try.f88) rfl (conv_code _ _ _) rfl rfl impl_areAll_int__impl_isColor.ok k (fun j _ => impl_areAll_int__impl_isColor.tblok j)
  have e : impl_areAll_int__impl_isColor.spec k = ⟨impl_areAll_int__impl_isColor.T.ps, impl_areAll_int__impl_isColor.T.rs, impl_areAll_int__impl_isColor.T.ev tyt impl_areAll_int__impl_isColor.tbl k⟩ := congrArg (FnSpec.mk _ _) (funext fun x => ((impl_areAll_int__impl_isColor.e k (impl_areAll_int__impl_isColor.T.run tyt impl_areAll_int__impl_isColor.tbl k) x).trans (by rfl)).symm)
  rw [e]
  exact h
/-! ### impl_IsChart: function 57 -/
def impl_IsChart.m (k : Nat) (a0_0 : Int) (a0_1 : Int) (l0_2 : List Int) : Option (Bool) := ((impl_isSide.f k a0_0).bind fun r1 => (cond r1 ((impl_isSide.f k a0_1).bind fun r2 => (cond r2 (if (l0_2.length : Int) = (w64 (a0_0 * a0_1)) then ((impl_areAll_int__impl_isColor.f k l0_2).bind fun r3 => (some r3)) else (some false)) (some false))) (some false)))
def impl_IsChart.f (k : Nat) (a0_0 : Int) (a0_1 : Int) (l0_2 : List Int) : Option (Bool) := impl_IsChart.m k a0_0 a0_1 l0_2
noncomputable def impl_IsChart.spec (k : Nat) : FnSpec := ⟨[.ag [.d (.int .i64) none, .d (.int .i64) none, .d (.sl (.int .i64)) none]], [.d .bool none], fun x => impl_IsChart.f k x.1 x.2.1 x.2.2⟩
noncomputable def impl_IsChart.T : FnText := ⟨(conv [] (bodyOf Go.Proofs.Try.f57) 0).1, Go.Proofs.Try.f57.results.toList, 27, [], [.ag [.d (.int .i64) none, .d (.int .i64) none, .d (.sl (.int .i64)) none]], [.d .bool none]⟩
noncomputable def impl_IsChart.tbl (k : Nat) : Tbl := [(93, impl_isSide.spec k), (88, impl_areAll_int__impl_isColor.spec k)]
theorem impl_IsChart.e (k : Nat) (o : Nat → St → Option (Bool)) (a0_0 : Int) (a0_1 : Int) (l0_2 : List Int) : impl_IsChart.T.main tyt (impl_IsChart.tbl k) o (a0_0, a0_1, l0_2) = impl_IsChart.m k a0_0 a0_1 l0_2 := by kernel_rfl
theorem impl_IsChart.ok : impl_IsChart.T.ok = true := by kernel_rfl
theorem impl_IsChart.tblok (k : Nat) : TblOk Go.Proofs.Try.prog (impl_IsChart.tbl k) := TblOk.cons (impl_isSide.sound k) (TblOk.cons (impl_areAll_int__impl_isColor.sound k) (TblOk.nil _))
theorem impl_IsChart.sound (k : Nat) : Sound Go.Proofs.Try.prog 57 (impl_IsChart.spec k) := by
  have h := fn_ok (F := impl_IsChart.T) (tbl := impl_IsChart.tbl) mixed tyok Go.Proofs.Try.func57 (by kernel_rfl) (c0 := bodyOf Go.Proofs.Try.f57) rfl (conv_code _ _ _) rfl rfl impl_IsChart.ok k (fun j _ => impl_IsChart.tblok j)
  have e : impl_IsChart.spec k = ⟨impl_IsChart.T.ps, impl_IsChart.T.rs, impl_IsChart.T.ev tyt impl_IsChart.tbl k⟩ := congrArg (FnSpec.mk _ _) (funext fun x => ((impl_IsChart.e k (impl_IsChart.T.run tyt impl_IsChart.tbl k) x.1 x.2.1 x.2.2).trans (by rfl)).symm)
  rw [e]
  exact h
/-! ### impl_Chart_hasPlace: function 114 -/
def impl_Chart_hasPlace.m (k : Nat) (a0_0 : Int) (a0_1 : Int) (l0_2 : List Int) (a1 : Int) (a2 : Int) : Option (Bool) := ((impl_in.f k a1 0 (w64 (a0_1 - 1))).bind fun r1 => (cond r1 ((impl_in.f k a2 0 (w64 (a0_0 - 1))).bind fun r2 => (some r2)) (some false)))
def impl_Chart_hasPlace.f (k : Nat) (a0_0 : Int) (a0_1 : Int) (l0_2 : List Int) (a1 : Int) (a2 : Int) : Option (Bool) := impl_Chart_hasPlace.m k a0_0 a0_1 l0_2 a1 a2
noncomputable def impl_Chart_hasPlace.spec (k : Nat) : FnSpec := ⟨[.ag [.d (.int .i64) none, .d (.int .i64) none, .d (.sl (.int .i64)) none], .d (.int .i64) none, .d (.int .i64) none], [.d .bool none], fun x => impl_Chart_hasPlace.f k x.1 x.2.1 x.2.2.1 x.2.2.2.1 x.2.2.2.2⟩
noncomputable def impl_Chart_hasPlace.T : FnText := ⟨(conv [] (bodyOf Go.Proofs.Try.f114) 0).1, Go.Proofs.Try.f114.results.toList, 19, [], [.ag [.d (.int .i64) none, .d (.int .i64) none, .d (.sl (.int .i64)) none], .d (.int .i64) none, .d (.int .i64) none], [.d .bool none]⟩
noncomputable def impl_Chart_hasPlace.tbl (k : Nat) : Tbl := [(67, impl_in.spec k)]
theorem impl_Chart_hasPlace.e (k : Nat) (o : Nat → St → Option (Bool)) (a0_0 : Int) (a0_1 : Int) (l0_2 : List Int) (a1 : Int) (a2 : Int) : impl_Chart_hasPlace.T.main tyt (impl_Chart_hasPlace.tbl k) o (a0_0, a0_1, l0_2, a1, a2) = impl_Chart_hasPlace.m k a0_0 a0_1 l0_2 a1 a2 := by kernel_rfl
theorem impl_Chart_hasPlace.ok : impl_Chart_hasPlace.T.ok = true := by kernel_rfl
theorem impl_Chart_hasPlace.tblok (k : Nat) : TblOk Go.Proofs.Try.prog (impl_Chart_hasPlace.tbl k) := TblOk.cons (impl_in.sound k) (TblOk.nil _)
theorem impl_Chart_hasPlace.sound (k : Nat) : Sound Go.Proofs.Try.prog 114 (impl_Chart_hasPlace.spec k) := by
  have h := fn_ok (F := impl_Chart_hasPlace.T) (tbl := impl_Chart_hasPlace.tbl) mixed tyok Go.Proofs.Try.func114 (by kernel_rfl) (c0 := bodyOf Go.Proofs.Try.f114) rfl (conv_code _ _ _) rfl rfl impl_Chart_hasPlace.ok k (fun j _ => impl_Chart_hasPlace.tblok j)
  have e : impl_Chart_hasPlace.spec k = ⟨impl_Chart_hasPlace.T.ps, impl_Chart_hasPlace.T.rs, impl_Chart_hasPlace.T.ev tyt impl_Chart_hasPlace.tbl k⟩ := congrArg (FnSpec.mk _ _) (funext fun x => ((impl_Chart_hasPlace.e k (impl_Chart_hasPlace.T.run tyt impl_Chart_hasPlace.tbl k) x.1 x.2.1 x.2.2.1 x.2.2.2.1 x.2.2.2.2).trans (by rfl)).symm)
  rw [e]
  exact h
/-! ### impl_Chart_hasPart: function 72 -/
def impl_Chart_hasPart.m (k : Nat) (a0_0 : Int) (a0_1 : Int) (l0_2 : List Int) (a1 : Int) (a2 : Int) (a3 : Int) (a4 : Int) : Option (Bool) := ((impl_Chart_hasPlace.f k a0_0 a0_1 l0_2 a1 a2).bind fun r1 => (cond r1 ((impl_in.f k a3 1 (w64 (a0_1 - a1))).bind fun r2 => (cond r2 ((impl_in.f k a4 1 (w64 (a0_0 - a2))).bind fun r3 => (some r3)) (some false))) (some false)))
def impl_Chart_hasPart.f (k : Nat) (a0_0 : Int) (a0_1 : Int) (l0_2 : List Int) (a1 : Int) (a2 : Int) (a3 : Int) (a4 : Int) : Option (Bool) := impl_Chart_hasPart.m k a0_0 a0_1 l0_2 a1 a2 a3 a4
noncomputable def impl_Chart_hasPart.spec (k : Nat) : FnSpec := ⟨[.ag [.d (.int .i64) none, .d (.int .i64) none, .d (.sl (.int .i64)) none], .d (.int .i64) none, .d (.int .i64) none, .d (.int .i64) none, .d (.int .i64) none], [.d .bool none], fun x => impl_Chart_hasPart.f k x.1 x.2.1 x.2.2.1 x.2.2.2.1 x.2.2.2.2.1 x.2.2.2.2.2.1 x.2.2.2.2.2.2⟩
noncomputable def impl_Chart_hasPart.T : FnText := ⟨(conv [] (bodyOf Go.Proofs.Try.f72) 0).1, Go.Proofs.Try.f72.results.toList, 31, [], [.ag [.d (.int .i64) none, .d (.int .i64) none, .d (.sl (.int .i64)) none], .d (.int .i64) none, .d (.int .i64) none, .d (.int .i64) none, .d (.int .i64) none], [.d .bool none]⟩
noncomputable def impl_Chart_hasPart.tbl (k : Nat) : Tbl := [(114, impl_Chart_hasPlace.spec k), (67, impl_in.spec k)]
theorem impl_Chart_hasPart.e (k : Nat) (o : Nat → St → Option (Bool)) (a0_0 : Int) (a0_1 : Int) (l0_2 : List Int) (a1 : Int) (a2 : Int) (a3 : Int) (a4 : Int) : impl_Chart_hasPart.T.main tyt (impl_Chart_hasPart.tbl k) o (a0_0, a0_1, l0_2, a1, a2, a3, a4) = impl_Chart_hasPart.m k a0_0 a0_1 l0_2 a1 a2 a3 a4 := by kernel_rfl
theorem impl_Chart_hasPart.ok : impl_Chart_hasPart.T.ok = true := by kernel_rfl
theorem impl_Chart_hasPart.tblok (k : Nat) : TblOk Go.Proofs.Try.prog (impl_Chart_hasPart.tbl k) := TblOk.cons (impl_Chart_hasPlace.sound k) (TblOk.cons (impl_in.sound k) (TblOk.nil _))
theorem impl_Chart_hasPart.sound (k : Nat) : Sound Go.Proofs.Try.prog 72 (impl_Chart_hasPart.spec k) := by
  have h := fn_ok (F := impl_Chart_hasPart.T) (tbl := impl_Chart_hasPart.tbl) mixed tyok Go.Proofs.Try.func72 (by kernel_rfl) (c0 := bodyOf Go.Proofs.Try.f72) rfl (conv_code _ _ _) rfl rfl impl_Chart_hasPart.ok k (fun j _ => impl_Chart_hasPart.tblok j)
  have e : impl_Chart_hasPart.spec k = ⟨impl_Chart_hasPart.T.ps, impl_Chart_hasPart.T.rs, impl_Chart_hasPart.T.ev tyt impl_Chart_hasPart.tbl k⟩ := congrArg (FnSpec.mk _ _) (funext fun x => ((impl_Chart_hasPart.e k (impl_Chart_hasPart.T.run tyt impl_Chart_hasPart.tbl k) x.1 x.2.1 x.2.2.1 x.2.2.2.1 x.2.2.2.2.1 x.2.2.2.2.2.1 x.2.2.2.2.2.2).trans (by rfl)).symm)
  rw [e]
  exact h
/-! ### slices_Clone_int_int: function 103, by hand -/
def slices_Clone_int_int.f (k : Nat) (l0 : List Int) : Option (List Int) := app 17592186044416 ([] : List Int) l0
noncomputable def slices_Clone_int_int.spec (k : Nat) : FnSpec := ⟨[.d (.sl (.int .i64)) none], [.d (.sl (.int .i64)) (some 3)], fun x => slices_Clone_int_int.f k x⟩
theorem slices_Clone_int_int.sound (k : Nat) : Sound Go.Proofs.Try.prog 103 (slices_Clone_int_int.spec k) := clone_ok (t := 22) (e := 3) (ti := tyt22) (ei := tyt3) (nt := Go.Proofs.Try.f103.ntmps) tyok Go.Proofs.Try.func103 (by kernel_rfl) rfl rfl rfl rfl (by decide) rfl rfl ⟨rfl, rfl, rfl⟩ ⟨rfl, rfl, rfl⟩ ⟨rfl, rfl, rfl⟩ ⟨rfl, rfl, rfl⟩ ⟨rfl, rfl, rfl⟩ ⟨rfl, rfl, rfl⟩ ⟨rfl, rfl, rfl⟩ ⟨rfl, rfl, rfl⟩
/-! ### impl_Chart_copied: function 59 -/
def impl_Chart_copied.m (k : Nat) (a0_0 : Int) (a0_1 : Int) (l0_2 : List Int) : Option (Int × Int × List Int) := ((slices_Clone_int_int.f k l0_2).bind fun r1 => (some (a0_0, a0_1, r1)))
def impl_Chart_copied.f (k : Nat) (a0_0 : Int) (a0_1 : Int) (l0_2 : List Int) : Option (Int × Int × List Int) := impl_Chart_copied.m k a0_0 a0_1 l0_2
noncomputable def impl_Chart_copied.spec (k : Nat) : FnSpec := ⟨[.ag [.d (.int .i64) none, .d (.int .i64) none, .d (.sl (.int .i64)) none]], [.ag [.d (.int .i64) none, .d (.int .i64) none, .d (.sl (.int .i64)) (some 3)]], fun x => impl_Chart_copied.f k x.1 x.2.1 x.2.2⟩
noncomputable def impl_Chart_copied.T : FnText := ⟨(conv [] (bodyOf Go.Proofs.Try.f59) 0).1, Go.Proofs.Try.f59.results.toList, 8, [], [.ag [.d (.int .i64) none, .d (.int .i64) none, .d (.sl (.int .i64)) none]], [.ag [.d (.int .i64) none, .d (.int .i64) none, .d (.sl (.int .i64)) (some 3)]]⟩
noncomputable def impl_Chart_copied.tbl (k : Nat) : Tbl := [(103, slices_Clone_int_int.spec k)]
theorem impl_Chart_copied.e (k : Nat) (o : Nat → St → Option (Int × Int × List Int)) (a0_0 : Int) (a0_1 : Int) (l0_2 : List Int) : impl_Chart_copied.T.main tyt (impl_Chart_copied.tbl k) o (a0_0, a0_1, l0_2) = impl_Chart_copied.m k a0_0 a0_1 l0_2 := by kernel_rfl
theorem impl_Chart_copied.ok : impl_Chart_copied.T.ok = true := by kernel_rfl
theorem impl_Chart_copied.tblok (k : Nat) : TblOk Go.Proofs.Try.prog (impl_Chart_copied.tbl k) := TblOk.cons (slices_Clone_int_int.sound k) (TblOk.nil _)
theorem impl_Chart_copied.sound (k : Nat) : Sound Go.Proofs.Try.prog 59 (impl_Chart_copied.spec k) := by
  have h := fn_ok (F := impl_Chart_copied.T) (tbl := impl_Chart_copied.tbl) mixed tyok Go.Proofs.Try.func59 (by kernel_rfl) (c0 := bodyOf Go.Proofs.Try.f59) rfl (conv_code _ _ _) rfl rfl impl_Chart_copied.ok k (fun j _ => impl_Chart_copied.tblok j)
  have e : impl_Chart_copied.spec k = ⟨impl_Chart_copied.T.ps, impl_Chart_copied.T.rs, impl_Chart_copied.T.ev tyt impl_Chart_copied.tbl k⟩ := congrArg (FnSpec.mk _ _) (funext fun x => ((impl_Chart_copied.e k (impl_Chart_copied.T.run tyt impl_Chart_copied.tbl k) x.1 x.2.1 x.2.2).trans (by rfl)).symm)
  rw [e]
  exact h
/-! ### impl_Chart_put: function 73 -/
def impl_Chart_put.b4 (o4 : Int → Int → Int → Int → List Int → Int → Int → List Int → Int → Int → List Int → Int → Int → List Int → Int → Int → Option (Int × Int × List Int)) (k : Nat) (x0_4 : Int) (x1_4 : Int) (x2_4 : Int) (x3_4 : Int) (l4_4 : List Int) (x5_4 : Int) (x6_4 : Int) (l7_4 : List Int) (x8_4 : Int) (x9_4 : Int) (l10_4 : List Int) (x11_4 : Int) (x12_4 : Int) (l13_4 : List Int) (x14_4 : Int) (x15_4 : Int) : Option (Int × Int × List Int) := (if x15_4 < x14_4 then ((cut l13_4.length (w64 ((w64 ((w64 (x0_4 + x15_4)) * x2_4)) + x1_4)) (l13_4.length : Int)).bind fun c2 => ((cut l7_4.length (w64 (x15_4 * x5_4)) (w64 ((w64 (x15_4 + 1)) * x5_4))).bind fun c3 => (o4 x0_4 x1_4 x2_4 x3_4 l4_4 x5_4 x6_4 l7_4 x8_4 x9_4 l10_4 x11_4 x12_4 (lay l13_4 c2.1 c2.2 ((l7_4.drop c3.1).take c3.2)) x14_4 (w64 (x15_4 + 1))))) else (some (x11_4, x12_4, l13_4)))
def impl_Chart_put.l4 : Nat → Int → Int → Int → Int → List Int → Int → Int → List Int → Int → Int → List Int → Int → Int → List Int → Int → Int → Option (Int × Int × List Int)
  | 0, _, _, _, _, _, _, _, _, _, _, _, _, _, _, _, _ => none
  | k + 1, x0_4, x1_4, x2_4, x3_4, l4_4, x5_4, x6_4, l7_4, x8_4, x9_4, l10_4, x11_4, x12_4, l13_4, x14_4, x15_4 => impl_Chart_put.b4 (impl_Chart_put.l4 k) k x0_4 x1_4 x2_4 x3_4 l4_4 x5_4 x6_4 l7_4 x8_4 x9_4 l10_4 x11_4 x12_4 l13_4 x14_4 x15_4
def impl_Chart_put.m (o4 : Int → Int → Int → Int → List Int → Int → Int → List Int → Int → Int → List Int → Int → Int → List Int → Int → Int → Option (Int × Int × List Int)) (k : Nat) (a0_0 : Int) (a0_1 : Int) (l0_2 : List Int) (a1_0 : Int) (a1_1 : Int) (l1_2 : List Int) (a2 : Int) (a3 : Int) : Option (Int × Int × List Int) := ((impl_Chart_copied.f k a0_0 a0_1 l0_2).bind fun r1 => (o4 a2 a3 a0_0 a0_1 l0_2 a1_0 a1_1 l1_2 0 0 [] r1.1 r1.2.1 r1.2.2 a1_1 0))
def impl_Chart_put.f (k : Nat) (a0_0 : Int) (a0_1 : Int) (l0_2 : List Int) (a1_0 : Int) (a1_1 : Int) (l1_2 : List Int) (a2 : Int) (a3 : Int) : Option (Int × Int × List Int) := impl_Chart_put.m (impl_Chart_put.l4 k) k a0_0 a0_1 l0_2 a1_0 a1_1 l1_2 a2 a3
noncomputable def impl_Chart_put.spec (k : Nat) : FnSpec := ⟨[.ag [.d (.int .i64) none, .d (.int .i64) none, .d (.sl (.int .i64)) none], .ag [.d (.int .i64) none, .d (.int .i64) none, .d (.sl (.int .i64)) none], .d (.int .i64) none, .d (.int .i64) none], [.ag [.d (.int .i64) none, .d (.int .i64) none, .d (.sl (.int .i64)) (some 3)]], fun x => impl_Chart_put.f k x.1 x.2.1 x.2.2.1 x.2.2.2.1 x.2.2.2.2.1 x.2.2.2.2.2.1 x.2.2.2.2.2.2.1 x.2.2.2.2.2.2.2⟩
def impl_Chart_put.S4 (x0_4 : Int) (x1_4 : Int) (x2_4 : Int) (x3_4 : Int) (l4_4 : List Int) (x5_4 : Int) (x6_4 : Int) (l7_4 : List Int) (x8_4 : Int) (x9_4 : Int) (l10_4 : List Int) (x11_4 : Int) (x12_4 : Int) (l13_4 : List Int) (x14_4 : Int) (x15_4 : Int) : St := ⟨[(2, .val (.int .i64) x0_4), (3, .val (.int .i64) x1_4), (4, .ptr 100 0), (5, .ptr 101 0), (8, .ptr 102 0), (9, .ptr 103 0), (14, .val (.int .i64) x14_4), (15, .val (.int .i64) x15_4)], [(103, some (.box [.val (.int .i64) x11_4, .val (.int .i64) x12_4, .ref 104])), (104, some (.row 3 (.int .i64) l13_4)), (102, some (.box [.val (.int .i64) x8_4, .val (.int .i64) x9_4, .val (.sl (.int .i64)) l10_4])), (101, some (.box [.val (.int .i64) x5_4, .val (.int .i64) x6_4, .val (.sl (.int .i64)) l7_4])), (100, some (.box [.val (.int .i64) x2_4, .val (.int .i64) x3_4, .val (.sl (.int .i64)) l4_4]))], 1000⟩
noncomputable def impl_Chart_put.T : FnText := ⟨(conv [] (bodyOf Go.Proofs.Try.f73) 0).1, Go.Proofs.Try.f73.results.toList, 44, [(4, [(2, .rd (.int .i64)), (3, .rd (.int .i64)), (4, .bx 100 [.rd (.int .i64), .rd (.int .i64), .rd (.sl (.int .i64))]), (5, .bx 101 [.rd (.int .i64), .rd (.int .i64), .rd (.sl (.int .i64))]), (8, .bx 102 [.rd (.int .i64), .rd (.int .i64), .rd (.sl (.int .i64))]), (9, .bx 103 [.rd (.int .i64), .rd (.int .i64), .own 3 (.int .i64) 104]), (14, .rd (.int .i64)), (15, .rd (.int .i64))])], [.ag [.d (.int .i64) none, .d (.int .i64) none, .d (.sl (.int .i64)) none], .ag [.d (.int .i64) none, .d (.int .i64) none, .d (.sl (.int .i64)) none], .d (.int .i64) none, .d (.int .i64) none], [.ag [.d (.int .i64) none, .d (.int .i64) none, .d (.sl (.int .i64)) (some 3)]]⟩
noncomputable def impl_Chart_put.tbl (k : Nat) : Tbl := [(59, impl_Chart_copied.spec k)]
theorem impl_Chart_put.e4 (k : Nat) (o : Nat → St → Option (Int × Int × List Int)) (x0_4 : Int) (x1_4 : Int) (x2_4 : Int) (x3_4 : Int) (l4_4 : List Int) (x5_4 : Int) (x6_4 : Int) (l7_4 : List Int) (x8_4 : Int) (x9_4 : Int) (l10_4 : List Int) (x11_4 : Int) (x12_4 : Int) (l13_4 : List Int) (x14_4 : Int) (x15_4 : Int) : impl_Chart_put.T.step tyt (impl_Chart_put.tbl k) o 4 (impl_Chart_put.S4 x0_4 x1_4 x2_4 x3_4 l4_4 x5_4 x6_4 l7_4 x8_4 x9_4 l10_4 x11_4 x12_4 l13_4 x14_4 x15_4) = impl_Chart_put.b4 (fun x0_4 x1_4 x2_4 x3_4 l4_4 x5_4 x6_4 l7_4 x8_4 x9_4 l10_4 x11_4 x12_4 l13_4 x14_4 x15_4 => o 4 (impl_Chart_put.S4 x0_4 x1_4 x2_4 x3_4 l4_4 x5_4 x6_4 l7_4 x8_4 x9_4 l10_4 x11_4 x12_4 l13_4 x14_4 x15_4)) k x0_4 x1_4 x2_4 x3_4 l4_4 x5_4 x6_4 l7_4 x8_4 x9_4 l10_4 x11_4 x12_4 l13_4 x14_4 x15_4 := by kernel_rfl
theorem impl_Chart_put.e (k : Nat) (o : Nat → St → Option (Int × Int × List Int)) (a0_0 : Int) (a0_1 : Int) (l0_2 : List Int) (a1_0 : Int) (a1_1 : Int) (l1_2 : List Int) (a2 : Int) (a3 : Int) : impl_Chart_put.T.main tyt (impl_Chart_put.tbl k) o (a0_0, a0_1, l0_2, a1_0, a1_1, l1_2, a2, a3) = impl_Chart_put.m (fun x0_4 x1_4 x2_4 x3_4 l4_4 x5_4 x6_4 l7_4 x8_4 x9_4 l10_4 x11_4 x12_4 l13_4 x14_4 x15_4 => o 4 (impl_Chart_put.S4 x0_4 x1_4 x2_4 x3_4 l4_4 x5_4 x6_4 l7_4 x8_4 x9_4 l10_4 x11_4 x12_4 l13_4 x14_4 x15_4)) k a0_0 a0_1 l0_2 a1_0 a1_1 l1_2 a2 a3 := by kernel_rfl
theorem impl_Chart_put.ok : impl_Chart_put.T.ok = true := by kernel_rfl
theorem impl_Chart_put.run (k : Nat) : (∀ (x0_4 : Int) (x1_4 : Int) (x2_4 : Int) (x3_4 : Int) (l4_4 : List Int) (x5_4 : Int) (x6_4 : Int) (l7_4 : List Int) (x8_4 : Int) (x9_4 : Int) (l10_4 : List Int) (x11_4 : Int) (x12_4 : Int) (l13_4 : List Int) (x14_4 : Int) (x15_4 : Int), impl_Chart_put.T.run tyt impl_Chart_put.tbl k 4 (impl_Chart_put.S4 x0_4 x1_4 x2_4 x3_4 l4_4 x5_4 x6_4 l7_4 x8_4 x9_4 l10_4 x11_4 x12_4 l13_4 x14_4 x15_4) = impl_Chart_put.l4 k x0_4 x1_4 x2_4 x3_4 l4_4 x5_4 x6_4 l7_4 x8_4 x9_4 l10_4 x11_4 x12_4 l13_4 x14_4 x15_4) := by
  induction k with
  | zero => exact fun x0_4 x1_4 x2_4 x3_4 l4_4 x5_4 x6_4 l7_4 x8_4 x9_4 l10_4 x11_4 x12_4 l13_4 x14_4 x15_4 => rfl
  | succ k ih =>
    exact fun x0_4 x1_4 x2_4 x3_4 l4_4 x5_4 x6_4 l7_4 x8_4 x9_4 l10_4 x11_4 x12_4 l13_4 x14_4 x15_4 => by
      have q4 : (fun x0_4 x1_4 x2_4 x3_4 l4_4 x5_4 x6_4 l7_4 x8_4 x9_4 l10_4 x11_4 x12_4 l13_4 x14_4 x15_4 => impl_Chart_put.T.run tyt impl_Chart_put.tbl k 4 (impl_Chart_put.S4 x0_4 x1_4 x2_4 x3_4 l4_4 x5_4 x6_4 l7_4 x8_4 x9_4 l10_4 x11_4 x12_4 l13_4 x14_4 x15_4)) = impl_Chart_put.l4 k := by funext x0_4 x1_4 x2_4 x3_4 l4_4 x5_4 x6_4 l7_4 x8_4 x9_4 l10_4 x11_4 x12_4 l13_4 x14_4 x15_4; exact ih x0_4 x1_4 x2_4 x3_4 l4_4 x5_4 x6_4 l7_4 x8_4 x9_4 l10_4 x11_4 x12_4 l13_4 x14_4 x15_4
      exact (impl_Chart_put.e4 k (impl_Chart_put.T.run tyt impl_Chart_put.tbl k) x0_4 x1_4 x2_4 x3_4 l4_4 x5_4 x6_4 l7_4 x8_4 x9_4 l10_4 x11_4 x12_4 l13_4 x14_4 x15_4).trans (by rw [q4]; rfl)
theorem impl_Chart_put.tblok (k : Nat) : TblOk Go.Proofs.Try.prog (impl_Chart_put.tbl k) := TblOk.cons (impl_Chart_copied.sound k) (TblOk.nil _)
theorem impl_Chart_put.sound (k : Nat) : Sound Go.Proofs.Try.prog 73 (impl_Chart_put.spec k) := by
  have h := fn_ok (F := impl_Chart_put.T) (tbl := impl_Chart_put.tbl) mixed tyok Go.Proofs.Try.func73 (by kernel_rfl) (c0 := bodyOf Go.Proofs.Try.f73) rfl (conv_code _ _ _) rfl rfl impl_Chart_put.ok k (fun j _ => impl_Chart_put.tblok j)
  have q4 : (fun x0_4 x1_4 x2_4 x3_4 l4_4 x5_4 x6_4 l7_4 x8_4 x9_4 l10_4 x11_4 x12_4 l13_4 x14_4 x15_4 => impl_Chart_put.T.run tyt impl_Chart_put.tbl k 4 (impl_Chart_put.S4 x0_4 x1_4 x2_4 x3_4 l4_4 x5_4 x6_4 l7_4 x8_4 x9_4 l10_4 x11_4 x12_4 l13_4 x14_4 x15_4)) = impl_Chart_put.l4 k := by funext x0_4 x1_4 x2_4 x3_4 l4_4 x5_4 x6_4 l7_4 x8_4 x9_4 l10_4 x11_4 x12_4 l13_4 x14_4 x15_4; exact (impl_Chart_put.run k) x0_4 x1_4 x2_4 x3_4 l4_4 x5_4 x6_4 l7_4 x8_4 x9_4 l10_4 x11_4 x12_4 l13_4 x14_4 x15_4
  have e : impl_Chart_put.spec k = ⟨impl_Chart_put.T.ps, impl_Chart_put.T.rs, impl_Chart_put.T.ev tyt impl_Chart_put.tbl k⟩ := congrArg (FnSpec.mk _ _) (funext fun x => ((impl_Chart_put.e k (impl_Chart_put.T.run tyt impl_Chart_put.tbl k) x.1 x.2.1 x.2.2.1 x.2.2.2.1 x.2.2.2.2.1 x.2.2.2.2.2.1 x.2.2.2.2.2.2.1 x.2.2.2.2.2.2.2).trans (by rw [q4]; rfl)).symm)
  rw [e]
  exact h
/-! ### impl_PutPart: function 32 -/
def impl_PutPart.m (k : Nat) (a0_0 : Int) (a0_1 : Int) (l0_2 : List Int) (a1_0 : Int) (a1_1 : Int) (l1_2 : List Int) (a2 : Int) (a3 : Int) : Option (Int × Int × List Int × Bool) := ((impl_IsChart.f k a0_0 a0_1 l0_2).bind fun r1 => (cond (!r1) (some (0, 0, [], false)) ((impl_IsChart.f k a1_0 a1_1 l1_2).bind fun r2 => (cond (!r2) (some (0, 0, [], false)) ((impl_Chart_hasPart.f k a0_0 a0_1 l0_2 a2 a3 a1_1 a1_0).bind fun r3 => (cond (!r3) (some (0, 0, [], false)) ((impl_Chart_put.f k a0_0 a0_1 l0_2 a1_0 a1_1 l1_2 a2 a3).bind fun r4 => (some (r4.1, r4.2.1, r4.2.2, true)))))))))
def impl_PutPart.f (k : Nat) (a0_0 : Int) (a0_1 : Int) (l0_2 : List Int) (a1_0 : Int) (a1_1 : Int) (l1_2 : List Int) (a2 : Int) (a3 : Int) : Option (Int × Int × List Int × Bool) := impl_PutPart.m k a0_0 a0_1 l0_2 a1_0 a1_1 l1_2 a2 a3
noncomputable def impl_PutPart.spec (k : Nat) : FnSpec := ⟨[.ag [.d (.int .i64) none, .d (.int .i64) none, .d (.sl (.int .i64)) none], .ag [.d (.int .i64) none, .d (.int .i64) none, .d (.sl (.int .i64)) none], .d (.int .i64) none, .d (.int .i64) none], [.ag [.d (.int .i64) none, .d (.int .i64) none, .d (.sl (.int .i64)) (some 3)], .d .bool none], fun x => impl_PutPart.f k x.1 x.2.1 x.2.2.1 x.2.2.2.1 x.2.2.2.2.1 x.2.2.2.2.2.1 x.2.2.2.2.2.2.1 x.2.2.2.2.2.2.2⟩
noncomputable def impl_PutPart.T : FnText := ⟨(conv [] (bodyOf Go.Proofs.Try.f32) 0).1, Go.Proofs.Try.f32.results.toList, 35, [], [.ag [.d (.int .i64) none, .d (.int .i64) none, .d (.sl (.int .i64)) none], .ag [.d (.int .i64) none, .d (.int .i64) none, .d (.sl (.int .i64)) none], .d (.int .i64) none, .d (.int .i64) none], [.ag [.d (.int .i64) none, .d (.int .i64) none, .d (.sl (.int .i64)) (some 3)], .d .bool none]⟩
noncomputable def impl_PutPart.tbl (k : Nat) : Tbl := [(57, impl_IsChart.spec k), (72, impl_Chart_hasPart.spec k), (73, impl_Chart_put.spec k)]
theorem impl_PutPart.e (k : Nat) (o : Nat → St → Option (Int × Int × List Int × Bool)) (a0_0 : Int) (a0_1 : Int) (l0_2 : List Int) (a1_0 : Int) (a1_1 : Int) (l1_2 : List Int) (a2 : Int) (a3 : Int) : impl_PutPart.T.main tyt (impl_PutPart.tbl k) o (a0_0, a0_1, l0_2, a1_0, a1_1, l1_2, a2, a3) = impl_PutPart.m k a0_0 a0_1 l0_2 a1_0 a1_1 l1_2 a2 a3 := by kernel_rfl
theorem impl_PutPart.ok : impl_PutPart.T.ok = true := by kernel_rfl
theorem impl_PutPart.tblok (k : Nat) : TblOk Go.Proofs.Try.prog (impl_PutPart.tbl k) := TblOk.cons (impl_IsChart.sound k) (TblOk.cons (impl_Chart_hasPart.sound k) (TblOk.cons (impl_Chart_put.sound k) (TblOk.nil _)))
theorem impl_PutPart.sound (k : Nat) : Sound Go.Proofs.Try.prog 32 (impl_PutPart.spec k) := by
  have h := fn_ok (F := impl_PutPart.T) (tbl := impl_PutPart.tbl) mixed tyok Go.Proofs.Try.func32 (by kernel_rfl) (c0 := bodyOf Go.Proofs.Try.f32) rfl (conv_code _ _ _) rfl rfl impl_PutPart.ok k (fun j _ => impl_PutPart.tblok j)
  have e : impl_PutPart.spec k = ⟨impl_PutPart.T.ps, impl_PutPart.T.rs, impl_PutPart.T.ev tyt impl_PutPart.tbl k⟩ := congrArg (FnSpec.mk _ _) (funext fun x => ((impl_PutPart.e k (impl_PutPart.T.run tyt impl_PutPart.tbl k) x.1 x.2.1 x.2.2.1 x.2.2.2.1 x.2.2.2.2.1 x.2.2.2.2.2.1 x.2.2.2.2.2.2.1 x.2.2.2.2.2.2.2).trans (by rfl)).symm)
  rw [e]
  exact h
/-! ### laws_eqIntS: function 44 -/
def laws_eqIntS.b6 (o6 : List Int → List Int → Int → Option (Bool)) (k : Nat) (l0_6 : List Int) (l1_6 : List Int) (x2_6 : Int) : Option (Bool) := (if x2_6 < (l0_6.length : Int) then ((chk l0_6.length x2_6).bind fun i1 => ((chk l1_6.length x2_6).bind fun i2 => (if ¬ (l0_6.getD i1 0) = (l1_6.getD i2 0) then (some false) else (o6 l0_6 l1_6 (w64 (x2_6 + 1)))))) else (some true))
def laws_eqIntS.l6 : Nat → List Int → List Int → Int → Option (Bool)
  | 0, _, _, _ => none
  | k + 1, l0_6, l1_6, x2_6 => laws_eqIntS.b6 (laws_eqIntS.l6 k) k l0_6 l1_6 x2_6
def laws_eqIntS.m (o6 : List Int → List Int → Int → Option (Bool)) (k : Nat) (l0 : List Int) (l1 : List Int) : Option (Bool) := (if ¬ (l0.length : Int) = (l1.length : Int) then (some false) else (o6 l0 l1 0))
def laws_eqIntS.f (k : Nat) (l0 : List Int) (l1 : List Int) : Option (Bool) := laws_eqIntS.m (laws_eqIntS.l6 k) k l0 l1
noncomputable def laws_eqIntS.spec (k : Nat) : FnSpec := ⟨[.d (.sl (.int .i64)) none, .d (.sl (.int .i64)) none], [.d .bool none], fun x => laws_eqIntS.f k x.1 x.2⟩
def laws_eqIntS.S6 (l0_6 : List Int) (l1_6 : List Int) (x2_6 : Int) : St := ⟨[(0, .val (.sl (.int .i64)) l0_6), (1, .val (.sl (.int .i64)) l1_6), (5, .val (.int .i64) x2_6)], [], 1000⟩
noncomputable def laws_eqIntS.T : FnText := ⟨(conv [] (bodyOf Go.Proofs.Try.f44) 0).1, Go.Proofs.Try.f44.results.toList, 26, [(6, [(0, .rd (.sl (.int .i64))), (1, .rd (.sl (.int .i64))), (5, .rd (.int .i64))])], [.d (.sl (.int .i64)) none, .d (.sl (.int .i64)) none], [.d .bool none]⟩
noncomputable def laws_eqIntS.tbl (k : Nat) : Tbl := []
theorem laws_eqIntS.e6 (k : Nat) (o : Nat → St → Option (Bool)) (l0_6 : List Int) (l1_6 : List Int) (x2_6 : Int) : laws_eqIntS.T.step tyt (laws_eqIntS.tbl k) o 6 (laws_eqIntS.S6 l0_6 l1_6 x2_6) = laws_eqIntS.b6 (fun l0_6 l1_6 x2_6 => o 6 (laws_eqIntS.S6 l0_6 l1_6 x2_6)) k l0_6 l1_6 x2_6 := by kernel_rfl
theorem laws_eqIntS.e (k : Nat) (o : Nat → St → Option (Bool)) (l0 : List Int) (l1 : List Int) : laws_eqIntS.T.main tyt (laws_eqIntS.tbl k) o (l0, l1) = laws_eqIntS.m (fun l0_6 l1_6 x2_6 => o 6 (laws_eqIntS.S6 l0_6 l1_6 x2_6)) k l0 l1 := by kernel_rfl
theorem laws_eqIntS.ok : laws_eqIntS.T.ok = true := by kernel_rfl
theorem laws_eqIntS.run (k : Nat) : (∀ (l0_6 : List Int) (l1_6 : List Int) (x2_6 : Int), laws_eqIntS.T.run tyt laws_eqIntS.tbl k 6 (laws_eqIntS.S6 l0_6 l1_6 x2_6) = laws_eqIntS.l6 k l0_6 l1_6 x2_6) := by
  induction k with
  | zero => exact fun l0_6 l1_6 x2_6 => rfl
  | succ k ih =>
    exact fun l0_6 l1_6 x2_6 => by
      have q6 : (fun l0_6 l1_6 x2_6 => laws_eqIntS.T.run tyt laws_eqIntS.tbl k 6 (laws_eqIntS.S6 l0_6 l1_6 x2_6)) = laws_eqIntS.l6 k := by funext l0_6 l1_6 x2_6; exact ih l0_6 l1_6 x2_6
      exact (laws_eqIntS.e6 k (laws_eqIntS.T.run tyt laws_eqIntS.tbl k) l0_6 l1_6 x2_6).trans (by rw [q6]; rfl)
theorem laws_eqIntS.tblok (k : Nat) : TblOk Go.Proofs.Try.prog (laws_eqIntS.tbl k) := TblOk.nil _
theorem laws_eqIntS.sound (k : Nat) : Sound Go.Proofs.Try.prog 44 (laws_eqIntS.spec k) := by
  have h := fn_ok (F := laws_eqIntS.T) (tbl := laws_eqIntS.tbl) mixed tyok Go.Proofs.Try.func44 (by kernel_rfl) (c0 := bodyOf Go.Proofs.Try.f44) rfl (conv_code _ _ _) rfl rfl laws_eqIntS.ok k (fun j _ => laws_eqIntS.tblok j)
  have q6 : (fun l0_6 l1_6 x2_6 => laws_eqIntS.T.run tyt laws_eqIntS.tbl k 6 (laws_eqIntS.S6 l0_6 l1_6 x2_6)) = laws_eqIntS.l6 k := by funext l0_6 l1_6 x2_6; exact (laws_eqIntS.run k) l0_6 l1_6 x2_6
  have e : laws_eqIntS.spec k = ⟨laws_eqIntS.T.ps, laws_eqIntS.T.rs, laws_eqIntS.T.ev tyt laws_eqIntS.tbl k⟩ := congrArg (FnSpec.mk _ _) (funext fun x => ((laws_eqIntS.e k (laws_eqIntS.T.run tyt laws_eqIntS.tbl k) x.1 x.2).trans (by rw [q6]; rfl)).symm)
  rw [e]
  exact h
/-! ### laws_eqChart: function 19 -/
def laws_eqChart.m (k : Nat) (a0_0 : Int) (a0_1 : Int) (l0_2 : List Int) (a1_0 : Int) (a1_1 : Int) (l1_2 : List Int) : Option (Bool) := (if ¬ a0_0 = a1_0 then (some false) else (if ¬ a0_1 = a1_1 then (some false) else ((laws_eqIntS.f k l0_2 l1_2).bind fun r1 => (cond (!r1) (some false) (some true)))))
def laws_eqChart.f (k : Nat) (a0_0 : Int) (a0_1 : Int) (l0_2 : List Int) (a1_0 : Int) (a1_1 : Int) (l1_2 : List Int) : Option (Bool) := laws_eqChart.m k a0_0 a0_1 l0_2 a1_0 a1_1 l1_2
noncomputable def laws_eqChart.spec (k : Nat) : FnSpec := ⟨[.ag [.d (.int .i64) none, .d (.int .i64) none, .d (.sl (.int .i64)) none], .ag [.d (.int .i64) none, .d (.int .i64) none, .d (.sl (.int .i64)) none]], [.d .bool none], fun x => laws_eqChart.f k x.1 x.2.1 x.2.2.1 x.2.2.2.1 x.2.2.2.2.1 x.2.2.2.2.2⟩
noncomputable def laws_eqChart.T : FnText := ⟨(conv [] (bodyOf Go.Proofs.Try.f19) 0).1, Go.Proofs.Try.f19.results.toList, 21, [], [.ag [.d (.int .i64) none, .d (.int .i64) none, .d (.sl (.int .i64)) none], .ag [.d (.int .i64) none, .d (.int .i64) none, .d (.sl (.int .i64)) none]], [.d .bool none]⟩
noncomputable def laws_eqChart.tbl (k : Nat) : Tbl := [(44, laws_eqIntS.spec k)]
theorem laws_eqChart.e (k : Nat) (o : Nat → St → Option (Bool)) (a0_0 : Int) (a0_1 : Int) (l0_2 : List Int) (a1_0 : Int) (a1_1 : Int) (l1_2 : List Int) : laws_eqChart.T.main tyt (laws_eqChart.tbl k) o (a0_0, a0_1, l0_2, a1_0, a1_1, l1_2) = laws_eqChart.m k a0_0 a0_1 l0_2 a1_0 a1_1 l1_2 := by kernel_rfl
theorem laws_eqChart.ok : laws_eqChart.T.ok = true := by kernel_rfl
theorem laws_eqChart.tblok (k : Nat) : TblOk Go.Proofs.Try.prog (laws_eqChart.tbl k) := TblOk.cons (laws_eqIntS.sound k) (TblOk.nil _)
theorem laws_eqChart.sound (k : Nat) : Sound Go.Proofs.Try.prog 19 (laws_eqChart.spec k) := by
  have h := fn_ok (F := laws_eqChart.T) (tbl := laws_eqChart.tbl) mixed tyok Go.Proofs.Try.func19 (by kernel_rfl) (c0 := bodyOf Go.Proofs.Try.f19) rfl (conv_code _ _ _) rfl rfl laws_eqChart.ok k (fun j _ => laws_eqChart.tblok j)
  have e : laws_eqChart.spec k = ⟨laws_eqChart.T.ps, laws_eqChart.T.rs, laws_eqChart.T.ev tyt laws_eqChart.tbl k⟩ := congrArg (FnSpec.mk _ _) (funext fun x => ((laws_eqChart.e k (laws_eqChart.T.run tyt laws_eqChart.tbl k) x.1 x.2.1 x.2.2.1 x.2.2.2.1 x.2.2.2.2.1 x.2.2.2.2.2).trans (by rfl)).symm)
  rw [e]
  exact h
/-! ### laws_markIntS: function 45 -/
def laws_markIntS.b3 (o3 : List Int → Int → Int → Option (Int × List Int)) (k : Nat) (l0_3 : List Int) (x1_3 : Int) (x2_3 : Int) : Option (Int × List Int) := (if x2_3 < (l0_3.length : Int) then ((chk l0_3.length x2_3).bind fun i1 => (o3 (l0_3.set i1 x1_3) (w64 (x1_3 + 1)) (w64 (x2_3 + 1)))) else (some (x1_3, l0_3)))
def laws_markIntS.l3 : Nat → List Int → Int → Int → Option (Int × List Int)
  | 0, _, _, _ => none
  | k + 1, l0_3, x1_3, x2_3 => laws_markIntS.b3 (laws_markIntS.l3 k) k l0_3 x1_3 x2_3
def laws_markIntS.m (o3 : List Int → Int → Int → Option (Int × List Int)) (k : Nat) (l0 : List Int) (a1 : Int) : Option (Int × List Int) := (o3 l0 a1 0)
def laws_markIntS.f (k : Nat) (l0 : List Int) (a1 : Int) : Option (Int × List Int) := laws_markIntS.m (laws_markIntS.l3 k) k l0 a1
noncomputable def laws_markIntS.spec (k : Nat) : FnSpec := ⟨[.io 3 (.int .i64), .d (.int .i64) none], [.d (.int .i64) none], fun x => laws_markIntS.f k x.1 x.2⟩
def laws_markIntS.S3 (l0_3 : List Int) (x1_3 : Int) (x2_3 : Int) : St := ⟨[(0, .ref 0), (1, .val (.int .i64) x1_3), (5, .val (.int .i64) x2_3)], [(0, some (.row 3 (.int .i64) l0_3))], 1000⟩
noncomputable def laws_markIntS.T : FnText := ⟨(conv [] (bodyOf Go.Proofs.Try.f45) 0).1, Go.Proofs.Try.f45.results.toList, 19, [(3, [(0, .own 3 (.int .i64) 0), (1, .rd (.int .i64)), (5, .rd (.int .i64))])], [.io 3 (.int .i64), .d (.int .i64) none], [.d (.int .i64) none]⟩
noncomputable def laws_markIntS.tbl (k : Nat) : Tbl := []
theorem laws_markIntS.e3 (k : Nat) (o : Nat → St → Option (Int × List Int)) (l0_3 : List Int) (x1_3 : Int) (x2_3 : Int) : laws_markIntS.T.step tyt (laws_markIntS.tbl k) o 3 (laws_markIntS.S3 l0_3 x1_3 x2_3) = laws_markIntS.b3 (fun l0_3 x1_3 x2_3 => o 3 (laws_markIntS.S3 l0_3 x1_3 x2_3)) k l0_3 x1_3 x2_3 := by kernel_rfl
theorem laws_markIntS.e (k : Nat) (o : Nat → St → Option (Int × List Int)) (l0 : List Int) (a1 : Int) : laws_markIntS.T.main tyt (laws_markIntS.tbl k) o (l0, a1) = laws_markIntS.m (fun l0_3 x1_3 x2_3 => o 3 (laws_markIntS.S3 l0_3 x1_3 x2_3)) k l0 a1 := by kernel_rfl
theorem laws_markIntS.ok : laws_markIntS.T.ok = true := by kernel_rfl
theorem laws_markIntS.run (k : Nat) : (∀ (l0_3 : List Int) (x1_3 : Int) (x2_3 : Int), laws_markIntS.T.run tyt laws_markIntS.tbl k 3 (laws_markIntS.S3 l0_3 x1_3 x2_3) = laws_markIntS.l3 k l0_3 x1_3 x2_3) := by
  induction k with
  | zero => exact fun l0_3 x1_3 x2_3 => rfl
  | succ k ih =>
    exact fun l0_3 x1_3 x2_3 => by
      have q3 : (fun l0_3 x1_3 x2_3 => laws_markIntS.T.run tyt laws_markIntS.tbl k 3 (laws_markIntS.S3 l0_3 x1_3 x2_3)) = laws_markIntS.l3 k := by funext l0_3 x1_3 x2_3; exact ih l0_3 x1_3 x2_3
      exact (laws_markIntS.e3 k (laws_markIntS.T.run tyt laws_markIntS.tbl k) l0_3 x1_3 x2_3).trans (by rw [q3]; rfl)
theorem laws_markIntS.tblok (k : Nat) : TblOk Go.Proofs.Try.prog (laws_markIntS.tbl k) := TblOk.nil _
theorem laws_markIntS.sound (k : Nat) : Sound Go.Proofs.Try.prog 45 (laws_markIntS.spec k) := by
  have h := fn_ok (F := laws_markIntS.T) (tbl := laws_markIntS.tbl) mixed tyok Go.Proofs.Try.func45 (by kernel_rfl) (c0 := bodyOf Go.Proofs.Try.f45) rfl (conv_code _ _ _) rfl rfl laws_markIntS.ok k (fun j _ => laws_markIntS.tblok j)
  have q3 : (fun l0_3 x1_3 x2_3 => laws_markIntS.T.run tyt laws_markIntS.tbl k 3 (laws_markIntS.S3 l0_3 x1_3 x2_3)) = laws_markIntS.l3 k := by funext l0_3 x1_3 x2_3; exact (laws_markIntS.run k) l0_3 x1_3 x2_3
  have e : laws_markIntS.spec k = ⟨laws_markIntS.T.ps, laws_markIntS.T.rs, laws_markIntS.T.ev tyt laws_markIntS.tbl k⟩ := congrArg (FnSpec.mk _ _) (funext fun x => ((laws_markIntS.e k (laws_markIntS.T.run tyt laws_markIntS.tbl k) x.1 x.2).trans (by rw [q3]; rfl)).symm)
  rw [e]
  exact h
/-! ### laws_markChart: function 20 -/
def laws_markChart.m (k : Nat) (a0_0 : Int) (a0_1 : Int) (l0_2 : List Int) (a1 : Int) : Option (Int × List Int) := ((laws_markIntS.f k l0_2 a1).bind fun r1 => (some (r1.1, r1.2)))
def laws_markChart.f (k : Nat) (a0_0 : Int) (a0_1 : Int) (l0_2 : List Int) (a1 : Int) : Option (Int × List Int) := laws_markChart.m k a0_0 a0_1 l0_2 a1
noncomputable def laws_markChart.spec (k : Nat) : FnSpec := ⟨[.ag [.d (.int .i64) none, .d (.int .i64) none, .io 3 (.int .i64)], .d (.int .i64) none], [.d (.int .i64) none], fun x => laws_markChart.f k x.1 x.2.1 x.2.2.1 x.2.2.2⟩
noncomputable def laws_markChart.T : FnText := ⟨(conv [] (bodyOf Go.Proofs.Try.f20) 0).1, Go.Proofs.Try.f20.results.toList, 10, [], [.ag [.d (.int .i64) none, .d (.int .i64) none, .io 3 (.int .i64)], .d (.int .i64) none], [.d (.int .i64) none]⟩
noncomputable def laws_markChart.tbl (k : Nat) : Tbl := [(45, laws_markIntS.spec k)]
theorem laws_markChart.e (k : Nat) (o : Nat → St → Option (Int × List Int)) (a0_0 : Int) (a0_1 : Int) (l0_2 : List Int) (a1 : Int) : laws_markChart.T.main tyt (laws_markChart.tbl k) o (a0_0, a0_1, l0_2, a1) = laws_markChart.m k a0_0 a0_1 l0_2 a1 := by kernel_rfl
theorem laws_markChart.ok : laws_markChart.T.ok = true := by kernel_rfl
theorem laws_markChart.tblok (k : Nat) : TblOk Go.Proofs.Try.prog (laws_markChart.tbl k) := TblOk.cons (laws_markIntS.sound k) (TblOk.nil _)
theorem laws_markChart.sound (k : Nat) : Sound Go.Proofs.Try.prog 20 (laws_markChart.spec k) := by
  have h := fn_ok (F := laws_markChart.T) (tbl := laws_markChart.tbl) mixed tyok Go.Proofs.Try.func20 (by kernel_rfl) (c0 := bodyOf Go.Proofs.Try.f20) rfl (conv_code _ _ _) rfl rfl laws_markChart.ok k (fun j _ => laws_markChart.tblok j)
  have e : laws_markChart.spec k = ⟨laws_markChart.T.ps, laws_markChart.T.rs, laws_markChart.T.ev tyt laws_markChart.tbl k⟩ := congrArg (FnSpec.mk _ _) (funext fun x => ((laws_markChart.e k (laws_markChart.T.run tyt laws_markChart.tbl k) x.1 x.2.1 x.2.2.1 x.2.2.2).trans (by rfl)).symm)
  rw [e]
  exact h
/-! ### laws_heldIntS: function 48 -/
def laws_heldIntS.b3 (o3 : List Int → Int → Int → Option (Int)) (k : Nat) (l0_3 : List Int) (x1_3 : Int) (x2_3 : Int) : Option (Int) := (if x2_3 < (l0_3.length : Int) then ((chk l0_3.length x2_3).bind fun i1 => (if ¬ (l0_3.getD i1 0) = x1_3 then (some (-1)) else (o3 l0_3 (w64 (x1_3 + 1)) (w64 (x2_3 + 1))))) else (some x1_3))
def laws_heldIntS.l3 : Nat → List Int → Int → Int → Option (Int)
  | 0, _, _, _ => none
  | k + 1, l0_3, x1_3, x2_3 => laws_heldIntS.b3 (laws_heldIntS.l3 k) k l0_3 x1_3 x2_3
def laws_heldIntS.m (o3 : List Int → Int → Int → Option (Int)) (k : Nat) (l0 : List Int) (a1 : Int) : Option (Int) := (o3 l0 a1 0)
def laws_heldIntS.f (k : Nat) (l0 : List Int) (a1 : Int) : Option (Int) := laws_heldIntS.m (laws_heldIntS.l3 k) k l0 a1
noncomputable def laws_heldIntS.spec (k : Nat) : FnSpec := ⟨[.d (.sl (.int .i64)) none, .d (.int .i64) none], [.d (.int .i64) none], fun x => laws_heldIntS.f k x.1 x.2⟩
def laws_heldIntS.S3 (l0_3 : List Int) (x1_3 : Int) (x2_3 : Int) : St := ⟨[(0, .val (.sl (.int .i64)) l0_3), (1, .val (.int .i64) x1_3), (5, .val (.int .i64) x2_3)], [], 1000⟩
noncomputable def laws_heldIntS.T : FnText := ⟨(conv [] (bodyOf Go.Proofs.Try.f48) 0).1, Go.Proofs.Try.f48.results.toList, 21, [(3, [(0, .rd (.sl (.int .i64))), (1, .rd (.int .i64)), (5, .rd (.int .i64))])], [.d (.sl (.int .i64)) none, .d (.int .i64) none], [.d (.int .i64) none]⟩
noncomputable def laws_heldIntS.tbl (k : Nat) : Tbl := []
theorem laws_heldIntS.e3 (k : Nat) (o : Nat → St → Option (Int)) (l0_3 : List Int) (x1_3 : Int) (x2_3 : Int) : laws_heldIntS.T.step tyt (laws_heldIntS.tbl k) o 3 (laws_heldIntS.S3 l0_3 x1_3 x2_3) = laws_heldIntS.b3 (fun l0_3 x1_3 x2_3 => o 3 (laws_heldIntS.S3 l0_3 x1_3 x2_3)) k l0_3 x1_3 x2_3 := by kernel_rfl
theorem laws_heldIntS.e (k : Nat) (o : Nat → St → Option (Int)) (l0 : List Int) (a1 : Int) : laws_heldIntS.T.main tyt (laws_heldIntS.tbl k) o (l0, a1) = laws_heldIntS.m (fun l0_3 x1_3 x2_3 => o 3 (laws_heldIntS.S3 l0_3 x1_3 x2_3)) k l0 a1 := by kernel_rfl
theorem laws_heldIntS.ok : laws_heldIntS.T.ok = true := by kernel_rfl
theorem laws_heldIntS.run (k : Nat) : (∀ (l0_3 : List Int) (x1_3 : Int) (x2_3 : Int), laws_heldIntS.T.run tyt laws_heldIntS.tbl k 3 (laws_heldIntS.S3 l0_3 x1_3 x2_3) = laws_heldIntS.l3 k l0_3 x1_3 x2_3) := by
  induction k with
  | zero => exact fun l0_3 x1_3 x2_3 => rfl
  | succ k ih =>
    exact fun l0_3 x1_3 x2_3 => by
      have q3 : (fun l0_3 x1_3 x2_3 => laws_heldIntS.T.run tyt laws_heldIntS.tbl k 3 (laws_heldIntS.S3 l0_3 x1_3 x2_3)) = laws_heldIntS.l3 k := by funext l0_3 x1_3 x2_3; exact ih l0_3 x1_3 x2_3
      exact (laws_heldIntS.e3 k (laws_heldIntS.T.run tyt laws_heldIntS.tbl k) l0_3 x1_3 x2_3).trans (by rw [q3]; rfl)
theorem laws_heldIntS.tblok (k : Nat) : TblOk Go.Proofs.Try.prog (laws_heldIntS.tbl k) := TblOk.nil _
theorem laws_heldIntS.sound (k : Nat) : Sound Go.Proofs.Try.prog 48 (laws_heldIntS.spec k) := by
  have h := fn_ok (F := laws_heldIntS.T) (tbl := laws_heldIntS.tbl) mixed tyok Go.Proofs.Try.func48 (by kernel_rfl) (c0 := bodyOf Go.Proofs.Try.f48) rfl (conv_code _ _ _) rfl rfl laws_heldIntS.ok k (fun j _ => laws_heldIntS.tblok j)
  have q3 : (fun l0_3 x1_3 x2_3 => laws_heldIntS.T.run tyt laws_heldIntS.tbl k 3 (laws_heldIntS.S3 l0_3 x1_3 x2_3)) = laws_heldIntS.l3 k := by funext l0_3 x1_3 x2_3; exact (laws_heldIntS.run k) l0_3 x1_3 x2_3
  have e : laws_heldIntS.spec k = ⟨laws_heldIntS.T.ps, laws_heldIntS.T.rs, laws_heldIntS.T.ev tyt laws_heldIntS.tbl k⟩ := congrArg (FnSpec.mk _ _) (funext fun x => ((laws_heldIntS.e k (laws_heldIntS.T.run tyt laws_heldIntS.tbl k) x.1 x.2).trans (by rw [q3]; rfl)).symm)
  rw [e]
  exact h
/-! ### laws_heldChart: function 21 -/
def laws_heldChart.m (k : Nat) (a0_0 : Int) (a0_1 : Int) (l0_2 : List Int) (a1 : Int) : Option (Int) := ((laws_heldIntS.f k l0_2 a1).bind fun r1 => (if r1 < 0 then (some (-1)) else (some r1)))
def laws_heldChart.f (k : Nat) (a0_0 : Int) (a0_1 : Int) (l0_2 : List Int) (a1 : Int) : Option (Int) := laws_heldChart.m k a0_0 a0_1 l0_2 a1
noncomputable def laws_heldChart.spec (k : Nat) : FnSpec := ⟨[.ag [.d (.int .i64) none, .d (.int .i64) none, .d (.sl (.int .i64)) none], .d (.int .i64) none], [.d (.int .i64) none], fun x => laws_heldChart.f k x.1 x.2.1 x.2.2.1 x.2.2.2⟩
noncomputable def laws_heldChart.T : FnText := ⟨(conv [] (bodyOf Go.Proofs.Try.f21) 0).1, Go.Proofs.Try.f21.results.toList, 12, [], [.ag [.d (.int .i64) none, .d (.int .i64) none, .d (.sl (.int .i64)) none], .d (.int .i64) none], [.d (.int .i64) none]⟩
noncomputable def laws_heldChart.tbl (k : Nat) : Tbl := [(48, laws_heldIntS.spec k)]
theorem laws_heldChart.e (k : Nat) (o : Nat → St → Option (Int)) (a0_0 : Int) (a0_1 : Int) (l0_2 : List Int) (a1 : Int) : laws_heldChart.T.main tyt (laws_heldChart.tbl k) o (a0_0, a0_1, l0_2, a1) = laws_heldChart.m k a0_0 a0_1 l0_2 a1 := by kernel_rfl
theorem laws_heldChart.ok : laws_heldChart.T.ok = true := by kernel_rfl
theorem laws_heldChart.tblok (k : Nat) : TblOk Go.Proofs.Try.prog (laws_heldChart.tbl k) := TblOk.cons (laws_heldIntS.sound k) (TblOk.nil _)
theorem laws_heldChart.sound (k : Nat) : Sound Go.Proofs.Try.prog 21 (laws_heldChart.spec k) := by
  have h := fn_ok (F := laws_heldChart.T) (tbl := laws_heldChart.tbl) mixed tyok Go.Proofs.Try.func21 (by kernel_rfl) (c0 := bodyOf Go.Proofs.Try.f21) rfl (conv_code _ _ _) rfl rfl laws_heldChart.ok k (fun j _ => laws_heldChart.tblok j)
  have e : laws_heldChart.spec k = ⟨laws_heldChart.T.ps, laws_heldChart.T.rs, laws_heldChart.T.ev tyt laws_heldChart.tbl k⟩ := congrArg (FnSpec.mk _ _) (funext fun x => ((laws_heldChart.e k (laws_heldChart.T.run tyt laws_heldChart.tbl k) x.1 x.2.1 x.2.2.1 x.2.2.2).trans (by rfl)).symm)
  rw [e]
  exact h
/-! ### laws_FnExactPutPart: function 6 -/
def laws_FnExactPutPart.m (k : Nat) (a0_0 : Int) (a0_1 : Int) (l0_2 : List Int) (a1_0 : Int) (a1_1 : Int) (l1_2 : List Int) (a2 : Int) (a3 : Int) : Option (Bool) := ((laws_szChart.f k a0_0 a0_1 l0_2 1048576).bind fun r1 => (if r1 < 0 then (some true) else ((laws_szChart.f k a1_0 a1_1 l1_2 r1).bind fun r2 => (if r2 < 0 then (some true) else ((laws_toChart.f k a0_0 a0_1 l0_2).bind fun r3 => ((laws_toChart.f k a1_0 a1_1 l1_2).bind fun r4 => ((spec_PutPart.f k r3.1 r3.2.1 r3.2.2 r4.1 r4.2.1 r4.2.2 a2 a3).bind fun r5 => ((laws_toChart.f k a0_0 a0_1 l0_2).bind fun r6 => ((laws_toChart.f k a1_0 a1_1 l1_2).bind fun r7 => ((impl_PutPart.f k r6.1 r6.2.1 r6.2.2 r7.1 r7.2.1 r7.2.2 a2 a3).bind fun r8 => ((laws_eqChart.f k r8.1 r8.2.1 r8.2.2.1 r5.1 r5.2.1 r5.2.2.1).bind fun r9 => (cond (!r9) (some false) (if ¬ r8.2.2.2 = r5.2.2.2 then (some false) else ((laws_toChart.f k a0_0 a0_1 l0_2).bind fun r10 => ((laws_eqChart.f k r6.1 r6.2.1 r6.2.2 r10.1 r10.2.1 r10.2.2).bind fun r11 => (cond (!r11) (some false) ((laws_toChart.f k a1_0 a1_1 l1_2).bind fun r12 => ((laws_eqChart.f k r7.1 r7.2.1 r7.2.2 r12.1 r12.2.1 r12.2.2).bind fun r13 => (cond (!r13) (some false) ((laws_markChart.f k r6.1 r6.2.1 r6.2.2 1).bind fun r14 => ((laws_markChart.f k r7.1 r7.2.1 r7.2.2 r14.1).bind fun r15 => (if r15.1 < 0 then (some false) else ((laws_eqChart.f k r8.1 r8.2.1 r8.2.2.1 r5.1 r5.2.1 r5.2.2.1).bind fun r16 => (cond (!r16) (some false) (if ¬ r8.2.2.2 = r5.2.2.2 then (some false) else ((laws_markChart.f k r8.1 r8.2.1 r8.2.2.1 1).bind fun r17 => ((laws_heldChart.f k r8.1 r8.2.1 r17.2 1).bind fun r18 => (if r18 < 0 then (some false) else (if ¬ r18 = r17.1 then (some false) else ((laws_toChart.f k a0_0 a0_1 l0_2).bind fun r19 => ((laws_toChart.f k a1_0 a1_1 l1_2).bind fun r20 => ((impl_PutPart.f k r19.1 r19.2.1 r19.2.2 r20.1 r20.2.1 r20.2.2 a2 a3).bind fun r21 => ((laws_eqChart.f k r21.1 r21.2.1 r21.2.2.1 r5.1 r5.2.1 r5.2.2.1).bind fun r22 => (cond (!r22) (some false) (if ¬ r21.2.2.2 = r5.2.2.2 then (some false) else ((laws_heldChart.f k r8.1 r8.2.1 r17.2 1).bind fun r23 => (if r23 < 0 then (some false) else (if ¬ r23 = r17.1 then (some false) else (some true)))))))))))))))))))))))))))))))))))))))
def laws_FnExactPutPart.f (k : Nat) (a0_0 : Int) (a0_1 : Int) (l0_2 : List Int) (a1_0 : Int) (a1_1 : Int) (l1_2 : List Int) (a2 : Int) (a3 : Int) : Option (Bool) := laws_FnExactPutPart.m k a0_0 a0_1 l0_2 a1_0 a1_1 l1_2 a2 a3
noncomputable def laws_FnExactPutPart.spec (k : Nat) : FnSpec := ⟨[.ag [.d (.int .i64) none, .d (.int .i64) none, .d (.sl (.int .i64)) none], .ag [.d (.int .i64) none, .d (.int .i64) none, .d (.sl (.int .i64)) none], .d (.int .i64) none, .d (.int .i64) none], [.d .bool none], fun x => laws_FnExactPutPart.f k x.1 x.2.1 x.2.2.1 x.2.2.2.1 x.2.2.2.2.1 x.2.2.2.2.2.1 x.2.2.2.2.2.2.1 x.2.2.2.2.2.2.2⟩
noncomputable def laws_FnExactPutPart.T : FnText := ⟨(conv [] (bodyOf Go.Proofs.Try.f6) 0).1, Go.Proofs.Try.f6.results.toList, 129, [], [.ag [.d (.int .i64) none, .d (.int .i64) none, .d (.sl (.int .i64)) none], .ag [.d (.int .i64) none, .d (.int .i64) none, .d (.sl (.int .i64)) none], .d (.int .i64) none, .d (.int .i64) none], [.d .bool none]⟩
noncomputable def laws_FnExactPutPart.tbl (k : Nat) : Tbl := [(15, laws_szChart.spec k), (17, laws_toChart.spec k), (31, spec_PutPart.spec k), (32, impl_PutPart.spec k), (19, laws_eqChart.spec k), (20, laws_markChart.spec k), (21, laws_heldChart.spec k)]
theorem laws_FnExactPutPart.e (k : Nat) (o : Nat → St → Option (Bool)) (a0_0 : Int) (a0_1 : Int) (l0_2 : List Int) (a1_0 : Int) (a1_1 : Int) (l1_2 : List Int) (a2 : Int) (a3 : Int) : laws_FnExactPutPart.T.main tyt (laws_FnExactPutPart.tbl k) o (a0_0, a0_1, l0_2, a1_0, a1_1, l1_2, a2, a3) = laws_FnExactPutPart.m k a0_0 a0_1 l0_2 a1_0 a1_1 l1_2 a2 a3 := by kernel_rfl
theorem laws_FnExactPutPart.ok : laws_FnExactPutPart.T.ok = true := by kernel_rfl
theorem laws_FnExactPutPart.tblok (k : Nat) : TblOk Go.Proofs.Try.prog (laws_FnExactPutPart.tbl k) := TblOk.cons (laws_szChart.sound k) (TblOk.cons (laws_toChart.sound k) (TblOk.cons (spec_PutPart.sound k) (TblOk.cons (impl_PutPart.sound k) (TblOk.cons (laws_eqChart.sound k) (TblOk.cons (laws_markChart.sound k) (TblOk.cons (laws_heldChart.sound k) (TblOk.nil _)))))))
theorem laws_FnExactPutPart.sound (k : Nat) : Sound Go.Proofs.Try.prog 6 (laws_FnExactPutPart.spec k) := by
  have h := fn_ok (F := laws_FnExactPutPart.T) (tbl := laws_FnExactPutPart.tbl) mixed tyok Go.Proofs.Try.func6 (by kernel_rfl) (c0 := bodyOf Go.Proofs.Try.f6) rfl (conv_code _ _ _) rfl rfl laws_FnExactPutPart.ok k (fun j _ => laws_FnExactPutPart.tblok j)
  have e : laws_FnExactPutPart.spec k = ⟨laws_FnExactPutPart.T.ps, laws_FnExactPutPart.T.rs, laws_FnExactPutPart.T.ev tyt laws_FnExactPutPart.tbl k⟩ := congrArg (FnSpec.mk _ _) (funext fun x => ((laws_FnExactPutPart.e k (laws_FnExactPutPart.T.run tyt laws_FnExactPutPart.tbl k) x.1 x.2.1 x.2.2.1 x.2.2.2.1 x.2.2.2.2.1 x.2.2.2.2.2.1 x.2.2.2.2.2.2.1 x.2.2.2.2.2.2.2).trans (by rfl)).symm)
  rw [e]
  exact h
/-- The pure statement. -/
def Pure : Prop := ∀ (a0_0 : Int) (a0_1 : Int) (l0_2 : List Int) (a1_0 : Int) (a1_1 : Int) (l1_2 : List Int) (a2 : Int) (a3 : Int), ((Lit.int .i64 a0_0).wf = true) → ((Lit.int .i64 a0_1).wf = true) → (l0_2.length * 8 ≤ 140737488351232) → (∀ y0 ∈ l0_2, (Lit.int .i64 y0).wf = true) → ((Lit.int .i64 a1_0).wf = true) → ((Lit.int .i64 a1_1).wf = true) → (l1_2.length * 8 ≤ 140737488351232) → (∀ y0 ∈ l1_2, (Lit.int .i64 y0).wf = true) → ((Lit.int .i64 a2).wf = true) → ((Lit.int .i64 a3).wf = true) → ∃ k, laws_FnExactPutPart.f k a0_0 a0_1 l0_2 a1_0 a1_1 l1_2 a2 a3 = some true
end Go.Proofs.Yteiaakppjcpgcaa.DFnExactPutPart
