-- Printed by this session's own program (wip/deep/drow.py); Lean checks it.
import Derived.Test.YteiaakppjcpgcaaDn26
import Derived.Test.YteiaakppjcpgcaaProg
set_option linter.unusedVariables false
set_option maxRecDepth 100000
namespace Go.Proofs.Yteiaakppjcpgcaa.DFnExactAddBorder
open Go Go.Proofs.YteiaakppjcpgcaaD
def tyt3 : TI := ⟨.int .i64, 1, 8, (.int .i64)⟩
def tyt4 : TI := ⟨.bool, 1, 1, .bool⟩
def tyt22 : TI := ⟨.slice 3, 1, 24, (.sl (.int .i64))⟩
def tyt24 : TI := ⟨.struct #[⟨ "Width", 3, 0, false, "", "", 0⟩, ⟨ "Height", 3, 1, false, "", "", 8⟩, ⟨ "Knots", 22, 2, false, "", "", 16⟩], 3, 40, (.pair (.int .i64) (.pair (.int .i64) (.sl (.int .i64))))⟩
def tyt26 : TI := ⟨.struct #[⟨ "Width", 3, 0, false, "", "", 0⟩, ⟨ "Height", 3, 1, false, "", "", 8⟩, ⟨ "Knots", 22, 2, false, "", "", 16⟩], 3, 40, (.pair (.int .i64) (.pair (.int .i64) (.sl (.int .i64))))⟩
def tyt44 : TI := ⟨.func #[3] #[4] false, 1, 8, .fn⟩
def tyt : TT := [(3, tyt3), (4, tyt4), (22, tyt22), (24, tyt24), (26, tyt26), (44, tyt44)]
theorem mixed : Go.Proofs.Try.prog.follows .mixedOrders = true := by kernel_rfl
theorem tok3 : TOk1 Go.Proofs.Try.prog 3 (tyt3) := TOk1.of (by kernel_rfl) (by kernel_rfl) (by kernel_rfl) (by kernel_rfl) (by kernel_rfl) (by kernel_rfl) (by kernel_rfl) (fun h => nomatch (show false = true from h)) (fun h => nomatch (show false = true from h))
theorem tok4 : TOk1 Go.Proofs.Try.prog 4 (tyt4) := TOk1.of (by kernel_rfl) (by kernel_rfl) (by kernel_rfl) (by kernel_rfl) (by kernel_rfl) (by kernel_rfl) (by kernel_rfl) (fun h => nomatch (show false = true from h)) (fun h => nomatch (show false = true from h))
theorem tok22 : TOk1 Go.Proofs.Try.prog 22 (tyt22) := TOk1.of (by kernel_rfl) (by kernel_rfl) (by kernel_rfl) (by kernel_rfl) (by kernel_rfl) (by kernel_rfl) (by kernel_rfl) (fun h => nomatch (show false = true from h)) (fun h => nomatch (show false = true from h))
theorem tok24 : TOk1 Go.Proofs.Try.prog 24 (tyt24) := TOk1.of (by kernel_rfl) (by kernel_rfl) (by kernel_rfl) (by kernel_rfl) (by kernel_rfl) (by kernel_rfl) (by kernel_rfl) (fun _ => by kernel_rfl) (fun h => nomatch (show false = true from h))
theorem tok26 : TOk1 Go.Proofs.Try.prog 26 (tyt26) := TOk1.of (by kernel_rfl) (by kernel_rfl) (by kernel_rfl) (by kernel_rfl) (by kernel_rfl) (by kernel_rfl) (by kernel_rfl) (fun _ => by kernel_rfl) (fun h => nomatch (show false = true from h))
theorem tok44 : TOk1 Go.Proofs.Try.prog 44 (tyt44) := TOk1.of (by kernel_rfl) (by kernel_rfl) (by kernel_rfl) (by kernel_rfl) (by kernel_rfl) (by kernel_rfl) (by kernel_rfl) (fun h => nomatch (show false = true from h)) (fun h => nomatch (show false = true from h))
theorem tyok : TOk Go.Proofs.Try.prog tyt := TOk.cons tok3 (TOk.cons tok4 (TOk.cons tok22 (TOk.cons tok24 (TOk.cons tok26 (TOk.cons tok44 (TOk.nil _))))))
/-! ### laws_szIntS: function 53 -/
def laws_szIntS.m (k : Nat) (l0 : List Int) (a1 : Int) : Option (Int) := (if (w64 (a1 - (l0.length : Int))) < 0 then (some (-1)) else (some (w64 (a1 - (l0.length : Int)))))
def laws_szIntS.f (k : Nat) (l0 : List Int) (a1 : Int) : Option (Int) := laws_szIntS.m k l0 a1
noncomputable def laws_szIntS.spec (k : Nat) : FnSpec := ⟨[.d (.sl (.int .i64)) none, .d (.int .i64) none], [.d (.int .i64) none], fun x => laws_szIntS.f k x.1 x.2⟩
noncomputable def laws_szIntS.T : FnText := ⟨(conv [] (bodyOf Go.Proofs.Try.f53) 0).1, Go.Proofs.Try.f53.results.toList, 12, [], [.d (.sl (.int .i64)) none, .d (.int .i64) none], [.d (.int .i64) none]⟩
noncomputable def laws_szIntS.tbl (k : Nat) : Tbl := []
theorem laws_szIntS.e (k : Nat) (o : Nat → St → Option (Int)) (l0 : List Int) (a1 : Int) : laws_szIntS.T.main tyt (laws_szIntS.tbl k) o (l0, a1) = laws_szIntS.m k l0 a1 := by kernel_rfl
theorem laws_szIntS.ok : laws_szIntS.T.ok = true := by kernel_rfl
theorem laws_szIntS.tblok (k : Nat) : TblOk Go.Proofs.Try.prog (laws_szIntS.tbl k) := TblOk.nil _
theorem laws_szIntS.sound (k : Nat) : Sound Go.Proofs.Try.prog 53 (laws_szIntS.spec k) := by
  have h := fn_ok (F := laws_szIntS.T) (tbl := laws_szIntS.tbl) mixed tyok Go.Proofs.Try.func53 (by kernel_rfl) (c0 := bodyOf Go.Proofs.Try.f53) rfl (conv_code _ _ _) rfl rfl laws_szIntS.ok k (fun j _ => laws_szIntS.tblok j)
  have e : laws_szIntS.spec k = ⟨laws_szIntS.T.ps, laws_szIntS.T.rs, laws_szIntS.T.ev tyt laws_szIntS.tbl k⟩ := congrArg (FnSpec.mk _ _) (funext fun x => ((laws_szIntS.e k (laws_szIntS.T.run tyt laws_szIntS.tbl k) x.1 x.2).trans (by rfl)).symm)
  rw [e]
  exact h
/-! ### laws_szChart: function 15 -/
def laws_szChart.m (k : Nat) (a0_0 : Int) (a0_1 : Int) (l0_2 : List Int) (a1 : Int) : Option (Int) := ((laws_szIntS.f k l0_2 a1).bind fun r1 => (if r1 < 0 then (some (-1)) else (some r1)))
def laws_szChart.f (k : Nat) (a0_0 : Int) (a0_1 : Int) (l0_2 : List Int) (a1 : Int) : Option (Int) := laws_szChart.m k a0_0 a0_1 l0_2 a1
noncomputable def laws_szChart.spec (k : Nat) : FnSpec := ⟨[.ag [.d (.int .i64) none, .d (.int .i64) none, .d (.sl (.int .i64)) none], .d (.int .i64) none], [.d (.int .i64) none], fun x => laws_szChart.f k x.1 x.2.1 x.2.2.1 x.2.2.2⟩
noncomputable def laws_szChart.T : FnText := ⟨(conv [] (bodyOf Go.Proofs.Try.f15) 0).1, Go.Proofs.Try.f15.results.toList, 12, [], [.ag [.d (.int .i64) none, .d (.int .i64) none, .d (.sl (.int .i64)) none], .d (.int .i64) none], [.d (.int .i64) none]⟩
noncomputable def laws_szChart.tbl (k : Nat) : Tbl := [(53, laws_szIntS.spec k)]
theorem laws_szChart.e (k : Nat) (o : Nat → St → Option (Int)) (a0_0 : Int) (a0_1 : Int) (l0_2 : List Int) (a1 : Int) : laws_szChart.T.main tyt (laws_szChart.tbl k) o (a0_0, a0_1, l0_2, a1) = laws_szChart.m k a0_0 a0_1 l0_2 a1 := by kernel_rfl
theorem laws_szChart.ok : laws_szChart.T.ok = true := by kernel_rfl
theorem laws_szChart.tblok (k : Nat) : TblOk Go.Proofs.Try.prog (laws_szChart.tbl k) := TblOk.cons (laws_szIntS.sound k) (TblOk.nil _)
theorem laws_szChart.sound (k : Nat) : Sound Go.Proofs.Try.prog 15 (laws_szChart.spec k) := by
  have h := fn_ok (F := laws_szChart.T) (tbl := laws_szChart.tbl) mixed tyok Go.Proofs.Try.func15 (by kernel_rfl) (c0 := bodyOf Go.Proofs.Try.f15) rfl (conv_code _ _ _) rfl rfl laws_szChart.ok k (fun j _ => laws_szChart.tblok j)
  have e : laws_szChart.spec k = ⟨laws_szChart.T.ps, laws_szChart.T.rs, laws_szChart.T.ev tyt laws_szChart.tbl k⟩ := congrArg (FnSpec.mk _ _) (funext fun x => ((laws_szChart.e k (laws_szChart.T.run tyt laws_szChart.tbl k) x.1 x.2.1 x.2.2.1 x.2.2.2).trans (by rfl)).symm)
  rw [e]
  exact h
/-! ### laws_toIntS: function 42 -/
def laws_toIntS.b4 (o4 : List Int → List Int → Int → Option (List Int)) (k : Nat) (l0_4 : List Int) (l1_4 : List Int) (x2_4 : Int) : Option (List Int) := (if x2_4 < (l0_4.length : Int) then ((chk l0_4.length x2_4).bind fun i2 => ((chk l1_4.length x2_4).bind fun i3 => (o4 l0_4 (l1_4.set i3 (l0_4.getD i2 0)) (w64 (x2_4 + 1))))) else (some l1_4))
def laws_toIntS.l4 : Nat → List Int → List Int → Int → Option (List Int)
  | 0, _, _, _ => none
  | k + 1, l0_4, l1_4, x2_4 => laws_toIntS.b4 (laws_toIntS.l4 k) k l0_4 l1_4 x2_4
def laws_toIntS.m (o4 : List Int → List Int → Int → Option (List Int)) (k : Nat) (l0 : List Int) : Option (List Int) := ((mkl 17592186044416 (l0.length : Int) (l0.length : Int)).bind fun n1 => (o4 l0 (List.replicate n1 (0 : Int)) 0))
def laws_toIntS.f (k : Nat) (l0 : List Int) : Option (List Int) := laws_toIntS.m (laws_toIntS.l4 k) k l0
noncomputable def laws_toIntS.spec (k : Nat) : FnSpec := ⟨[.d (.sl (.int .i64)) none], [.d (.sl (.int .i64)) (some 3)], fun x => laws_toIntS.f k x⟩
def laws_toIntS.S4 (l0_4 : List Int) (l1_4 : List Int) (x2_4 : Int) : St := ⟨[(0, .val (.sl (.int .i64)) l0_4), (3, .ref 100), (4, .val (.int .i64) x2_4)], [(100, some (.row 3 (.int .i64) l1_4))], 1000⟩
noncomputable def laws_toIntS.T : FnText := ⟨(conv [] (bodyOf Go.Proofs.Try.f42) 0).1, Go.Proofs.Try.f42.results.toList, 22, [(4, [(0, .rd (.sl (.int .i64))), (3, .own 3 (.int .i64) 100), (4, .rd (.int .i64))])], [.d (.sl (.int .i64)) none], [.d (.sl (.int .i64)) (some 3)]⟩
noncomputable def laws_toIntS.tbl (k : Nat) : Tbl := []
theorem laws_toIntS.e4 (k : Nat) (o : Nat → St → Option (List Int)) (l0_4 : List Int) (l1_4 : List Int) (x2_4 : Int) : laws_toIntS.T.step tyt (laws_toIntS.tbl k) o 4 (laws_toIntS.S4 l0_4 l1_4 x2_4) = laws_toIntS.b4 (fun l0_4 l1_4 x2_4 => o 4 (laws_toIntS.S4 l0_4 l1_4 x2_4)) k l0_4 l1_4 x2_4 := by kernel_rfl
theorem laws_toIntS.e (k : Nat) (o : Nat → St → Option (List Int)) (l0 : List Int) : laws_toIntS.T.main tyt (laws_toIntS.tbl k) o l0 = laws_toIntS.m (fun l0_4 l1_4 x2_4 => o 4 (laws_toIntS.S4 l0_4 l1_4 x2_4)) k l0 := by kernel_rfl
theorem laws_toIntS.ok : laws_toIntS.T.ok = true := by kernel_rfl
theorem laws_toIntS.run (k : Nat) : (∀ (l0_4 : List Int) (l1_4 : List Int) (x2_4 : Int), laws_toIntS.T.run tyt laws_toIntS.tbl k 4 (laws_toIntS.S4 l0_4 l1_4 x2_4) = laws_toIntS.l4 k l0_4 l1_4 x2_4) := by
  induction k with
  | zero => exact fun l0_4 l1_4 x2_4 => rfl
  | succ k ih =>
    exact fun l0_4 l1_4 x2_4 => by
      have q4 : (fun l0_4 l1_4 x2_4 => laws_toIntS.T.run tyt laws_toIntS.tbl k 4 (laws_toIntS.S4 l0_4 l1_4 x2_4)) = laws_toIntS.l4 k := by funext l0_4 l1_4 x2_4; exact ih l0_4 l1_4 x2_4
      exact (laws_toIntS.e4 k (laws_toIntS.T.run tyt laws_toIntS.tbl k) l0_4 l1_4 x2_4).trans (by rw [q4]; rfl)
theorem laws_toIntS.tblok (k : Nat) : TblOk Go.Proofs.Try.prog (laws_toIntS.tbl k) := TblOk.nil _
theorem laws_toIntS.sound (k : Nat) : Sound Go.Proofs.Try.prog 42 (laws_toIntS.spec k) := by
  have h := fn_ok (F := laws_toIntS.T) (tbl := laws_toIntS.tbl) mixed tyok Go.Proofs.Try.func42 (by kernel_rfl) (c0 := bodyOf Go.Proofs.Try.f42) rfl (conv_code _ _ _) rfl rfl laws_toIntS.ok k (fun j _ => laws_toIntS.tblok j)
  have q4 : (fun l0_4 l1_4 x2_4 => laws_toIntS.T.run tyt laws_toIntS.tbl k 4 (laws_toIntS.S4 l0_4 l1_4 x2_4)) = laws_toIntS.l4 k := by funext l0_4 l1_4 x2_4; exact (laws_toIntS.run k) l0_4 l1_4 x2_4
  have e : laws_toIntS.spec k = ⟨laws_toIntS.T.ps, laws_toIntS.T.rs, laws_toIntS.T.ev tyt laws_toIntS.tbl k⟩ := congrArg (FnSpec.mk _ _) (funext fun x => ((laws_toIntS.e k (laws_toIntS.T.run tyt laws_toIntS.tbl k) x).trans (by rw [q4]; rfl)).symm)
  rw [e]
  exact h
/-! ### laws_toChart: function 17 -/
def laws_toChart.m (k : Nat) (a0_0 : Int) (a0_1 : Int) (l0_2 : List Int) : Option (Int × Int × List Int) := ((laws_toIntS.f k l0_2).bind fun r1 => (some (a0_0, a0_1, r1)))
def laws_toChart.f (k : Nat) (a0_0 : Int) (a0_1 : Int) (l0_2 : List Int) : Option (Int × Int × List Int) := laws_toChart.m k a0_0 a0_1 l0_2
noncomputable def laws_toChart.spec (k : Nat) : FnSpec := ⟨[.ag [.d (.int .i64) none, .d (.int .i64) none, .d (.sl (.int .i64)) none]], [.ag [.d (.int .i64) none, .d (.int .i64) none, .d (.sl (.int .i64)) (some 3)]], fun x => laws_toChart.f k x.1 x.2.1 x.2.2⟩
noncomputable def laws_toChart.T : FnText := ⟨(conv [] (bodyOf Go.Proofs.Try.f17) 0).1, Go.Proofs.Try.f17.results.toList, 15, [], [.ag [.d (.int .i64) none, .d (.int .i64) none, .d (.sl (.int .i64)) none]], [.ag [.d (.int .i64) none, .d (.int .i64) none, .d (.sl (.int .i64)) (some 3)]]⟩
noncomputable def laws_toChart.tbl (k : Nat) : Tbl := [(42, laws_toIntS.spec k)]
theorem laws_toChart.e (k : Nat) (o : Nat → St → Option (Int × Int × List Int)) (a0_0 : Int) (a0_1 : Int) (l0_2 : List Int) : laws_toChart.T.main tyt (laws_toChart.tbl k) o (a0_0, a0_1, l0_2) = laws_toChart.m k a0_0 a0_1 l0_2 := by kernel_rfl
theorem laws_toChart.ok : laws_toChart.T.ok = true := by kernel_rfl
theorem laws_toChart.tblok (k : Nat) : TblOk Go.Proofs.Try.prog (laws_toChart.tbl k) := TblOk.cons (laws_toIntS.sound k) (TblOk.nil _)
theorem laws_toChart.sound (k : Nat) : Sound Go.Proofs.Try.prog 17 (laws_toChart.spec k) := by
  have h := fn_ok (F := laws_toChart.T) (tbl := laws_toChart.tbl) mixed tyok Go.Proofs.Try.func17 (by kernel_rfl) (c0 := bodyOf Go.Proofs.Try.f17) rfl (conv_code _ _ _) rfl rfl laws_toChart.ok k (fun j _ => laws_toChart.tblok j)
  have e : laws_toChart.spec k = ⟨laws_toChart.T.ps, laws_toChart.T.rs, laws_toChart.T.ev tyt laws_toChart.tbl k⟩ := congrArg (FnSpec.mk _ _) (funext fun x => ((laws_toChart.e k (laws_toChart.T.run tyt laws_toChart.tbl k) x.1 x.2.1 x.2.2).trans (by rfl)).symm)
  rw [e]
  exact h
/-! ### spec_l1In: function 101 -/
def spec_l1In.m (k : Nat) (a0 : Int) (a1 : Int) (a2 : Int) : Option (Bool) := (if a1 ≤ a0 then (some (decide (a0 ≤ a2))) else (some false))
def spec_l1In.f (k : Nat) (a0 : Int) (a1 : Int) (a2 : Int) : Option (Bool) := spec_l1In.m k a0 a1 a2
noncomputable def spec_l1In.spec (k : Nat) : FnSpec := ⟨[.d (.int .i64) none, .d (.int .i64) none, .d (.int .i64) none], [.d .bool none], fun x => spec_l1In.f k x.1 x.2.1 x.2.2⟩
noncomputable def spec_l1In.T : FnText := ⟨(conv [] (bodyOf Go.Proofs.Try.f101) 0).1, Go.Proofs.Try.f101.results.toList, 15, [], [.d (.int .i64) none, .d (.int .i64) none, .d (.int .i64) none], [.d .bool none]⟩
noncomputable def spec_l1In.tbl (k : Nat) : Tbl := []
theorem spec_l1In.e (k : Nat) (o : Nat → St → Option (Bool)) (a0 : Int) (a1 : Int) (a2 : Int) : spec_l1In.T.main tyt (spec_l1In.tbl k) o (a0, a1, a2) = spec_l1In.m k a0 a1 a2 := by kernel_rfl
theorem spec_l1In.ok : spec_l1In.T.ok = true := by kernel_rfl
theorem spec_l1In.tblok (k : Nat) : TblOk Go.Proofs.Try.prog (spec_l1In.tbl k) := TblOk.nil _
theorem spec_l1In.sound (k : Nat) : Sound Go.Proofs.Try.prog 101 (spec_l1In.spec k) := by
  have h := fn_ok (F := spec_l1In.T) (tbl := spec_l1In.tbl) mixed tyok Go.Proofs.Try.func101 (by kernel_rfl) (c0 := bodyOf Go.Proofs.Try.f101) rfl (conv_code _ _ _) rfl rfl spec_l1In.ok k (fun j _ => spec_l1In.tblok j)
  have e : spec_l1In.spec k = ⟨spec_l1In.T.ps, spec_l1In.T.rs, spec_l1In.T.ev tyt spec_l1In.tbl k⟩ := congrArg (FnSpec.mk _ _) (funext fun x => ((spec_l1In.e k (spec_l1In.T.run tyt spec_l1In.tbl k) x.1 x.2.1 x.2.2).trans (by rfl)).symm)
  rw [e]
  exact h
/-! ### spec_l2Color: function 55 -/
def spec_l2Color.m (k : Nat) (a0 : Int) : Option (Bool) := ((spec_l1In.f k a0 0 5).bind fun r1 => (some r1))
def spec_l2Color.f (k : Nat) (a0 : Int) : Option (Bool) := spec_l2Color.m k a0
noncomputable def spec_l2Color.spec (k : Nat) : FnSpec := ⟨[.d (.int .i64) none], [.d .bool none], fun x => spec_l2Color.f k x⟩
noncomputable def spec_l2Color.T : FnText := ⟨(conv [] (bodyOf Go.Proofs.Try.f55) 0).1, Go.Proofs.Try.f55.results.toList, 5, [], [.d (.int .i64) none], [.d .bool none]⟩
noncomputable def spec_l2Color.tbl (k : Nat) : Tbl := [(101, spec_l1In.spec k)]
theorem spec_l2Color.e (k : Nat) (o : Nat → St → Option (Bool)) (a0 : Int) : spec_l2Color.T.main tyt (spec_l2Color.tbl k) o a0 = spec_l2Color.m k a0 := by kernel_rfl
theorem spec_l2Color.ok : spec_l2Color.T.ok = true := by kernel_rfl
theorem spec_l2Color.tblok (k : Nat) : TblOk Go.Proofs.Try.prog (spec_l2Color.tbl k) := TblOk.cons (spec_l1In.sound k) (TblOk.nil _)
theorem spec_l2Color.sound (k : Nat) : Sound Go.Proofs.Try.prog 55 (spec_l2Color.spec k) := by
  have h := fn_ok (F := spec_l2Color.T) (tbl := spec_l2Color.tbl) mixed tyok Go.Proofs.Try.func55 (by kernel_rfl) (c0 := bodyOf Go.Proofs.Try.f55) rfl (conv_code _ _ _) rfl rfl spec_l2Color.ok k (fun j _ => spec_l2Color.tblok j)
  have e : spec_l2Color.spec k = ⟨spec_l2Color.T.ps, spec_l2Color.T.rs, spec_l2Color.T.ev tyt spec_l2Color.tbl k⟩ := congrArg (FnSpec.mk _ _) (funext fun x => ((spec_l2Color.e k (spec_l2Color.T.run tyt spec_l2Color.tbl k) x).trans (by rfl)).symm)
  rw [e]
  exact h
/-! ### spec_l2Side: function 100 -/
def spec_l2Side.m (k : Nat) (a0 : Int) : Option (Bool) := ((spec_l1In.f k a0 1 8).bind fun r1 => (some r1))
def spec_l2Side.f (k : Nat) (a0 : Int) : Option (Bool) := spec_l2Side.m k a0
noncomputable def spec_l2Side.spec (k : Nat) : FnSpec := ⟨[.d (.int .i64) none], [.d .bool none], fun x => spec_l2Side.f k x⟩
noncomputable def spec_l2Side.T : FnText := ⟨(conv [] (bodyOf Go.Proofs.Try.f100) 0).1, Go.Proofs.Try.f100.results.toList, 5, [], [.d (.int .i64) none], [.d .bool none]⟩
noncomputable def spec_l2Side.tbl (k : Nat) : Tbl := [(101, spec_l1In.spec k)]
theorem spec_l2Side.e (k : Nat) (o : Nat → St → Option (Bool)) (a0 : Int) : spec_l2Side.T.main tyt (spec_l2Side.tbl k) o a0 = spec_l2Side.m k a0 := by kernel_rfl
theorem spec_l2Side.ok : spec_l2Side.T.ok = true := by kernel_rfl
theorem spec_l2Side.tblok (k : Nat) : TblOk Go.Proofs.Try.prog (spec_l2Side.tbl k) := TblOk.cons (spec_l1In.sound k) (TblOk.nil _)
theorem spec_l2Side.sound (k : Nat) : Sound Go.Proofs.Try.prog 100 (spec_l2Side.spec k) := by
  have h := fn_ok (F := spec_l2Side.T) (tbl := spec_l2Side.tbl) mixed tyok Go.Proofs.Try.func100 (by kernel_rfl) (c0 := bodyOf Go.Proofs.Try.f100) rfl (conv_code _ _ _) rfl rfl spec_l2Side.ok k (fun j _ => spec_l2Side.tblok j)
  have e : spec_l2Side.spec k = ⟨spec_l2Side.T.ps, spec_l2Side.T.rs, spec_l2Side.T.ev tyt spec_l2Side.tbl k⟩ := congrArg (FnSpec.mk _ _) (funext fun x => ((spec_l2Side.e k (spec_l2Side.T.run tyt spec_l2Side.tbl k) x).trans (by rfl)).symm)
  rw [e]
  exact h
/-! ### spec_l2Good: function 54 -/
def spec_l2Good.b3 (o3 : Int → Int → List Int → Int → Option (Bool)) (k : Nat) (x0_3 : Int) (x1_3 : Int) (l2_3 : List Int) (x3_3 : Int) : Option (Bool) := (if x3_3 < (l2_3.length : Int) then ((chk l2_3.length x3_3).bind fun i1 => ((spec_l2Color.f k (l2_3.getD i1 0)).bind fun r2 => (cond (!r2) (some false) (o3 x0_3 x1_3 l2_3 (w64 (x3_3 + 1)))))) else ((spec_l2Side.f k x0_3).bind fun r3 => (cond r3 ((spec_l2Side.f k x1_3).bind fun r4 => (cond r4 (some (decide ((l2_3.length : Int) = (w64 (x0_3 * x1_3))))) (some false))) (some false))))
def spec_l2Good.l3 : Nat → Int → Int → List Int → Int → Option (Bool)
  | 0, _, _, _, _ => none
  | k + 1, x0_3, x1_3, l2_3, x3_3 => spec_l2Good.b3 (spec_l2Good.l3 k) k x0_3 x1_3 l2_3 x3_3
def spec_l2Good.m (o3 : Int → Int → List Int → Int → Option (Bool)) (k : Nat) (a0_0 : Int) (a0_1 : Int) (l0_2 : List Int) : Option (Bool) := (o3 a0_0 a0_1 l0_2 0)
def spec_l2Good.f (k : Nat) (a0_0 : Int) (a0_1 : Int) (l0_2 : List Int) : Option (Bool) := spec_l2Good.m (spec_l2Good.l3 k) k a0_0 a0_1 l0_2
noncomputable def spec_l2Good.spec (k : Nat) : FnSpec := ⟨[.ag [.d (.int .i64) none, .d (.int .i64) none, .d (.sl (.int .i64)) none]], [.d .bool none], fun x => spec_l2Good.f k x.1 x.2.1 x.2.2⟩
def spec_l2Good.S3 (x0_3 : Int) (x1_3 : Int) (l2_3 : List Int) (x3_3 : Int) : St := ⟨[(1, .ptr 100 0), (3, .val (.int .i64) x3_3)], [(100, some (.box [.val (.int .i64) x0_3, .val (.int .i64) x1_3, .val (.sl (.int .i64)) l2_3]))], 1000⟩
noncomputable def spec_l2Good.T : FnText := ⟨(conv [] (bodyOf Go.Proofs.Try.f54) 0).1, Go.Proofs.Try.f54.results.toList, 37, [(3, [(1, .bx 100 [.rd (.int .i64), .rd (.int .i64), .rd (.sl (.int .i64))]), (3, .rd (.int .i64))])], [.ag [.d (.int .i64) none, .d (.int .i64) none, .d (.sl (.int .i64)) none]], [.d .bool none]⟩
noncomputable def spec_l2Good.tbl (k : Nat) : Tbl := [(55, spec_l2Color.spec k), (100, spec_l2Side.spec k)]
theorem spec_l2Good.e3 (k : Nat) (o : Nat → St → Option (Bool)) (x0_3 : Int) (x1_3 : Int) (l2_3 : List Int) (x3_3 : Int) : spec_l2Good.T.step tyt (spec_l2Good.tbl k) o 3 (spec_l2Good.S3 x0_3 x1_3 l2_3 x3_3) = spec_l2Good.b3 (fun x0_3 x1_3 l2_3 x3_3 => o 3 (spec_l2Good.S3 x0_3 x1_3 l2_3 x3_3)) k x0_3 x1_3 l2_3 x3_3 := by kernel_rfl
theorem spec_l2Good.e (k : Nat) (o : Nat → St → Option (Bool)) (a0_0 : Int) (a0_1 : Int) (l0_2 : List Int) : spec_l2Good.T.main tyt (spec_l2Good.tbl k) o (a0_0, a0_1, l0_2) = spec_l2Good.m (fun x0_3 x1_3 l2_3 x3_3 => o 3 (spec_l2Good.S3 x0_3 x1_3 l2_3 x3_3)) k a0_0 a0_1 l0_2 := by kernel_rfl
theorem spec_l2Good.ok : spec_l2Good.T.ok = true := by kernel_rfl
theorem spec_l2Good.run (k : Nat) : (∀ (x0_3 : Int) (x1_3 : Int) (l2_3 : List Int) (x3_3 : Int), spec_l2Good.T.run tyt spec_l2Good.tbl k 3 (spec_l2Good.S3 x0_3 x1_3 l2_3 x3_3) = spec_l2Good.l3 k x0_3 x1_3 l2_3 x3_3) := by
  induction k with
  | zero => exact fun x0_3 x1_3 l2_3 x3_3 => rfl
  | succ k ih =>
    exact fun x0_3 x1_3 l2_3 x3_3 => by
      have q3 : (fun x0_3 x1_3 l2_3 x3_3 => spec_l2Good.T.run tyt spec_l2Good.tbl k 3 (spec_l2Good.S3 x0_3 x1_3 l2_3 x3_3)) = spec_l2Good.l3 k := by funext x0_3 x1_3 l2_3 x3_3; exact ih x0_3 x1_3 l2_3 x3_3
      exact (spec_l2Good.e3 k (spec_l2Good.T.run tyt spec_l2Good.tbl k) x0_3 x1_3 l2_3 x3_3).trans (by rw [q3]; rfl)
theorem spec_l2Good.tblok (k : Nat) : TblOk Go.Proofs.Try.prog (spec_l2Good.tbl k) := TblOk.cons (spec_l2Color.sound k) (TblOk.cons (spec_l2Side.sound k) (TblOk.nil _))
theorem spec_l2Good.sound (k : Nat) : Sound Go.Proofs.Try.prog 54 (spec_l2Good.spec k) := by
  have h := fn_ok (F := spec_l2Good.T) (tbl := spec_l2Good.tbl) mixed tyok Go.Proofs.Try.func54 (by kernel_rfl) (c0 := bodyOf Go.Proofs.Try.f54) rfl (conv_code _ _ _) rfl rfl spec_l2Good.ok k (fun j _ => spec_l2Good.tblok j)
  have q3 : (fun x0_3 x1_3 l2_3 x3_3 => spec_l2Good.T.run tyt spec_l2Good.tbl k 3 (spec_l2Good.S3 x0_3 x1_3 l2_3 x3_3)) = spec_l2Good.l3 k := by funext x0_3 x1_3 l2_3 x3_3; exact (spec_l2Good.run k) x0_3 x1_3 l2_3 x3_3
  have e : spec_l2Good.spec k = ⟨spec_l2Good.T.ps, spec_l2Good.T.rs, spec_l2Good.T.ev tyt spec_l2Good.tbl k⟩ := congrArg (FnSpec.mk _ _) (funext fun x => ((spec_l2Good.e k (spec_l2Good.T.run tyt spec_l2Good.tbl k) x.1 x.2.1 x.2.2).trans (by rw [q3]; rfl)).symm)
  rw [e]
  exact h
/-! ### spec_l8Colors: function 83 -/
def spec_l8Colors.b3 (o3 : List Int → Int → Option (Bool)) (k : Nat) (l0_3 : List Int) (x1_3 : Int) : Option (Bool) := (if x1_3 < (l0_3.length : Int) then ((chk l0_3.length x1_3).bind fun i1 => ((spec_l2Color.f k (l0_3.getD i1 0)).bind fun r2 => (cond (!r2) (some false) (o3 l0_3 (w64 (x1_3 + 1)))))) else (some true))
def spec_l8Colors.l3 : Nat → List Int → Int → Option (Bool)
  | 0, _, _ => none
  | k + 1, l0_3, x1_3 => spec_l8Colors.b3 (spec_l8Colors.l3 k) k l0_3 x1_3
def spec_l8Colors.m (o3 : List Int → Int → Option (Bool)) (k : Nat) (l0 : List Int) : Option (Bool) := (o3 l0 0)
def spec_l8Colors.f (k : Nat) (l0 : List Int) : Option (Bool) := spec_l8Colors.m (spec_l8Colors.l3 k) k l0
noncomputable def spec_l8Colors.spec (k : Nat) : FnSpec := ⟨[.d (.sl (.int .i64)) none], [.d .bool none], fun x => spec_l8Colors.f k x⟩
def spec_l8Colors.S3 (l0_3 : List Int) (x1_3 : Int) : St := ⟨[(0, .val (.sl (.int .i64)) l0_3), (3, .val (.int .i64) x1_3)], [], 1000⟩
noncomputable def spec_l8Colors.T : FnText := ⟨(conv [] (bodyOf Go.Proofs.Try.f83) 0).1, Go.Proofs.Try.f83.results.toList, 16, [(3, [(0, .rd (.sl (.int .i64))), (3, .rd (.int .i64))])], [.d (.sl (.int .i64)) none], [.d .bool none]⟩
noncomputable def spec_l8Colors.tbl (k : Nat) : Tbl := [(55, spec_l2Color.spec k)]
theorem spec_l8Colors.e3 (k : Nat) (o : Nat → St → Option (Bool)) (l0_3 : List Int) (x1_3 : Int) : spec_l8Colors.T.step tyt (spec_l8Colors.tbl k) o 3 (spec_l8Colors.S3 l0_3 x1_3) = spec_l8Colors.b3 (fun l0_3 x1_3 => o 3 (spec_l8Colors.S3 l0_3 x1_3)) k l0_3 x1_3 := by kernel_rfl
theorem spec_l8Colors.e (k : Nat) (o : Nat → St → Option (Bool)) (l0 : List Int) : spec_l8Colors.T.main tyt (spec_l8Colors.tbl k) o l0 = spec_l8Colors.m (fun l0_3 x1_3 => o 3 (spec_l8Colors.S3 l0_3 x1_3)) k l0 := by kernel_rfl
theorem spec_l8Colors.ok : spec_l8Colors.T.ok = true := by kernel_rfl
theorem spec_l8Colors.run (k : Nat) : (∀ (l0_3 : List Int) (x1_3 : Int), spec_l8Colors.T.run tyt spec_l8Colors.tbl k 3 (spec_l8Colors.S3 l0_3 x1_3) = spec_l8Colors.l3 k l0_3 x1_3) := by
  induction k with
  | zero => exact fun l0_3 x1_3 => rfl
  | succ k ih =>
    exact fun l0_3 x1_3 => by
      have q3 : (fun l0_3 x1_3 => spec_l8Colors.T.run tyt spec_l8Colors.tbl k 3 (spec_l8Colors.S3 l0_3 x1_3)) = spec_l8Colors.l3 k := by funext l0_3 x1_3; exact ih l0_3 x1_3
      exact (spec_l8Colors.e3 k (spec_l8Colors.T.run tyt spec_l8Colors.tbl k) l0_3 x1_3).trans (by rw [q3]; rfl)
theorem spec_l8Colors.tblok (k : Nat) : TblOk Go.Proofs.Try.prog (spec_l8Colors.tbl k) := TblOk.cons (spec_l2Color.sound k) (TblOk.nil _)
theorem spec_l8Colors.sound (k : Nat) : Sound Go.Proofs.Try.prog 83 (spec_l8Colors.spec k) := by
  have h := fn_ok (F := spec_l8Colors.T) (tbl := spec_l8Colors.tbl) mixed tyok Go.Proofs.Try.func83 (by kernel_rfl) (c0 := bodyOf Go.Proofs.Try.f83) rfl (conv_code _ _ _) rfl rfl spec_l8Colors.ok k (fun j _ => spec_l8Colors.tblok j)
  have q3 : (fun l0_3 x1_3 => spec_l8Colors.T.run tyt spec_l8Colors.tbl k 3 (spec_l8Colors.S3 l0_3 x1_3)) = spec_l8Colors.l3 k := by funext l0_3 x1_3; exact (spec_l8Colors.run k) l0_3 x1_3
  have e : spec_l8Colors.spec k = ⟨spec_l8Colors.T.ps, spec_l8Colors.T.rs, spec_l8Colors.T.ev tyt spec_l8Colors.tbl k⟩ := congrArg (FnSpec.mk _ _) (funext fun x => ((spec_l8Colors.e k (spec_l8Colors.T.run tyt spec_l8Colors.tbl k) x).trans (by rw [q3]; rfl)).symm)
  rw [e]
  exact h
/-! ### spec_l8Pattern: function 90 -/
def spec_l8Pattern.m (k : Nat) (l0 : List Int) : Option (Bool) := ((spec_l8Colors.f k l0).bind fun r1 => (cond r1 ((spec_l1In.f k (l0.length : Int) 1 8).bind fun r2 => (some r2)) (some false)))
def spec_l8Pattern.f (k : Nat) (l0 : List Int) : Option (Bool) := spec_l8Pattern.m k l0
noncomputable def spec_l8Pattern.spec (k : Nat) : FnSpec := ⟨[.d (.sl (.int .i64)) none], [.d .bool none], fun x => spec_l8Pattern.f k x⟩
noncomputable def spec_l8Pattern.T : FnText := ⟨(conv [] (bodyOf Go.Proofs.Try.f90) 0).1, Go.Proofs.Try.f90.results.toList, 10, [], [.d (.sl (.int .i64)) none], [.d .bool none]⟩
noncomputable def spec_l8Pattern.tbl (k : Nat) : Tbl := [(83, spec_l8Colors.spec k), (101, spec_l1In.spec k)]
theorem spec_l8Pattern.e (k : Nat) (o : Nat → St → Option (Bool)) (l0 : List Int) : spec_l8Pattern.T.main tyt (spec_l8Pattern.tbl k) o l0 = spec_l8Pattern.m k l0 := by kernel_rfl
theorem spec_l8Pattern.ok : spec_l8Pattern.T.ok = true := by kernel_rfl
theorem spec_l8Pattern.tblok (k : Nat) : TblOk Go.Proofs.Try.prog (spec_l8Pattern.tbl k) := TblOk.cons (spec_l8Colors.sound k) (TblOk.cons (spec_l1In.sound k) (TblOk.nil _))
theorem spec_l8Pattern.sound (k : Nat) : Sound Go.Proofs.Try.prog 90 (spec_l8Pattern.spec k) := by
  have h := fn_ok (F := spec_l8Pattern.T) (tbl := spec_l8Pattern.tbl) mixed tyok Go.Proofs.Try.func90 (by kernel_rfl) (c0 := bodyOf Go.Proofs.Try.f90) rfl (conv_code _ _ _) rfl rfl spec_l8Pattern.ok k (fun j _ => spec_l8Pattern.tblok j)
  have e : spec_l8Pattern.spec k = ⟨spec_l8Pattern.T.ps, spec_l8Pattern.T.rs, spec_l8Pattern.T.ev tyt spec_l8Pattern.tbl k⟩ := congrArg (FnSpec.mk _ _) (funext fun x => ((spec_l8Pattern.e k (spec_l8Pattern.T.run tyt spec_l8Pattern.tbl k) x).trans (by rfl)).symm)
  rw [e]
  exact h
/-! ### spec_l6Blank: function 91 -/
def spec_l6Blank.m (k : Nat) (a0 : Int) (a1 : Int) : Option (Int × Int × List Int × Bool) := ((spec_l2Side.f k a0).bind fun r1 => (cond (!r1) (some (0, 0, [], false)) ((spec_l2Side.f k a1).bind fun r2 => (cond (!r2) (some (0, 0, [], false)) ((mkl 17592186044416 (w64 (a0 * a1)) (w64 (a0 * a1))).bind fun n3 => (some (a0, a1, (List.replicate n3 (0 : Int)), true)))))))
def spec_l6Blank.f (k : Nat) (a0 : Int) (a1 : Int) : Option (Int × Int × List Int × Bool) := spec_l6Blank.m k a0 a1
noncomputable def spec_l6Blank.spec (k : Nat) : FnSpec := ⟨[.d (.int .i64) none, .d (.int .i64) none], [.ag [.d (.int .i64) none, .d (.int .i64) none, .d (.sl (.int .i64)) (some 3)], .d .bool none], fun x => spec_l6Blank.f k x.1 x.2⟩
noncomputable def spec_l6Blank.T : FnText := ⟨(conv [] (bodyOf Go.Proofs.Try.f91) 0).1, Go.Proofs.Try.f91.results.toList, 22, [], [.d (.int .i64) none, .d (.int .i64) none], [.ag [.d (.int .i64) none, .d (.int .i64) none, .d (.sl (.int .i64)) (some 3)], .d .bool none]⟩
noncomputable def spec_l6Blank.tbl (k : Nat) : Tbl := [(100, spec_l2Side.spec k)]
theorem spec_l6Blank.e (k : Nat) (o : Nat → St → Option (Int × Int × List Int × Bool)) (a0 : Int) (a1 : Int) : spec_l6Blank.T.main tyt (spec_l6Blank.tbl k) o (a0, a1) = spec_l6Blank.m k a0 a1 := by kernel_rfl
theorem spec_l6Blank.ok : spec_l6Blank.T.ok = true := by kernel_rfl
theorem spec_l6Blank.tblok (k : Nat) : TblOk Go.Proofs.Try.prog (spec_l6Blank.tbl k) := TblOk.cons (spec_l2Side.sound k) (TblOk.nil _)
theorem spec_l6Blank.sound (k : Nat) : Sound Go.Proofs.Try.prog 91 (spec_l6Blank.spec k) := by
  have h := fn_ok (F := spec_l6Blank.T) (tbl := spec_l6Blank.tbl) mixed tyok Go.Proofs.Try.func91 (by kernel_rfl) (c0 := bodyOf Go.Proofs.Try.f91) rfl (conv_code _ _ _) rfl rfl spec_l6Blank.ok k (fun j _ => spec_l6Blank.tblok j)
  have e : spec_l6Blank.spec k = ⟨spec_l6Blank.T.ps, spec_l6Blank.T.rs, spec_l6Blank.T.ev tyt spec_l6Blank.tbl k⟩ := congrArg (FnSpec.mk _ _) (funext fun x => ((spec_l6Blank.e k (spec_l6Blank.T.run tyt spec_l6Blank.tbl k) x.1 x.2).trans (by rfl)).symm)
  rw [e]
  exact h
/-! ### spec_l8Length: function 84 -/
def spec_l8Length.m (k : Nat) (a0 : Int) (a1 : Int) : Option (Int) := (some (w64 ((w64 ((w64 (2 * a0)) + (w64 (2 * a1)))) - 4)))
def spec_l8Length.f (k : Nat) (a0 : Int) (a1 : Int) : Option (Int) := spec_l8Length.m k a0 a1
noncomputable def spec_l8Length.spec (k : Nat) : FnSpec := ⟨[.d (.int .i64) none, .d (.int .i64) none], [.d (.int .i64) none], fun x => spec_l8Length.f k x.1 x.2⟩
noncomputable def spec_l8Length.T : FnText := ⟨(conv [] (bodyOf Go.Proofs.Try.f84) 0).1, Go.Proofs.Try.f84.results.toList, 11, [], [.d (.int .i64) none, .d (.int .i64) none], [.d (.int .i64) none]⟩
noncomputable def spec_l8Length.tbl (k : Nat) : Tbl := []
theorem spec_l8Length.e (k : Nat) (o : Nat → St → Option (Int)) (a0 : Int) (a1 : Int) : spec_l8Length.T.main tyt (spec_l8Length.tbl k) o (a0, a1) = spec_l8Length.m k a0 a1 := by kernel_rfl
theorem spec_l8Length.ok : spec_l8Length.T.ok = true := by kernel_rfl
theorem spec_l8Length.tblok (k : Nat) : TblOk Go.Proofs.Try.prog (spec_l8Length.tbl k) := TblOk.nil _
theorem spec_l8Length.sound (k : Nat) : Sound Go.Proofs.Try.prog 84 (spec_l8Length.spec k) := by
  have h := fn_ok (F := spec_l8Length.T) (tbl := spec_l8Length.tbl) mixed tyok Go.Proofs.Try.func84 (by kernel_rfl) (c0 := bodyOf Go.Proofs.Try.f84) rfl (conv_code _ _ _) rfl rfl spec_l8Length.ok k (fun j _ => spec_l8Length.tblok j)
  have e : spec_l8Length.spec k = ⟨spec_l8Length.T.ps, spec_l8Length.T.rs, spec_l8Length.T.ev tyt spec_l8Length.tbl k⟩ := congrArg (FnSpec.mk _ _) (funext fun x => ((spec_l8Length.e k (spec_l8Length.T.run tyt spec_l8Length.tbl k) x.1 x.2).trans (by rfl)).symm)
  rw [e]
  exact h
/-! ### spec_l1Own: function 102 -/
def spec_l1Own.m (k : Nat) (l0 : List Int) : Option (List Int) := ((app 17592186044416 ([] : List (Int)) l0).bind fun l1 => (some l1))
def spec_l1Own.f (k : Nat) (l0 : List Int) : Option (List Int) := spec_l1Own.m k l0
noncomputable def spec_l1Own.spec (k : Nat) : FnSpec := ⟨[.d (.sl (.int .i64)) none], [.d (.sl (.int .i64)) (some 3)], fun x => spec_l1Own.f k x⟩
noncomputable def spec_l1Own.T : FnText := ⟨(conv [] (bodyOf Go.Proofs.Try.f102) 0).1, Go.Proofs.Try.f102.results.toList, 6, [], [.d (.sl (.int .i64)) none], [.d (.sl (.int .i64)) (some 3)]⟩
noncomputable def spec_l1Own.tbl (k : Nat) : Tbl := []
theorem spec_l1Own.e (k : Nat) (o : Nat → St → Option (List Int)) (l0 : List Int) : spec_l1Own.T.main tyt (spec_l1Own.tbl k) o l0 = spec_l1Own.m k l0 := by kernel_rfl
theorem spec_l1Own.ok : spec_l1Own.T.ok = true := by kernel_rfl
theorem spec_l1Own.tblok (k : Nat) : TblOk Go.Proofs.Try.prog (spec_l1Own.tbl k) := TblOk.nil _
theorem spec_l1Own.sound (k : Nat) : Sound Go.Proofs.Try.prog 102 (spec_l1Own.spec k) := by
  have h := fn_ok (F := spec_l1Own.T) (tbl := spec_l1Own.tbl) mixed tyok Go.Proofs.Try.func102 (by kernel_rfl) (c0 := bodyOf Go.Proofs.Try.f102) rfl (conv_code _ _ _) rfl rfl spec_l1Own.ok k (fun j _ => spec_l1Own.tblok j)
  have e : spec_l1Own.spec k = ⟨spec_l1Own.T.ps, spec_l1Own.T.rs, spec_l1Own.T.ev tyt spec_l1Own.tbl k⟩ := congrArg (FnSpec.mk _ _) (funext fun x => ((spec_l1Own.e k (spec_l1Own.T.run tyt spec_l1Own.tbl k) x).trans (by rfl)).symm)
  rw [e]
  exact h
/-! ### spec_l2Own: function 56 -/
def spec_l2Own.m (k : Nat) (a0_0 : Int) (a0_1 : Int) (l0_2 : List Int) : Option (Int × Int × List Int) := ((spec_l1Own.f k l0_2).bind fun r1 => (some (a0_0, a0_1, r1)))
def spec_l2Own.f (k : Nat) (a0_0 : Int) (a0_1 : Int) (l0_2 : List Int) : Option (Int × Int × List Int) := spec_l2Own.m k a0_0 a0_1 l0_2
noncomputable def spec_l2Own.spec (k : Nat) : FnSpec := ⟨[.ag [.d (.int .i64) none, .d (.int .i64) none, .d (.sl (.int .i64)) none]], [.ag [.d (.int .i64) none, .d (.int .i64) none, .d (.sl (.int .i64)) (some 3)]], fun x => spec_l2Own.f k x.1 x.2.1 x.2.2⟩
noncomputable def spec_l2Own.T : FnText := ⟨(conv [] (bodyOf Go.Proofs.Try.f56) 0).1, Go.Proofs.Try.f56.results.toList, 11, [], [.ag [.d (.int .i64) none, .d (.int .i64) none, .d (.sl (.int .i64)) none]], [.ag [.d (.int .i64) none, .d (.int .i64) none, .d (.sl (.int .i64)) (some 3)]]⟩
noncomputable def spec_l2Own.tbl (k : Nat) : Tbl := [(102, spec_l1Own.spec k)]
theorem spec_l2Own.e (k : Nat) (o : Nat → St → Option (Int × Int × List Int)) (a0_0 : Int) (a0_1 : Int) (l0_2 : List Int) : spec_l2Own.T.main tyt (spec_l2Own.tbl k) o (a0_0, a0_1, l0_2) = spec_l2Own.m k a0_0 a0_1 l0_2 := by kernel_rfl
theorem spec_l2Own.ok : spec_l2Own.T.ok = true := by kernel_rfl
theorem spec_l2Own.tblok (k : Nat) : TblOk Go.Proofs.Try.prog (spec_l2Own.tbl k) := TblOk.cons (spec_l1Own.sound k) (TblOk.nil _)
theorem spec_l2Own.sound (k : Nat) : Sound Go.Proofs.Try.prog 56 (spec_l2Own.spec k) := by
  have h := fn_ok (F := spec_l2Own.T) (tbl := spec_l2Own.tbl) mixed tyok Go.Proofs.Try.func56 (by kernel_rfl) (c0 := bodyOf Go.Proofs.Try.f56) rfl (conv_code _ _ _) rfl rfl spec_l2Own.ok k (fun j _ => spec_l2Own.tblok j)
  have e : spec_l2Own.spec k = ⟨spec_l2Own.T.ps, spec_l2Own.T.rs, spec_l2Own.T.ev tyt spec_l2Own.tbl k⟩ := congrArg (FnSpec.mk _ _) (funext fun x => ((spec_l2Own.e k (spec_l2Own.T.run tyt spec_l2Own.tbl k) x.1 x.2.1 x.2.2).trans (by rfl)).symm)
  rw [e]
  exact h
/-! ### spec_l2At: function 113 -/
def spec_l2At.m (k : Nat) (a0_0 : Int) (a0_1 : Int) (l0_2 : List Int) (a1 : Int) (a2 : Int) : Option (Int) := ((chk l0_2.length (w64 ((w64 (a1 * a0_0)) + a2))).bind fun i1 => (some (l0_2.getD i1 0)))
def spec_l2At.f (k : Nat) (a0_0 : Int) (a0_1 : Int) (l0_2 : List Int) (a1 : Int) (a2 : Int) : Option (Int) := spec_l2At.m k a0_0 a0_1 l0_2 a1 a2
noncomputable def spec_l2At.spec (k : Nat) : FnSpec := ⟨[.ag [.d (.int .i64) none, .d (.int .i64) none, .d (.sl (.int .i64)) none], .d (.int .i64) none, .d (.int .i64) none], [.d (.int .i64) none], fun x => spec_l2At.f k x.1 x.2.1 x.2.2.1 x.2.2.2.1 x.2.2.2.2⟩
noncomputable def spec_l2At.T : FnText := ⟨(conv [] (bodyOf Go.Proofs.Try.f113) 0).1, Go.Proofs.Try.f113.results.toList, 17, [], [.ag [.d (.int .i64) none, .d (.int .i64) none, .d (.sl (.int .i64)) none], .d (.int .i64) none, .d (.int .i64) none], [.d (.int .i64) none]⟩
noncomputable def spec_l2At.tbl (k : Nat) : Tbl := []
theorem spec_l2At.e (k : Nat) (o : Nat → St → Option (Int)) (a0_0 : Int) (a0_1 : Int) (l0_2 : List Int) (a1 : Int) (a2 : Int) : spec_l2At.T.main tyt (spec_l2At.tbl k) o (a0_0, a0_1, l0_2, a1, a2) = spec_l2At.m k a0_0 a0_1 l0_2 a1 a2 := by kernel_rfl
theorem spec_l2At.ok : spec_l2At.T.ok = true := by kernel_rfl
theorem spec_l2At.tblok (k : Nat) : TblOk Go.Proofs.Try.prog (spec_l2At.tbl k) := TblOk.nil _
theorem spec_l2At.sound (k : Nat) : Sound Go.Proofs.Try.prog 113 (spec_l2At.spec k) := by
  have h := fn_ok (F := spec_l2At.T) (tbl := spec_l2At.tbl) mixed tyok Go.Proofs.Try.func113 (by kernel_rfl) (c0 := bodyOf Go.Proofs.Try.f113) rfl (conv_code _ _ _) rfl rfl spec_l2At.ok k (fun j _ => spec_l2At.tblok j)
  have e : spec_l2At.spec k = ⟨spec_l2At.T.ps, spec_l2At.T.rs, spec_l2At.T.ev tyt spec_l2At.tbl k⟩ := congrArg (FnSpec.mk _ _) (funext fun x => ((spec_l2At.e k (spec_l2At.T.run tyt spec_l2At.tbl k) x.1 x.2.1 x.2.2.1 x.2.2.2.1 x.2.2.2.2).trans (by rfl)).symm)
  rw [e]
  exact h
/-! ### spec_l2Put: function 71 -/
def spec_l2Put.b4 (o9 : Int → Int → Int → Int → List Int → Int → Int → List Int → Int → Int → List Int → Int → Int → List Int → Int → Int → Option (Int × Int × List Int)) (k : Nat) (x0_4 : Int) (x1_4 : Int) (x2_4 : Int) (x3_4 : Int) (l4_4 : List Int) (x5_4 : Int) (x6_4 : Int) (l7_4 : List Int) (x8_4 : Int) (x9_4 : Int) (l10_4 : List Int) (x11_4 : Int) (x12_4 : Int) (l13_4 : List Int) (x14_4 : Int) : Option (Int × Int × List Int) := (if x14_4 < x6_4 then (o9 x0_4 x1_4 x2_4 x3_4 l4_4 x5_4 x6_4 l7_4 x8_4 x9_4 l10_4 x11_4 x12_4 l13_4 x14_4 0) else (some (x11_4, x12_4, l13_4)))
def spec_l2Put.b9 (o4 : Int → Int → Int → Int → List Int → Int → Int → List Int → Int → Int → List Int → Int → Int → List Int → Int → Option (Int × Int × List Int)) (o9 : Int → Int → Int → Int → List Int → Int → Int → List Int → Int → Int → List Int → Int → Int → List Int → Int → Int → Option (Int × Int × List Int)) (k : Nat) (x0_9 : Int) (x1_9 : Int) (x2_9 : Int) (x3_9 : Int) (l4_9 : List Int) (x5_9 : Int) (x6_9 : Int) (l7_9 : List Int) (x8_9 : Int) (x9_9 : Int) (l10_9 : List Int) (x11_9 : Int) (x12_9 : Int) (l13_9 : List Int) (x14_9 : Int) (x15_9 : Int) : Option (Int × Int × List Int) := (if x15_9 < x5_9 then ((spec_l2At.f k x5_9 x6_9 l7_9 x14_9 x15_9).bind fun r2 => ((chk l13_9.length (w64 ((w64 ((w64 ((w64 (x0_9 + x14_9)) * x2_9)) + x1_9)) + x15_9))).bind fun i3 => (o9 x0_9 x1_9 x2_9 x3_9 l4_9 x5_9 x6_9 l7_9 x8_9 x9_9 l10_9 x11_9 x12_9 (l13_9.set i3 r2) x14_9 (w64 (x15_9 + 1))))) else (o4 x0_9 x1_9 x2_9 x3_9 l4_9 x5_9 x6_9 l7_9 x8_9 x9_9 l10_9 x11_9 x12_9 l13_9 (w64 (x14_9 + 1))))
mutual
def spec_l2Put.l4 : Nat → Int → Int → Int → Int → List Int → Int → Int → List Int → Int → Int → List Int → Int → Int → List Int → Int → Option (Int × Int × List Int)
  | 0, _, _, _, _, _, _, _, _, _, _, _, _, _, _, _ => none
  | k + 1, x0_4, x1_4, x2_4, x3_4, l4_4, x5_4, x6_4, l7_4, x8_4, x9_4, l10_4, x11_4, x12_4, l13_4, x14_4 => spec_l2Put.b4 (spec_l2Put.l9 k) k x0_4 x1_4 x2_4 x3_4 l4_4 x5_4 x6_4 l7_4 x8_4 x9_4 l10_4 x11_4 x12_4 l13_4 x14_4
def spec_l2Put.l9 : Nat → Int → Int → Int → Int → List Int → Int → Int → List Int → Int → Int → List Int → Int → Int → List Int → Int → Int → Option (Int × Int × List Int)
  | 0, _, _, _, _, _, _, _, _, _, _, _, _, _, _, _, _ => none
  | k + 1, x0_9, x1_9, x2_9, x3_9, l4_9, x5_9, x6_9, l7_9, x8_9, x9_9, l10_9, x11_9, x12_9, l13_9, x14_9, x15_9 => spec_l2Put.b9 (spec_l2Put.l4 k) (spec_l2Put.l9 k) k x0_9 x1_9 x2_9 x3_9 l4_9 x5_9 x6_9 l7_9 x8_9 x9_9 l10_9 x11_9 x12_9 l13_9 x14_9 x15_9
end
def spec_l2Put.m (o4 : Int → Int → Int → Int → List Int → Int → Int → List Int → Int → Int → List Int → Int → Int → List Int → Int → Option (Int × Int × List Int)) (k : Nat) (a0_0 : Int) (a0_1 : Int) (l0_2 : List Int) (a1_0 : Int) (a1_1 : Int) (l1_2 : List Int) (a2 : Int) (a3 : Int) : Option (Int × Int × List Int) := ((spec_l2Own.f k a0_0 a0_1 l0_2).bind fun r1 => (o4 a2 a3 a0_0 a0_1 l0_2 a1_0 a1_1 l1_2 0 0 [] r1.1 r1.2.1 r1.2.2 0))
def spec_l2Put.f (k : Nat) (a0_0 : Int) (a0_1 : Int) (l0_2 : List Int) (a1_0 : Int) (a1_1 : Int) (l1_2 : List Int) (a2 : Int) (a3 : Int) : Option (Int × Int × List Int) := spec_l2Put.m (spec_l2Put.l4 k) k a0_0 a0_1 l0_2 a1_0 a1_1 l1_2 a2 a3
noncomputable def spec_l2Put.spec (k : Nat) : FnSpec := ⟨[.ag [.d (.int .i64) none, .d (.int .i64) none, .d (.sl (.int .i64)) none], .ag [.d (.int .i64) none, .d (.int .i64) none, .d (.sl (.int .i64)) none], .d (.int .i64) none, .d (.int .i64) none], [.ag [.d (.int .i64) none, .d (.int .i64) none, .d (.sl (.int .i64)) (some 3)]], fun x => spec_l2Put.f k x.1 x.2.1 x.2.2.1 x.2.2.2.1 x.2.2.2.2.1 x.2.2.2.2.2.1 x.2.2.2.2.2.2.1 x.2.2.2.2.2.2.2⟩
def spec_l2Put.S4 (x0_4 : Int) (x1_4 : Int) (x2_4 : Int) (x3_4 : Int) (l4_4 : List Int) (x5_4 : Int) (x6_4 : Int) (l7_4 : List Int) (x8_4 : Int) (x9_4 : Int) (l10_4 : List Int) (x11_4 : Int) (x12_4 : Int) (l13_4 : List Int) (x14_4 : Int) : St := ⟨[(2, .val (.int .i64) x0_4), (3, .val (.int .i64) x1_4), (4, .ptr 100 0), (5, .ptr 101 0), (8, .ptr 102 0), (9, .ptr 103 0), (10, .val (.int .i64) x14_4)], [(103, some (.box [.val (.int .i64) x11_4, .val (.int .i64) x12_4, .ref 104])), (104, some (.row 3 (.int .i64) l13_4)), (102, some (.box [.val (.int .i64) x8_4, .val (.int .i64) x9_4, .val (.sl (.int .i64)) l10_4])), (101, some (.box [.val (.int .i64) x5_4, .val (.int .i64) x6_4, .val (.sl (.int .i64)) l7_4])), (100, some (.box [.val (.int .i64) x2_4, .val (.int .i64) x3_4, .val (.sl (.int .i64)) l4_4]))], 1000⟩
def spec_l2Put.S9 (x0_9 : Int) (x1_9 : Int) (x2_9 : Int) (x3_9 : Int) (l4_9 : List Int) (x5_9 : Int) (x6_9 : Int) (l7_9 : List Int) (x8_9 : Int) (x9_9 : Int) (l10_9 : List Int) (x11_9 : Int) (x12_9 : Int) (l13_9 : List Int) (x14_9 : Int) (x15_9 : Int) : St := ⟨[(2, .val (.int .i64) x0_9), (3, .val (.int .i64) x1_9), (4, .ptr 100 0), (5, .ptr 101 0), (8, .ptr 102 0), (9, .ptr 103 0), (10, .val (.int .i64) x14_9), (11, .val (.int .i64) x15_9)], [(103, some (.box [.val (.int .i64) x11_9, .val (.int .i64) x12_9, .ref 104])), (104, some (.row 3 (.int .i64) l13_9)), (102, some (.box [.val (.int .i64) x8_9, .val (.int .i64) x9_9, .val (.sl (.int .i64)) l10_9])), (101, some (.box [.val (.int .i64) x5_9, .val (.int .i64) x6_9, .val (.sl (.int .i64)) l7_9])), (100, some (.box [.val (.int .i64) x2_9, .val (.int .i64) x3_9, .val (.sl (.int .i64)) l4_9]))], 1000⟩
noncomputable def spec_l2Put.T : FnText := ⟨(conv [] (bodyOf Go.Proofs.Try.f71) 0).1, Go.Proofs.Try.f71.results.toList, 44, [(4, [(2, .rd (.int .i64)), (3, .rd (.int .i64)), (4, .bx 100 [.rd (.int .i64), .rd (.int .i64), .rd (.sl (.int .i64))]), (5, .bx 101 [.rd (.int .i64), .rd (.int .i64), .rd (.sl (.int .i64))]), (8, .bx 102 [.rd (.int .i64), .rd (.int .i64), .rd (.sl (.int .i64))]), (9, .bx 103 [.rd (.int .i64), .rd (.int .i64), .own 3 (.int .i64) 104]), (10, .rd (.int .i64))]), (9, [(2, .rd (.int .i64)), (3, .rd (.int .i64)), (4, .bx 100 [.rd (.int .i64), .rd (.int .i64), .rd (.sl (.int .i64))]), (5, .bx 101 [.rd (.int .i64), .rd (.int .i64), .rd (.sl (.int .i64))]), (8, .bx 102 [.rd (.int .i64), .rd (.int .i64), .rd (.sl (.int .i64))]), (9, .bx 103 [.rd (.int .i64), .rd (.int .i64), .own 3 (.int .i64) 104]), (10, .rd (.int .i64)), (11, .rd (.int .i64))])], [.ag [.d (.int .i64) none, .d (.int .i64) none, .d (.sl (.int .i64)) none], .ag [.d (.int .i64) none, .d (.int .i64) none, .d (.sl (.int .i64)) none], .d (.int .i64) none, .d (.int .i64) none], [.ag [.d (.int .i64) none, .d (.int .i64) none, .d (.sl (.int .i64)) (some 3)]]⟩
noncomputable def spec_l2Put.tbl (k : Nat) : Tbl := [(56, spec_l2Own.spec k), (113, spec_l2At.spec k)]
theorem spec_l2Put.e4 (k : Nat) (o : Nat → St → Option (Int × Int × List Int)) (x0_4 : Int) (x1_4 : Int) (x2_4 : Int) (x3_4 : Int) (l4_4 : List Int) (x5_4 : Int) (x6_4 : Int) (l7_4 : List Int) (x8_4 : Int) (x9_4 : Int) (l10_4 : List Int) (x11_4 : Int) (x12_4 : Int) (l13_4 : List Int) (x14_4 : Int) : spec_l2Put.T.step tyt (spec_l2Put.tbl k) o 4 (spec_l2Put.S4 x0_4 x1_4 x2_4 x3_4 l4_4 x5_4 x6_4 l7_4 x8_4 x9_4 l10_4 x11_4 x12_4 l13_4 x14_4) = spec_l2Put.b4 (fun x0_9 x1_9 x2_9 x3_9 l4_9 x5_9 x6_9 l7_9 x8_9 x9_9 l10_9 x11_9 x12_9 l13_9 x14_9 x15_9 => o 9 (spec_l2Put.S9 x0_9 x1_9 x2_9 x3_9 l4_9 x5_9 x6_9 l7_9 x8_9 x9_9 l10_9 x11_9 x12_9 l13_9 x14_9 x15_9)) k x0_4 x1_4 x2_4 x3_4 l4_4 x5_4 x6_4 l7_4 x8_4 x9_4 l10_4 x11_4 x12_4 l13_4 x14_4 := by kernel_rfl
theorem spec_l2Put.e9 (k : Nat) (o : Nat → St → Option (Int × Int × List Int)) (x0_9 : Int) (x1_9 : Int) (x2_9 : Int) (x3_9 : Int) (l4_9 : List Int) (x5_9 : Int) (x6_9 : Int) (l7_9 : List Int) (x8_9 : Int) (x9_9 : Int) (l10_9 : List Int) (x11_9 : Int) (x12_9 : Int) (l13_9 : List Int) (x14_9 : Int) (x15_9 : Int) : spec_l2Put.T.step tyt (spec_l2Put.tbl k) o 9 (spec_l2Put.S9 x0_9 x1_9 x2_9 x3_9 l4_9 x5_9 x6_9 l7_9 x8_9 x9_9 l10_9 x11_9 x12_9 l13_9 x14_9 x15_9) = spec_l2Put.b9 (fun x0_4 x1_4 x2_4 x3_4 l4_4 x5_4 x6_4 l7_4 x8_4 x9_4 l10_4 x11_4 x12_4 l13_4 x14_4 => o 4 (spec_l2Put.S4 x0_4 x1_4 x2_4 x3_4 l4_4 x5_4 x6_4 l7_4 x8_4 x9_4 l10_4 x11_4 x12_4 l13_4 x14_4)) (fun x0_9 x1_9 x2_9 x3_9 l4_9 x5_9 x6_9 l7_9 x8_9 x9_9 l10_9 x11_9 x12_9 l13_9 x14_9 x15_9 => o 9 (spec_l2Put.S9 x0_9 x1_9 x2_9 x3_9 l4_9 x5_9 x6_9 l7_9 x8_9 x9_9 l10_9 x11_9 x12_9 l13_9 x14_9 x15_9)) k x0_9 x1_9 x2_9 x3_9 l4_9 x5_9 x6_9 l7_9 x8_9 x9_9 l10_9 x11_9 x12_9 l13_9 x14_9 x15_9 := by kernel_rfl
theorem spec_l2Put.e (k : Nat) (o : Nat → St → Option (Int × Int × List Int)) (a0_0 : Int) (a0_1 : Int) (l0_2 : List Int) (a1_0 : Int) (a1_1 : Int) (l1_2 : List Int) (a2 : Int) (a3 : Int) : spec_l2Put.T.main tyt (spec_l2Put.tbl k) o (a0_0, a0_1, l0_2, a1_0, a1_1, l1_2, a2, a3) = spec_l2Put.m (fun x0_4 x1_4 x2_4 x3_4 l4_4 x5_4 x6_4 l7_4 x8_4 x9_4 l10_4 x11_4 x12_4 l13_4 x14_4 => o 4 (spec_l2Put.S4 x0_4 x1_4 x2_4 x3_4 l4_4 x5_4 x6_4 l7_4 x8_4 x9_4 l10_4 x11_4 x12_4 l13_4 x14_4)) k a0_0 a0_1 l0_2 a1_0 a1_1 l1_2 a2 a3 := by kernel_rfl
theorem spec_l2Put.ok : spec_l2Put.T.ok = true := by kernel_rfl
theorem spec_l2Put.run (k : Nat) : (∀ (x0_4 : Int) (x1_4 : Int) (x2_4 : Int) (x3_4 : Int) (l4_4 : List Int) (x5_4 : Int) (x6_4 : Int) (l7_4 : List Int) (x8_4 : Int) (x9_4 : Int) (l10_4 : List Int) (x11_4 : Int) (x12_4 : Int) (l13_4 : List Int) (x14_4 : Int), spec_l2Put.T.run tyt spec_l2Put.tbl k 4 (spec_l2Put.S4 x0_4 x1_4 x2_4 x3_4 l4_4 x5_4 x6_4 l7_4 x8_4 x9_4 l10_4 x11_4 x12_4 l13_4 x14_4) = spec_l2Put.l4 k x0_4 x1_4 x2_4 x3_4 l4_4 x5_4 x6_4 l7_4 x8_4 x9_4 l10_4 x11_4 x12_4 l13_4 x14_4) ∧ (∀ (x0_9 : Int) (x1_9 : Int) (x2_9 : Int) (x3_9 : Int) (l4_9 : List Int) (x5_9 : Int) (x6_9 : Int) (l7_9 : List Int) (x8_9 : Int) (x9_9 : Int) (l10_9 : List Int) (x11_9 : Int) (x12_9 : Int) (l13_9 : List Int) (x14_9 : Int) (x15_9 : Int), spec_l2Put.T.run tyt spec_l2Put.tbl k 9 (spec_l2Put.S9 x0_9 x1_9 x2_9 x3_9 l4_9 x5_9 x6_9 l7_9 x8_9 x9_9 l10_9 x11_9 x12_9 l13_9 x14_9 x15_9) = spec_l2Put.l9 k x0_9 x1_9 x2_9 x3_9 l4_9 x5_9 x6_9 l7_9 x8_9 x9_9 l10_9 x11_9 x12_9 l13_9 x14_9 x15_9) := by
  induction k with
  | zero => exact ⟨fun x0_4 x1_4 x2_4 x3_4 l4_4 x5_4 x6_4 l7_4 x8_4 x9_4 l10_4 x11_4 x12_4 l13_4 x14_4 => rfl, fun x0_9 x1_9 x2_9 x3_9 l4_9 x5_9 x6_9 l7_9 x8_9 x9_9 l10_9 x11_9 x12_9 l13_9 x14_9 x15_9 => rfl⟩
  | succ k ih =>
    exact ⟨fun x0_4 x1_4 x2_4 x3_4 l4_4 x5_4 x6_4 l7_4 x8_4 x9_4 l10_4 x11_4 x12_4 l13_4 x14_4 => by
      have q9 : (fun x0_9 x1_9 x2_9 x3_9 l4_9 x5_9 x6_9 l7_9 x8_9 x9_9 l10_9 x11_9 x12_9 l13_9 x14_9 x15_9 => spec_l2Put.T.run tyt spec_l2Put.tbl k 9 (spec_l2Put.S9 x0_9 x1_9 x2_9 x3_9 l4_9 x5_9 x6_9 l7_9 x8_9 x9_9 l10_9 x11_9 x12_9 l13_9 x14_9 x15_9)) = spec_l2Put.l9 k := by funext x0_9 x1_9 x2_9 x3_9 l4_9 x5_9 x6_9 l7_9 x8_9 x9_9 l10_9 x11_9 x12_9 l13_9 x14_9 x15_9; exact ih.2 x0_9 x1_9 x2_9 x3_9 l4_9 x5_9 x6_9 l7_9 x8_9 x9_9 l10_9 x11_9 x12_9 l13_9 x14_9 x15_9
      exact (spec_l2Put.e4 k (spec_l2Put.T.run tyt spec_l2Put.tbl k) x0_4 x1_4 x2_4 x3_4 l4_4 x5_4 x6_4 l7_4 x8_4 x9_4 l10_4 x11_4 x12_4 l13_4 x14_4).trans (by rw [q9]; rfl), fun x0_9 x1_9 x2_9 x3_9 l4_9 x5_9 x6_9 l7_9 x8_9 x9_9 l10_9 x11_9 x12_9 l13_9 x14_9 x15_9 => by
      have q4 : (fun x0_4 x1_4 x2_4 x3_4 l4_4 x5_4 x6_4 l7_4 x8_4 x9_4 l10_4 x11_4 x12_4 l13_4 x14_4 => spec_l2Put.T.run tyt spec_l2Put.tbl k 4 (spec_l2Put.S4 x0_4 x1_4 x2_4 x3_4 l4_4 x5_4 x6_4 l7_4 x8_4 x9_4 l10_4 x11_4 x12_4 l13_4 x14_4)) = spec_l2Put.l4 k := by funext x0_4 x1_4 x2_4 x3_4 l4_4 x5_4 x6_4 l7_4 x8_4 x9_4 l10_4 x11_4 x12_4 l13_4 x14_4; exact ih.1 x0_4 x1_4 x2_4 x3_4 l4_4 x5_4 x6_4 l7_4 x8_4 x9_4 l10_4 x11_4 x12_4 l13_4 x14_4
      have q9 : (fun x0_9 x1_9 x2_9 x3_9 l4_9 x5_9 x6_9 l7_9 x8_9 x9_9 l10_9 x11_9 x12_9 l13_9 x14_9 x15_9 => spec_l2Put.T.run tyt spec_l2Put.tbl k 9 (spec_l2Put.S9 x0_9 x1_9 x2_9 x3_9 l4_9 x5_9 x6_9 l7_9 x8_9 x9_9 l10_9 x11_9 x12_9 l13_9 x14_9 x15_9)) = spec_l2Put.l9 k := by funext x0_9 x1_9 x2_9 x3_9 l4_9 x5_9 x6_9 l7_9 x8_9 x9_9 l10_9 x11_9 x12_9 l13_9 x14_9 x15_9; exact ih.2 x0_9 x1_9 x2_9 x3_9 l4_9 x5_9 x6_9 l7_9 x8_9 x9_9 l10_9 x11_9 x12_9 l13_9 x14_9 x15_9
      exact (spec_l2Put.e9 k (spec_l2Put.T.run tyt spec_l2Put.tbl k) x0_9 x1_9 x2_9 x3_9 l4_9 x5_9 x6_9 l7_9 x8_9 x9_9 l10_9 x11_9 x12_9 l13_9 x14_9 x15_9).trans (by rw [q4, q9]; rfl)⟩
theorem spec_l2Put.tblok (k : Nat) : TblOk Go.Proofs.Try.prog (spec_l2Put.tbl k) := TblOk.cons (spec_l2Own.sound k) (TblOk.cons (spec_l2At.sound k) (TblOk.nil _))
theorem spec_l2Put.sound (k : Nat) : Sound Go.Proofs.Try.prog 71 (spec_l2Put.spec k) := by
  have h := fn_ok (F := spec_l2Put.T) (tbl := spec_l2Put.tbl) mixed tyok Go.Proofs.Try.func71 (by kernel_rfl) (c0 := bodyOf Go.Proofs.Try.f71) rfl (conv_code _ _ _) rfl rfl spec_l2Put.ok k (fun j _ => spec_l2Put.tblok j)
  have q4 : (fun x0_4 x1_4 x2_4 x3_4 l4_4 x5_4 x6_4 l7_4 x8_4 x9_4 l10_4 x11_4 x12_4 l13_4 x14_4 => spec_l2Put.T.run tyt spec_l2Put.tbl k 4 (spec_l2Put.S4 x0_4 x1_4 x2_4 x3_4 l4_4 x5_4 x6_4 l7_4 x8_4 x9_4 l10_4 x11_4 x12_4 l13_4 x14_4)) = spec_l2Put.l4 k := by funext x0_4 x1_4 x2_4 x3_4 l4_4 x5_4 x6_4 l7_4 x8_4 x9_4 l10_4 x11_4 x12_4 l13_4 x14_4; exact (spec_l2Put.run k).1 x0_4 x1_4 x2_4 x3_4 l4_4 x5_4 x6_4 l7_4 x8_4 x9_4 l10_4 x11_4 x12_4 l13_4 x14_4
  have e : spec_l2Put.spec k = ⟨spec_l2Put.T.ps, spec_l2Put.T.rs, spec_l2Put.T.ev tyt spec_l2Put.tbl k⟩ := congrArg (FnSpec.mk _ _) (funext fun x => ((spec_l2Put.e k (spec_l2Put.T.run tyt spec_l2Put.tbl k) x.1 x.2.1 x.2.2.1 x.2.2.2.1 x.2.2.2.2.1 x.2.2.2.2.2.1 x.2.2.2.2.2.2.1 x.2.2.2.2.2.2.2).trans (by rw [q4]; rfl)).symm)
  rw [e]
  exact h
/-! ### spec_l8Places: function 119 -/
def spec_l8Places.b4 (o4 : Int → Int → List Int → Int → Option (List Int)) (o10 : Int → Int → List Int → Int → Option (List Int)) (k : Nat) (x0_4 : Int) (x1_4 : Int) (l2_4 : List Int) (x3_4 : Int) : Option (List Int) := (if x3_4 < x0_4 then ((app 17592186044416 l2_4 [x3_4]).bind fun l1 => (o4 x0_4 x1_4 l1 (w64 (x3_4 + 1)))) else (o10 x0_4 x1_4 l2_4 1))
def spec_l8Places.b10 (o10 : Int → Int → List Int → Int → Option (List Int)) (o16 : Int → Int → List Int → Int → Option (List Int)) (k : Nat) (x0_10 : Int) (x1_10 : Int) (l2_10 : List Int) (x3_10 : Int) : Option (List Int) := (if x3_10 < x1_10 then ((app 17592186044416 l2_10 [(w64 ((w64 ((w64 (x3_10 * x0_10)) + x0_10)) - 1))]).bind fun l2 => (o10 x0_10 x1_10 l2 (w64 (x3_10 + 1)))) else (o16 x0_10 x1_10 l2_10 (w64 (x0_10 - 2))))
def spec_l8Places.b16 (o16 : Int → Int → List Int → Int → Option (List Int)) (o22 : Int → List Int → Int → Option (List Int)) (k : Nat) (x0_16 : Int) (x1_16 : Int) (l2_16 : List Int) (x3_16 : Int) : Option (List Int) := (if 0 ≤ x3_16 then ((app 17592186044416 l2_16 [(w64 ((w64 ((w64 (x1_16 - 1)) * x0_16)) + x3_16))]).bind fun l3 => (o16 x0_16 x1_16 l3 (w64 (x3_16 - 1)))) else (o22 x0_16 l2_16 (w64 (x1_16 - 2))))
def spec_l8Places.b22 (o22 : Int → List Int → Int → Option (List Int)) (k : Nat) (x0_22 : Int) (l1_22 : List Int) (x2_22 : Int) : Option (List Int) := (if 0 < x2_22 then ((app 17592186044416 l1_22 [(w64 (x2_22 * x0_22))]).bind fun l4 => (o22 x0_22 l4 (w64 (x2_22 - 1)))) else (some l1_22))
mutual
def spec_l8Places.l4 : Nat → Int → Int → List Int → Int → Option (List Int)
  | 0, _, _, _, _ => none
  | k + 1, x0_4, x1_4, l2_4, x3_4 => spec_l8Places.b4 (spec_l8Places.l4 k) (spec_l8Places.l10 k) k x0_4 x1_4 l2_4 x3_4
def spec_l8Places.l10 : Nat → Int → Int → List Int → Int → Option (List Int)
  | 0, _, _, _, _ => none
  | k + 1, x0_10, x1_10, l2_10, x3_10 => spec_l8Places.b10 (spec_l8Places.l10 k) (spec_l8Places.l16 k) k x0_10 x1_10 l2_10 x3_10
def spec_l8Places.l16 : Nat → Int → Int → List Int → Int → Option (List Int)
  | 0, _, _, _, _ => none
  | k + 1, x0_16, x1_16, l2_16, x3_16 => spec_l8Places.b16 (spec_l8Places.l16 k) (spec_l8Places.l22 k) k x0_16 x1_16 l2_16 x3_16
def spec_l8Places.l22 : Nat → Int → List Int → Int → Option (List Int)
  | 0, _, _, _ => none
  | k + 1, x0_22, l1_22, x2_22 => spec_l8Places.b22 (spec_l8Places.l22 k) k x0_22 l1_22 x2_22
end
def spec_l8Places.m (o4 : Int → Int → List Int → Int → Option (List Int)) (k : Nat) (a0 : Int) (a1 : Int) : Option (List Int) := (o4 a0 a1 ([] : List (Int)) 0)
def spec_l8Places.f (k : Nat) (a0 : Int) (a1 : Int) : Option (List Int) := spec_l8Places.m (spec_l8Places.l4 k) k a0 a1
noncomputable def spec_l8Places.spec (k : Nat) : FnSpec := ⟨[.d (.int .i64) none, .d (.int .i64) none], [.d (.sl (.int .i64)) (some 3)], fun x => spec_l8Places.f k x.1 x.2⟩
def spec_l8Places.S4 (x0_4 : Int) (x1_4 : Int) (l2_4 : List Int) (x3_4 : Int) : St := ⟨[(0, .val (.int .i64) x0_4), (1, .val (.int .i64) x1_4), (5, .ref 100), (6, .val (.int .i64) x3_4)], [(100, some (.row 3 (.int .i64) l2_4))], 1000⟩
def spec_l8Places.S10 (x0_10 : Int) (x1_10 : Int) (l2_10 : List Int) (x3_10 : Int) : St := ⟨[(0, .val (.int .i64) x0_10), (1, .val (.int .i64) x1_10), (5, .ref 100), (7, .val (.int .i64) x3_10)], [(100, some (.row 3 (.int .i64) l2_10))], 1000⟩
def spec_l8Places.S16 (x0_16 : Int) (x1_16 : Int) (l2_16 : List Int) (x3_16 : Int) : St := ⟨[(0, .val (.int .i64) x0_16), (1, .val (.int .i64) x1_16), (5, .ref 100), (8, .val (.int .i64) x3_16)], [(100, some (.row 3 (.int .i64) l2_16))], 1000⟩
def spec_l8Places.S22 (x0_22 : Int) (l1_22 : List Int) (x2_22 : Int) : St := ⟨[(0, .val (.int .i64) x0_22), (5, .ref 100), (9, .val (.int .i64) x2_22)], [(100, some (.row 3 (.int .i64) l1_22))], 1000⟩
noncomputable def spec_l8Places.T : FnText := ⟨(conv [] (bodyOf Go.Proofs.Try.f119) 0).1, Go.Proofs.Try.f119.results.toList, 62, [(4, [(0, .rd (.int .i64)), (1, .rd (.int .i64)), (5, .own 3 (.int .i64) 100), (6, .rd (.int .i64))]), (10, [(0, .rd (.int .i64)), (1, .rd (.int .i64)), (5, .own 3 (.int .i64) 100), (7, .rd (.int .i64))]), (16, [(0, .rd (.int .i64)), (1, .rd (.int .i64)), (5, .own 3 (.int .i64) 100), (8, .rd (.int .i64))]), (22, [(0, .rd (.int .i64)), (5, .own 3 (.int .i64) 100), (9, .rd (.int .i64))])], [.d (.int .i64) none, .d (.int .i64) none], [.d (.sl (.int .i64)) (some 3)]⟩
noncomputable def spec_l8Places.tbl (k : Nat) : Tbl := []
theorem spec_l8Places.e4 (k : Nat) (o : Nat → St → Option (List Int)) (x0_4 : Int) (x1_4 : Int) (l2_4 : List Int) (x3_4 : Int) : spec_l8Places.T.step tyt (spec_l8Places.tbl k) o 4 (spec_l8Places.S4 x0_4 x1_4 l2_4 x3_4) = spec_l8Places.b4 (fun x0_4 x1_4 l2_4 x3_4 => o 4 (spec_l8Places.S4 x0_4 x1_4 l2_4 x3_4)) (fun x0_10 x1_10 l2_10 x3_10 => o 10 (spec_l8Places.S10 x0_10 x1_10 l2_10 x3_10)) k x0_4 x1_4 l2_4 x3_4 := by kernel_rfl
theorem spec_l8Places.e10 (k : Nat) (o : Nat → St → Option (List Int)) (x0_10 : Int) (x1_10 : Int) (l2_10 : List Int) (x3_10 : Int) : spec_l8Places.T.step tyt (spec_l8Places.tbl k) o 10 (spec_l8Places.S10 x0_10 x1_10 l2_10 x3_10) = spec_l8Places.b10 (fun x0_10 x1_10 l2_10 x3_10 => o 10 (spec_l8Places.S10 x0_10 x1_10 l2_10 x3_10)) (fun x0_16 x1_16 l2_16 x3_16 => o 16 (spec_l8Places.S16 x0_16 x1_16 l2_16 x3_16)) k x0_10 x1_10 l2_10 x3_10 := by kernel_rfl
theorem spec_l8Places.e16 (k : Nat) (o : Nat → St → Option (List Int)) (x0_16 : Int) (x1_16 : Int) (l2_16 : List Int) (x3_16 : Int) : spec_l8Places.T.step tyt (spec_l8Places.tbl k) o 16 (spec_l8Places.S16 x0_16 x1_16 l2_16 x3_16) = spec_l8Places.b16 (fun x0_16 x1_16 l2_16 x3_16 => o 16 (spec_l8Places.S16 x0_16 x1_16 l2_16 x3_16)) (fun x0_22 l1_22 x2_22 => o 22 (spec_l8Places.S22 x0_22 l1_22 x2_22)) k x0_16 x1_16 l2_16 x3_16 := by kernel_rfl
theorem spec_l8Places.e22 (k : Nat) (o : Nat → St → Option (List Int)) (x0_22 : Int) (l1_22 : List Int) (x2_22 : Int) : spec_l8Places.T.step tyt (spec_l8Places.tbl k) o 22 (spec_l8Places.S22 x0_22 l1_22 x2_22) = spec_l8Places.b22 (fun x0_22 l1_22 x2_22 => o 22 (spec_l8Places.S22 x0_22 l1_22 x2_22)) k x0_22 l1_22 x2_22 := by kernel_rfl
theorem spec_l8Places.e (k : Nat) (o : Nat → St → Option (List Int)) (a0 : Int) (a1 : Int) : spec_l8Places.T.main tyt (spec_l8Places.tbl k) o (a0, a1) = spec_l8Places.m (fun x0_4 x1_4 l2_4 x3_4 => o 4 (spec_l8Places.S4 x0_4 x1_4 l2_4 x3_4)) k a0 a1 := by kernel_rfl
theorem spec_l8Places.ok : spec_l8Places.T.ok = true := by kernel_rfl
theorem spec_l8Places.run (k : Nat) : (∀ (x0_4 : Int) (x1_4 : Int) (l2_4 : List Int) (x3_4 : Int), spec_l8Places.T.run tyt spec_l8Places.tbl k 4 (spec_l8Places.S4 x0_4 x1_4 l2_4 x3_4) = spec_l8Places.l4 k x0_4 x1_4 l2_4 x3_4) ∧ (∀ (x0_10 : Int) (x1_10 : Int) (l2_10 : List Int) (x3_10 : Int), spec_l8Places.T.run tyt spec_l8Places.tbl k 10 (spec_l8Places.S10 x0_10 x1_10 l2_10 x3_10) = spec_l8Places.l10 k x0_10 x1_10 l2_10 x3_10) ∧ (∀ (x0_16 : Int) (x1_16 : Int) (l2_16 : List Int) (x3_16 : Int), spec_l8Places.T.run tyt spec_l8Places.tbl k 16 (spec_l8Places.S16 x0_16 x1_16 l2_16 x3_16) = spec_l8Places.l16 k x0_16 x1_16 l2_16 x3_16) ∧ (∀ (x0_22 : Int) (l1_22 : List Int) (x2_22 : Int), spec_l8Places.T.run tyt spec_l8Places.tbl k 22 (spec_l8Places.S22 x0_22 l1_22 x2_22) = spec_l8Places.l22 k x0_22 l1_22 x2_22) := by
  induction k with
  | zero => exact ⟨fun x0_4 x1_4 l2_4 x3_4 => rfl, fun x0_10 x1_10 l2_10 x3_10 => rfl, fun x0_16 x1_16 l2_16 x3_16 => rfl, fun x0_22 l1_22 x2_22 => rfl⟩
  | succ k ih =>
    exact ⟨fun x0_4 x1_4 l2_4 x3_4 => by
      have q4 : (fun x0_4 x1_4 l2_4 x3_4 => spec_l8Places.T.run tyt spec_l8Places.tbl k 4 (spec_l8Places.S4 x0_4 x1_4 l2_4 x3_4)) = spec_l8Places.l4 k := by funext x0_4 x1_4 l2_4 x3_4; exact ih.1 x0_4 x1_4 l2_4 x3_4
      have q10 : (fun x0_10 x1_10 l2_10 x3_10 => spec_l8Places.T.run tyt spec_l8Places.tbl k 10 (spec_l8Places.S10 x0_10 x1_10 l2_10 x3_10)) = spec_l8Places.l10 k := by funext x0_10 x1_10 l2_10 x3_10; exact ih.2.1 x0_10 x1_10 l2_10 x3_10
      exact (spec_l8Places.e4 k (spec_l8Places.T.run tyt spec_l8Places.tbl k) x0_4 x1_4 l2_4 x3_4).trans (by rw [q4, q10]; rfl), fun x0_10 x1_10 l2_10 x3_10 => by
      have q10 : (fun x0_10 x1_10 l2_10 x3_10 => spec_l8Places.T.run tyt spec_l8Places.tbl k 10 (spec_l8Places.S10 x0_10 x1_10 l2_10 x3_10)) = spec_l8Places.l10 k := by funext x0_10 x1_10 l2_10 x3_10; exact ih.2.1 x0_10 x1_10 l2_10 x3_10
      have q16 : (fun x0_16 x1_16 l2_16 x3_16 => spec_l8Places.T.run tyt spec_l8Places.tbl k 16 (spec_l8Places.S16 x0_16 x1_16 l2_16 x3_16)) = spec_l8Places.l16 k := by funext x0_16 x1_16 l2_16 x3_16; exact ih.2.2.1 x0_16 x1_16 l2_16 x3_16
      exact (spec_l8Places.e10 k (spec_l8Places.T.run tyt spec_l8Places.tbl k) x0_10 x1_10 l2_10 x3_10).trans (by rw [q10, q16]; rfl), fun x0_16 x1_16 l2_16 x3_16 => by
      have q16 : (fun x0_16 x1_16 l2_16 x3_16 => spec_l8Places.T.run tyt spec_l8Places.tbl k 16 (spec_l8Places.S16 x0_16 x1_16 l2_16 x3_16)) = spec_l8Places.l16 k := by funext x0_16 x1_16 l2_16 x3_16; exact ih.2.2.1 x0_16 x1_16 l2_16 x3_16
      have q22 : (fun x0_22 l1_22 x2_22 => spec_l8Places.T.run tyt spec_l8Places.tbl k 22 (spec_l8Places.S22 x0_22 l1_22 x2_22)) = spec_l8Places.l22 k := by funext x0_22 l1_22 x2_22; exact ih.2.2.2 x0_22 l1_22 x2_22
      exact (spec_l8Places.e16 k (spec_l8Places.T.run tyt spec_l8Places.tbl k) x0_16 x1_16 l2_16 x3_16).trans (by rw [q16, q22]; rfl), fun x0_22 l1_22 x2_22 => by
      have q22 : (fun x0_22 l1_22 x2_22 => spec_l8Places.T.run tyt spec_l8Places.tbl k 22 (spec_l8Places.S22 x0_22 l1_22 x2_22)) = spec_l8Places.l22 k := by funext x0_22 l1_22 x2_22; exact ih.2.2.2 x0_22 l1_22 x2_22
      exact (spec_l8Places.e22 k (spec_l8Places.T.run tyt spec_l8Places.tbl k) x0_22 l1_22 x2_22).trans (by rw [q22]; rfl)⟩
theorem spec_l8Places.tblok (k : Nat) : TblOk Go.Proofs.Try.prog (spec_l8Places.tbl k) := TblOk.nil _
theorem spec_l8Places.sound (k : Nat) : Sound Go.Proofs.Try.prog 119 (spec_l8Places.spec k) := by
  have h := fn_ok (F := spec_l8Places.T) (tbl := spec_l8Places.tbl) mixed tyok Go.Proofs.Try.func119 (by kernel_rfl) (c0 := bodyOf Go.Proofs.Try.f119) rfl (conv_code _ _ _) rfl rfl spec_l8Places.ok k (fun j _ => spec_l8Places.tblok j)
  have q4 : (fun x0_4 x1_4 l2_4 x3_4 => spec_l8Places.T.run tyt spec_l8Places.tbl k 4 (spec_l8Places.S4 x0_4 x1_4 l2_4 x3_4)) = spec_l8Places.l4 k := by funext x0_4 x1_4 l2_4 x3_4; exact (spec_l8Places.run k).1 x0_4 x1_4 l2_4 x3_4
  have e : spec_l8Places.spec k = ⟨spec_l8Places.T.ps, spec_l8Places.T.rs, spec_l8Places.T.ev tyt spec_l8Places.tbl k⟩ := congrArg (FnSpec.mk _ _) (funext fun x => ((spec_l8Places.e k (spec_l8Places.T.run tyt spec_l8Places.tbl k) x.1 x.2).trans (by rw [q4]; rfl)).symm)
  rw [e]
  exact h
/-! ### spec_l8Put: function 85 -/
def spec_l8Put.b4 (o4 : List Int → Int → Int → List Int → Int → Int → List Int → List Int → Int → Option (Int × Int × List Int)) (k : Nat) (l0_4 : List Int) (x1_4 : Int) (x2_4 : Int) (l3_4 : List Int) (x4_4 : Int) (x5_4 : Int) (l6_4 : List Int) (l7_4 : List Int) (x8_4 : Int) : Option (Int × Int × List Int) := (if x8_4 < (l7_4.length : Int) then ((chk l7_4.length x8_4).bind fun i3 => ((rem x8_4 (l0_4.length : Int)).bind fun q4 => ((chk l0_4.length q4).bind fun i5 => ((chk l6_4.length (l7_4.getD i3 0)).bind fun i6 => (o4 l0_4 x1_4 x2_4 l3_4 x4_4 x5_4 (l6_4.set i6 (l0_4.getD i5 0)) l7_4 (w64 (x8_4 + 1))))))) else (some (x4_4, x5_4, l6_4)))
def spec_l8Put.l4 : Nat → List Int → Int → Int → List Int → Int → Int → List Int → List Int → Int → Option (Int × Int × List Int)
  | 0, _, _, _, _, _, _, _, _, _ => none
  | k + 1, l0_4, x1_4, x2_4, l3_4, x4_4, x5_4, l6_4, l7_4, x8_4 => spec_l8Put.b4 (spec_l8Put.l4 k) k l0_4 x1_4 x2_4 l3_4 x4_4 x5_4 l6_4 l7_4 x8_4
def spec_l8Put.m (o4 : List Int → Int → Int → List Int → Int → Int → List Int → List Int → Int → Option (Int × Int × List Int)) (k : Nat) (a0_0 : Int) (a0_1 : Int) (l0_2 : List Int) (l1 : List Int) : Option (Int × Int × List Int) := ((spec_l2Own.f k a0_0 a0_1 l0_2).bind fun r1 => ((spec_l8Places.f k a0_0 a0_1).bind fun r2 => (o4 l1 0 0 [] r1.1 r1.2.1 r1.2.2 r2 0)))
def spec_l8Put.f (k : Nat) (a0_0 : Int) (a0_1 : Int) (l0_2 : List Int) (l1 : List Int) : Option (Int × Int × List Int) := spec_l8Put.m (spec_l8Put.l4 k) k a0_0 a0_1 l0_2 l1
noncomputable def spec_l8Put.spec (k : Nat) : FnSpec := ⟨[.ag [.d (.int .i64) none, .d (.int .i64) none, .d (.sl (.int .i64)) none], .d (.sl (.int .i64)) none], [.ag [.d (.int .i64) none, .d (.int .i64) none, .d (.sl (.int .i64)) (some 3)]], fun x => spec_l8Put.f k x.1 x.2.1 x.2.2.1 x.2.2.2⟩
def spec_l8Put.S4 (l0_4 : List Int) (x1_4 : Int) (x2_4 : Int) (l3_4 : List Int) (x4_4 : Int) (x5_4 : Int) (l6_4 : List Int) (l7_4 : List Int) (x8_4 : Int) : St := ⟨[(1, .val (.sl (.int .i64)) l0_4), (4, .ptr 100 0), (5, .ptr 101 0), (6, .ref 103), (7, .val (.int .i64) x8_4)], [(103, some (.row 3 (.int .i64) l7_4)), (101, some (.box [.val (.int .i64) x4_4, .val (.int .i64) x5_4, .ref 102])), (102, some (.row 3 (.int .i64) l6_4)), (100, some (.box [.val (.int .i64) x1_4, .val (.int .i64) x2_4, .val (.sl (.int .i64)) l3_4]))], 1000⟩
noncomputable def spec_l8Put.T : FnText := ⟨(conv [] (bodyOf Go.Proofs.Try.f85) 0).1, Go.Proofs.Try.f85.results.toList, 36, [(4, [(1, .rd (.sl (.int .i64))), (4, .bx 100 [.rd (.int .i64), .rd (.int .i64), .rd (.sl (.int .i64))]), (5, .bx 101 [.rd (.int .i64), .rd (.int .i64), .own 3 (.int .i64) 102]), (6, .own 3 (.int .i64) 103), (7, .rd (.int .i64))])], [.ag [.d (.int .i64) none, .d (.int .i64) none, .d (.sl (.int .i64)) none], .d (.sl (.int .i64)) none], [.ag [.d (.int .i64) none, .d (.int .i64) none, .d (.sl (.int .i64)) (some 3)]]⟩
noncomputable def spec_l8Put.tbl (k : Nat) : Tbl := [(56, spec_l2Own.spec k), (119, spec_l8Places.spec k)]
theorem spec_l8Put.e4 (k : Nat) (o : Nat → St → Option (Int × Int × List Int)) (l0_4 : List Int) (x1_4 : Int) (x2_4 : Int) (l3_4 : List Int) (x4_4 : Int) (x5_4 : Int) (l6_4 : List Int) (l7_4 : List Int) (x8_4 : Int) : spec_l8Put.T.step tyt (spec_l8Put.tbl k) o 4 (spec_l8Put.S4 l0_4 x1_4 x2_4 l3_4 x4_4 x5_4 l6_4 l7_4 x8_4) = spec_l8Put.b4 (fun l0_4 x1_4 x2_4 l3_4 x4_4 x5_4 l6_4 l7_4 x8_4 => o 4 (spec_l8Put.S4 l0_4 x1_4 x2_4 l3_4 x4_4 x5_4 l6_4 l7_4 x8_4)) k l0_4 x1_4 x2_4 l3_4 x4_4 x5_4 l6_4 l7_4 x8_4 := by kernel_rfl
theorem spec_l8Put.e (k : Nat) (o : Nat → St → Option (Int × Int × List Int)) (a0_0 : Int) (a0_1 : Int) (l0_2 : List Int) (l1 : List Int) : spec_l8Put.T.main tyt (spec_l8Put.tbl k) o (a0_0, a0_1, l0_2, l1) = spec_l8Put.m (fun l0_4 x1_4 x2_4 l3_4 x4_4 x5_4 l6_4 l7_4 x8_4 => o 4 (spec_l8Put.S4 l0_4 x1_4 x2_4 l3_4 x4_4 x5_4 l6_4 l7_4 x8_4)) k a0_0 a0_1 l0_2 l1 := by kernel_rfl
theorem spec_l8Put.ok : spec_l8Put.T.ok = true := by kernel_rfl
theorem spec_l8Put.run (k : Nat) : (∀ (l0_4 : List Int) (x1_4 : Int) (x2_4 : Int) (l3_4 : List Int) (x4_4 : Int) (x5_4 : Int) (l6_4 : List Int) (l7_4 : List Int) (x8_4 : Int), spec_l8Put.T.run tyt spec_l8Put.tbl k 4 (spec_l8Put.S4 l0_4 x1_4 x2_4 l3_4 x4_4 x5_4 l6_4 l7_4 x8_4) = spec_l8Put.l4 k l0_4 x1_4 x2_4 l3_4 x4_4 x5_4 l6_4 l7_4 x8_4) := by
  induction k with
  | zero => exact fun l0_4 x1_4 x2_4 l3_4 x4_4 x5_4 l6_4 l7_4 x8_4 => rfl
  | succ k ih =>
    exact fun l0_4 x1_4 x2_4 l3_4 x4_4 x5_4 l6_4 l7_4 x8_4 => by
      have q4 : (fun l0_4 x1_4 x2_4 l3_4 x4_4 x5_4 l6_4 l7_4 x8_4 => spec_l8Put.T.run tyt spec_l8Put.tbl k 4 (spec_l8Put.S4 l0_4 x1_4 x2_4 l3_4 x4_4 x5_4 l6_4 l7_4 x8_4)) = spec_l8Put.l4 k := by funext l0_4 x1_4 x2_4 l3_4 x4_4 x5_4 l6_4 l7_4 x8_4; exact ih l0_4 x1_4 x2_4 l3_4 x4_4 x5_4 l6_4 l7_4 x8_4
      exact (spec_l8Put.e4 k (spec_l8Put.T.run tyt spec_l8Put.tbl k) l0_4 x1_4 x2_4 l3_4 x4_4 x5_4 l6_4 l7_4 x8_4).trans (by rw [q4]; rfl)
theorem spec_l8Put.tblok (k : Nat) : TblOk Go.Proofs.Try.prog (spec_l8Put.tbl k) := TblOk.cons (spec_l2Own.sound k) (TblOk.cons (spec_l8Places.sound k) (TblOk.nil _))
theorem spec_l8Put.sound (k : Nat) : Sound Go.Proofs.Try.prog 85 (spec_l8Put.spec k) := by
  have h := fn_ok (F := spec_l8Put.T) (tbl := spec_l8Put.tbl) mixed tyok Go.Proofs.Try.func85 (by kernel_rfl) (c0 := bodyOf Go.Proofs.Try.f85) rfl (conv_code _ _ _) rfl rfl spec_l8Put.ok k (fun j _ => spec_l8Put.tblok j)
  have q4 : (fun l0_4 x1_4 x2_4 l3_4 x4_4 x5_4 l6_4 l7_4 x8_4 => spec_l8Put.T.run tyt spec_l8Put.tbl k 4 (spec_l8Put.S4 l0_4 x1_4 x2_4 l3_4 x4_4 x5_4 l6_4 l7_4 x8_4)) = spec_l8Put.l4 k := by funext l0_4 x1_4 x2_4 l3_4 x4_4 x5_4 l6_4 l7_4 x8_4; exact (spec_l8Put.run k) l0_4 x1_4 x2_4 l3_4 x4_4 x5_4 l6_4 l7_4 x8_4
  have e : spec_l8Put.spec k = ⟨spec_l8Put.T.ps, spec_l8Put.T.rs, spec_l8Put.T.ev tyt spec_l8Put.tbl k⟩ := congrArg (FnSpec.mk _ _) (funext fun x => ((spec_l8Put.e k (spec_l8Put.T.run tyt spec_l8Put.tbl k) x.1 x.2.1 x.2.2.1 x.2.2.2).trans (by rw [q4]; rfl)).symm)
  rw [e]
  exact h
/-! ### spec_AddBorder: function 49 -/
def spec_AddBorder.m (k : Nat) (a0_0 : Int) (a0_1 : Int) (l0_2 : List Int) (l1 : List Int) : Option (Int × Int × List Int × Bool) := ((spec_l2Good.f k a0_0 a0_1 l0_2).bind fun r1 => (cond (!r1) (some (0, 0, [], false)) ((spec_l8Pattern.f k l1).bind fun r2 => (cond (!r2) (some (0, 0, [], false)) ((spec_l6Blank.f k (w64 (a0_0 + 2)) (w64 (a0_1 + 2))).bind fun r3 => (cond (!r3.2.2.2) (some (0, 0, [], false)) ((spec_l8Length.f k r3.1 r3.2.1).bind fun r4 => ((rem r4 (l1.length : Int)).bind fun q5 => (if ¬ q5 = 0 then (some (0, 0, [], false)) else ((spec_l2Put.f k r3.1 r3.2.1 r3.2.2.1 a0_0 a0_1 l0_2 1 1).bind fun r6 => ((spec_l8Put.f k r6.1 r6.2.1 r6.2.2 l1).bind fun r7 => (some (r7.1, r7.2.1, r7.2.2, true)))))))))))))
def spec_AddBorder.f (k : Nat) (a0_0 : Int) (a0_1 : Int) (l0_2 : List Int) (l1 : List Int) : Option (Int × Int × List Int × Bool) := spec_AddBorder.m k a0_0 a0_1 l0_2 l1
noncomputable def spec_AddBorder.spec (k : Nat) : FnSpec := ⟨[.ag [.d (.int .i64) none, .d (.int .i64) none, .d (.sl (.int .i64)) none], .d (.sl (.int .i64)) none], [.ag [.d (.int .i64) none, .d (.int .i64) none, .d (.sl (.int .i64)) (some 3)], .d .bool none], fun x => spec_AddBorder.f k x.1 x.2.1 x.2.2.1 x.2.2.2⟩
noncomputable def spec_AddBorder.T : FnText := ⟨(conv [] (bodyOf Go.Proofs.Try.f49) 0).1, Go.Proofs.Try.f49.results.toList, 46, [], [.ag [.d (.int .i64) none, .d (.int .i64) none, .d (.sl (.int .i64)) none], .d (.sl (.int .i64)) none], [.ag [.d (.int .i64) none, .d (.int .i64) none, .d (.sl (.int .i64)) (some 3)], .d .bool none]⟩
noncomputable def spec_AddBorder.tbl (k : Nat) : Tbl := [(54, spec_l2Good.spec k), (90, spec_l8Pattern.spec k), (91, spec_l6Blank.spec k), (84, spec_l8Length.spec k), (71, spec_l2Put.spec k), (85, spec_l8Put.spec k)]
theorem spec_AddBorder.e (k : Nat) (o : Nat → St → Option (Int × Int × List Int × Bool)) (a0_0 : Int) (a0_1 : Int) (l0_2 : List Int) (l1 : List Int) : spec_AddBorder.T.main tyt (spec_AddBorder.tbl k) o (a0_0, a0_1, l0_2, l1) = spec_AddBorder.m k a0_0 a0_1 l0_2 l1 := by kernel_rfl
theorem spec_AddBorder.ok : spec_AddBorder.T.ok = true := by kernel_rfl
theorem spec_AddBorder.tblok (k : Nat) : TblOk Go.Proofs.Try.prog (spec_AddBorder.tbl k) := TblOk.cons (spec_l2Good.sound k) (TblOk.cons (spec_l8Pattern.sound k) (TblOk.cons (spec_l6Blank.sound k) (TblOk.cons (spec_l8Length.sound k) (TblOk.cons (spec_l2Put.sound k) (TblOk.cons (spec_l8Put.sound k) (TblOk.nil _))))))
theorem spec_AddBorder.sound (k : Nat) : Sound Go.Proofs.Try.prog 49 (spec_AddBorder.spec k) := by
  have h := fn_ok (F := spec_AddBorder.T) (tbl := spec_AddBorder.tbl) mixed tyok Go.Proofs.Try.func49 (by kernel_rfl) (c0 := bodyOf Go.Proofs.Try.f49) rfl (conv_code _ _ _) rfl rfl spec_AddBorder.ok k (fun j _ => spec_AddBorder.tblok j)
  have e : spec_AddBorder.spec k = ⟨spec_AddBorder.T.ps, spec_AddBorder.T.rs, spec_AddBorder.T.ev tyt spec_AddBorder.tbl k⟩ := congrArg (FnSpec.mk _ _) (funext fun x => ((spec_AddBorder.e k (spec_AddBorder.T.run tyt spec_AddBorder.tbl k) x.1 x.2.1 x.2.2.1 x.2.2.2).trans (by rfl)).symm)
  rw [e]
  exact h
/-! ### impl_in: function 67 -/
def impl_in.m (k : Nat) (a0 : Int) (a1 : Int) (a2 : Int) : Option (Bool) := (if a1 ≤ a0 then (some (decide (a0 ≤ a2))) else (some false))
def impl_in.f (k : Nat) (a0 : Int) (a1 : Int) (a2 : Int) : Option (Bool) := impl_in.m k a0 a1 a2
noncomputable def impl_in.spec (k : Nat) : FnSpec := ⟨[.d (.int .i64) none, .d (.int .i64) none, .d (.int .i64) none], [.d .bool none], fun x => impl_in.f k x.1 x.2.1 x.2.2⟩
noncomputable def impl_in.T : FnText := ⟨(conv [] (bodyOf Go.Proofs.Try.f67) 0).1, Go.Proofs.Try.f67.results.toList, 15, [], [.d (.int .i64) none, .d (.int .i64) none, .d (.int .i64) none], [.d .bool none]⟩
noncomputable def impl_in.tbl (k : Nat) : Tbl := []
theorem impl_in.e (k : Nat) (o : Nat → St → Option (Bool)) (a0 : Int) (a1 : Int) (a2 : Int) : impl_in.T.main tyt (impl_in.tbl k) o (a0, a1, a2) = impl_in.m k a0 a1 a2 := by kernel_rfl
theorem impl_in.ok : impl_in.T.ok = true := by kernel_rfl
theorem impl_in.tblok (k : Nat) : TblOk Go.Proofs.Try.prog (impl_in.tbl k) := TblOk.nil _
theorem impl_in.sound (k : Nat) : Sound Go.Proofs.Try.prog 67 (impl_in.spec k) := by
  have h := fn_ok (F := impl_in.T) (tbl := impl_in.tbl) mixed tyok Go.Proofs.Try.func67 (by kernel_rfl) (c0 := bodyOf Go.Proofs.Try.f67) rfl (conv_code _ _ _) rfl rfl impl_in.ok k (fun j _ => impl_in.tblok j)
  have e : impl_in.spec k = ⟨impl_in.T.ps, impl_in.T.rs, impl_in.T.ev tyt impl_in.tbl k⟩ := congrArg (FnSpec.mk _ _) (funext fun x => ((impl_in.e k (impl_in.T.run tyt impl_in.tbl k) x.1 x.2.1 x.2.2).trans (by rfl)).symm)
  rw [e]
  exact h
/-! ### impl_isSide: function 93 -/
def impl_isSide.m (k : Nat) (a0 : Int) : Option (Bool) := ((impl_in.f k a0 1 8).bind fun r1 => (some r1))
def impl_isSide.f (k : Nat) (a0 : Int) : Option (Bool) := impl_isSide.m k a0
noncomputable def impl_isSide.spec (k : Nat) : FnSpec := ⟨[.d (.int .i64) none], [.d .bool none], fun x => impl_isSide.f k x⟩
noncomputable def impl_isSide.T : FnText := ⟨(conv [] (bodyOf Go.Proofs.Try.f93) 0).1, Go.Proofs.Try.f93.results.toList, 5, [], [.d (.int .i64) none], [.d .bool none]⟩
noncomputable def impl_isSide.tbl (k : Nat) : Tbl := [(67, impl_in.spec k)]
theorem impl_isSide.e (k : Nat) (o : Nat → St → Option (Bool)) (a0 : Int) : impl_isSide.T.main tyt (impl_isSide.tbl k) o a0 = impl_isSide.m k a0 := by kernel_rfl
theorem impl_isSide.ok : impl_isSide.T.ok = true := by kernel_rfl
theorem impl_isSide.tblok (k : Nat) : TblOk Go.Proofs.Try.prog (impl_isSide.tbl k) := TblOk.cons (impl_in.sound k) (TblOk.nil _)
theorem impl_isSide.sound (k : Nat) : Sound Go.Proofs.Try.prog 93 (impl_isSide.spec k) := by
  have h := fn_ok (F := impl_isSide.T) (tbl := impl_isSide.tbl) mixed tyok Go.Proofs.Try.func93 (by kernel_rfl) (c0 := bodyOf Go.Proofs.Try.f93) rfl (conv_code _ _ _) rfl rfl impl_isSide.ok k (fun j _ => impl_isSide.tblok j)
  have e : impl_isSide.spec k = ⟨impl_isSide.T.ps, impl_isSide.T.rs, impl_isSide.T.ev tyt impl_isSide.tbl k⟩ := congrArg (FnSpec.mk _ _) (funext fun x => ((impl_isSide.e k (impl_isSide.T.run tyt impl_isSide.tbl k) x).trans (by rfl)).symm)
  rw [e]
  exact h
/-! ### impl_isColor: function 58 -/
def impl_isColor.m (k : Nat) (a0 : Int) : Option (Bool) := ((impl_in.f k a0 0 5).bind fun r1 => (some r1))
def impl_isColor.f (k : Nat) (a0 : Int) : Option (Bool) := impl_isColor.m k a0
noncomputable def impl_isColor.spec (k : Nat) : FnSpec := ⟨[.d (.int .i64) none], [.d .bool none], fun x => impl_isColor.f k x⟩
noncomputable def impl_isColor.T : FnText := ⟨(conv [] (bodyOf Go.Proofs.Try.f58) 0).1, Go.Proofs.Try.f58.results.toList, 5, [], [.d (.int .i64) none], [.d .bool none]⟩
noncomputable def impl_isColor.tbl (k : Nat) : Tbl := [(67, impl_in.spec k)]
theorem impl_isColor.e (k : Nat) (o : Nat → St → Option (Bool)) (a0 : Int) : impl_isColor.T.main tyt (impl_isColor.tbl k) o a0 = impl_isColor.m k a0 := by kernel_rfl
theorem impl_isColor.ok : impl_isColor.T.ok = true := by kernel_rfl
theorem impl_isColor.tblok (k : Nat) : TblOk Go.Proofs.Try.prog (impl_isColor.tbl k) := TblOk.cons (impl_in.sound k) (TblOk.nil _)
theorem impl_isColor.sound (k : Nat) : Sound Go.Proofs.Try.prog 58 (impl_isColor.spec k) := by
  have h := fn_ok (F := impl_isColor.T) (tbl := impl_isColor.tbl) mixed tyok Go.Proofs.Try.func58 (by kernel_rfl) (c0 := bodyOf Go.Proofs.Try.f58) rfl (conv_code _ _ _) rfl rfl impl_isColor.ok k (fun j _ => impl_isColor.tblok j)
  have e : impl_isColor.spec k = ⟨impl_isColor.T.ps, impl_isColor.T.rs, impl_isColor.T.ev tyt impl_isColor.tbl k⟩ := congrArg (FnSpec.mk _ _) (funext fun x => ((impl_isColor.e k (impl_isColor.T.run tyt impl_isColor.tbl k) x).trans (by rfl)).symm)
  rw [e]
  exact h
/-! ### impl_areAll_int_1__impl_isColor: function 122 -/
def impl_areAll_int_1__impl_isColor.m (k : Nat) (a0 : Int) : Option (Bool) := ((impl_isColor.f k a0).bind fun r1 => (some (!r1)))
def impl_areAll_int_1__impl_isColor.f (k : Nat) (a0 : Int) : Option (Bool) := impl_areAll_int_1__impl_isColor.m k a0
noncomputable def impl_areAll_int_1__impl_isColor.spec (k : Nat) : FnSpec := ⟨[.d (.int .i64) none, .rb [.fv 58 [] []]], [.d .bool none], fun x => impl_areAll_int_1__impl_isColor.f k x⟩
noncomputable def impl_areAll_int_1__impl_isColor.T : FnText := ⟨(conv [] (bodyOf Go.Proofs.Try.f122) 0).1, Go.Proofs.Try.f122.results.toList, 8, [], [.d (.int .i64) none, .rb [.fv 58 [] []]], [.d .bool none]⟩
noncomputable def impl_areAll_int_1__impl_isColor.tbl (k : Nat) : Tbl := [(58, impl_isColor.spec k)]
theorem impl_areAll_int_1__impl_isColor.e (k : Nat) (o : Nat → St → Option (Bool)) (a0 : Int) : impl_areAll_int_1__impl_isColor.T.main tyt (impl_areAll_int_1__impl_isColor.tbl k) o a0 = impl_areAll_int_1__impl_isColor.m k a0 := by kernel_rfl
theorem impl_areAll_int_1__impl_isColor.ok : impl_areAll_int_1__impl_isColor.T.ok = true := by kernel_rfl
theorem impl_areAll_int_1__impl_isColor.tblok (k : Nat) : TblOk Go.Proofs.Try.prog (impl_areAll_int_1__impl_isColor.tbl k) := TblOk.cons (impl_isColor.sound k) (TblOk.nil _)
theorem impl_areAll_int_1__impl_isColor.sound (k : Nat) : Sound Go.Proofs.Try.prog 122 (impl_areAll_int_1__impl_isColor.spec k) := by
  have h := fn_ok (F := impl_areAll_int_1__impl_isColor.T) (tbl := impl_areAll_int_1__impl_isColor.tbl) mixed tyok Go.Proofs.Try.func122 (by kernel_rfl) (c0 := bodyOf Go.Proofs.Try.f122) rfl (conv_code _ _ _) rfl rfl impl_areAll_int_1__impl_isColor.ok k (fun j _ => impl_areAll_int_1__impl_isColor.tblok j)
  have e : impl_areAll_int_1__impl_isColor.spec k = ⟨impl_areAll_int_1__impl_isColor.T.ps, impl_areAll_int_1__impl_isColor.T.rs, impl_areAll_int_1__impl_isColor.T.ev tyt impl_areAll_int_1__impl_isColor.tbl k⟩ := congrArg (FnSpec.mk _ _) (funext fun x => ((impl_areAll_int_1__impl_isColor.e k (impl_areAll_int_1__impl_isColor.T.run tyt impl_areAll_int_1__impl_isColor.tbl k) x).trans (by rfl)).symm)
  rw [e]
  exact h
/-! ### slices_IndexFunc_int_int__impl_areAll_int_1__impl_isColor: function 135 -/
def slices_IndexFunc_int_int__impl_areAll_int_1__impl_isColor.b3 (o3 : List Int → Int → Int → Option (Int)) (k : Nat) (l0_3 : List Int) (x1_3 : Int) (x2_3 : Int) : Option (Int) := (if x2_3 < x1_3 then ((chk l0_3.length x2_3).bind fun i1 => ((impl_areAll_int_1__impl_isColor.f k (l0_3.getD i1 0)).bind fun r2 => (cond r2 (some x2_3) (o3 l0_3 x1_3 (w64 (x2_3 + 1)))))) else (some (-1)))
def slices_IndexFunc_int_int__impl_areAll_int_1__impl_isColor.l3 : Nat → List Int → Int → Int → Option (Int)
  | 0, _, _, _ => none
  | k + 1, l0_3, x1_3, x2_3 => slices_IndexFunc_int_int__impl_areAll_int_1__impl_isColor.b3 (slices_IndexFunc_int_int__impl_areAll_int_1__impl_isColor.l3 k) k l0_3 x1_3 x2_3
def slices_IndexFunc_int_int__impl_areAll_int_1__impl_isColor.m (o3 : List Int → Int → Int → Option (Int)) (k : Nat) (l0 : List Int) : Option (Int) := (o3 l0 (l0.length : Int) 0)
def slices_IndexFunc_int_int__impl_areAll_int_1__impl_isColor.f (k : Nat) (l0 : List Int) : Option (Int) := slices_IndexFunc_int_int__impl_areAll_int_1__impl_isColor.m (slices_IndexFunc_int_int__impl_areAll_int_1__impl_isColor.l3 k) k l0
noncomputable def slices_IndexFunc_int_int__impl_areAll_int_1__impl_isColor.spec (k : Nat) : FnSpec := ⟨[.d (.sl (.int .i64)) none, .fv 122 [] [.rb [.fv 58 [] []]]], [.d (.int .i64) none], fun x => slices_IndexFunc_int_int__impl_areAll_int_1__impl_isColor.f k x⟩
def slices_IndexFunc_int_int__impl_areAll_int_1__impl_isColor.S3 (l0_3 : List Int) (x1_3 : Int) (x2_3 : Int) : St := ⟨[(0, .val (.sl (.int .i64)) l0_3), (1, .fn 122 [] [.cptr [.fn 58 [] []] 0]), (7, .val (.int .i64) x1_3), (8, .val (.int .i64) x2_3)], [], 1000⟩
noncomputable def slices_IndexFunc_int_int__impl_areAll_int_1__impl_isColor.T : FnText := ⟨(conv [] (bodyOf Go.Proofs.Try.f135) 0).1, Go.Proofs.Try.f135.results.toList, 19, [(3, [(0, .rd (.sl (.int .i64))), (1, .as), (7, .rd (.int .i64)), (8, .rd (.int .i64))])], [.d (.sl (.int .i64)) none, .fv 122 [] [.rb [.fv 58 [] []]]], [.d (.int .i64) none]⟩
noncomputable def slices_IndexFunc_int_int__impl_areAll_int_1__impl_isColor.tbl (k : Nat) : Tbl := [(122, impl_areAll_int_1__impl_isColor.spec k)]
theorem slices_IndexFunc_int_int__impl_areAll_int_1__impl_isColor.e3 (k : Nat) (o : Nat → St → Option (Int)) (l0_3 : List Int) (x1_3 : Int) (x2_3 : Int) : slices_IndexFunc_int_int__impl_areAll_int_1__impl_isColor.T.step tyt (slices_IndexFunc_int_int__impl_areAll_int_1__impl_isColor.tbl k) o 3 (slices_IndexFunc_int_int__impl_areAll_int_1__impl_isColor.S3 l0_3 x1_3 x2_3) = slices_IndexFunc_int_int__impl_areAll_int_1__impl_isColor.b3 (fun l0_3 x1_3 x2_3 => o 3 (slices_IndexFunc_int_int__impl_areAll_int_1__impl_isColor.S3 l0_3 x1_3 x2_3)) k l0_3 x1_3 x2_3 := by kernel_rfl
theorem slices_IndexFunc_int_int__impl_areAll_int_1__impl_isColor.e (k : Nat) (o : Nat → St → Option (Int)) (l0 : List Int) : slices_IndexFunc_int_int__impl_areAll_int_1__impl_isColor.T.main tyt (slices_IndexFunc_int_int__impl_areAll_int_1__impl_isColor.tbl k) o l0 = slices_IndexFunc_int_int__impl_areAll_int_1__impl_isColor.m (fun l0_3 x1_3 x2_3 => o 3 (slices_IndexFunc_int_int__impl_areAll_int_1__impl_isColor.S3 l0_3 x1_3 x2_3)) k l0 := by kernel_rfl
theorem slices_IndexFunc_int_int__impl_areAll_int_1__impl_isColor.ok : slices_IndexFunc_int_int__impl_areAll_int_1__impl_isColor.T.ok = true := by kernel_rfl
theorem slices_IndexFunc_int_int__impl_areAll_int_1__impl_isColor.run (k : Nat) : (∀ (l0_3 : List Int) (x1_3 : Int) (x2_3 : Int), slices_IndexFunc_int_int__impl_areAll_int_1__impl_isColor.T.run tyt slices_IndexFunc_int_int__impl_areAll_int_1__impl_isColor.tbl k 3 (slices_IndexFunc_int_int__impl_areAll_int_1__impl_isColor.S3 l0_3 x1_3 x2_3) = slices_IndexFunc_int_int__impl_areAll_int_1__impl_isColor.l3 k l0_3 x1_3 x2_3) := by
  induction k with
  | zero => exact fun l0_3 x1_3 x2_3 => rfl
  | succ k ih =>
    exact fun l0_3 x1_3 x2_3 => by
      have q3 : (fun l0_3 x1_3 x2_3 => slices_IndexFunc_int_int__impl_areAll_int_1__impl_isColor.T.run tyt slices_IndexFunc_int_int__impl_areAll_int_1__impl_isColor.tbl k 3 (slices_IndexFunc_int_int__impl_areAll_int_1__impl_isColor.S3 l0_3 x1_3 x2_3)) = slices_IndexFunc_int_int__impl_areAll_int_1__impl_isColor.l3 k := by funext l0_3 x1_3 x2_3; exact ih l0_3 x1_3 x2_3
      exact (slices_IndexFunc_int_int__impl_areAll_int_1__impl_isColor.e3 k (slices_IndexFunc_int_int__impl_areAll_int_1__impl_isColor.T.run tyt slices_IndexFunc_int_int__impl_areAll_int_1__impl_isColor.tbl k) l0_3 x1_3 x2_3).trans (by rw [q3]; rfl)
theorem slices_IndexFunc_int_int__impl_areAll_int_1__impl_isColor.tblok (k : Nat) : TblOk Go.Proofs.Try.prog (slices_IndexFunc_int_int__impl_areAll_int_1__impl_isColor.tbl k) := TblOk.cons (impl_areAll_int_1__impl_isColor.sound k) (TblOk.nil _)
theorem slices_IndexFunc_int_int__impl_areAll_int_1__impl_isColor.sound (k : Nat) : Sound Go.Proofs.Try.prog 135 (slices_IndexFunc_int_int__impl_areAll_int_1__impl_isColor.spec k) := by
  have h := fn_ok (F := slices_IndexFunc_int_int__impl_areAll_int_1__impl_isColor.T) (tbl := slices_IndexFunc_int_int__impl_areAll_int_1__impl_isColor.tbl) mixed tyok Go.Proofs.Try.func135 (by kernel_rfl) (c0 := bodyOf Go.Proofs.Try.f135) rfl (conv_code _ _ _) rfl rfl slices_IndexFunc_int_int__impl_areAll_int_1__impl_isColor.ok k (fun j _ => slices_IndexFunc_int_int__impl_areAll_int_1__impl_isColor.tblok j)
  have q3 : (fun l0_3 x1_3 x2_3 => slices_IndexFunc_int_int__impl_areAll_int_1__impl_isColor.T.run tyt slices_IndexFunc_int_int__impl_areAll_int_1__impl_isColor.tbl k 3 (slices_IndexFunc_int_int__impl_areAll_int_1__impl_isColor.S3 l0_3 x1_3 x2_3)) = slices_IndexFunc_int_int__impl_areAll_int_1__impl_isColor.l3 k := by funext l0_3 x1_3 x2_3; exact (slices_IndexFunc_int_int__impl_areAll_int_1__impl_isColor.run k) l0_3 x1_3 x2_3
  have e : slices_IndexFunc_int_int__impl_areAll_int_1__impl_isColor.spec k = ⟨slices_IndexFunc_int_int__impl_areAll_int_1__impl_isColor.T.ps, slices_IndexFunc_int_int__impl_areAll_int_1__impl_isColor.T.rs, slices_IndexFunc_int_int__impl_areAll_int_1__impl_isColor.T.ev tyt slices_IndexFunc_int_int__impl_areAll_int_1__impl_isColor.tbl k⟩ := congrArg (FnSpec.mk _ _) (funext fun x => ((slices_IndexFunc_int_int__impl_areAll_int_1__impl_isColor.e k (slices_IndexFunc_int_int__impl_areAll_int_1__impl_isColor.T.run tyt slices_IndexFunc_int_int__impl_areAll_int_1__impl_isColor.tbl k) x).trans (by rw [q3]; rfl)).symm)
  rw [e]
  exact h
/-! ### slices_ContainsFunc_int_int__impl_areAll_int_1__impl_isColor: function 121 -/
def slices_ContainsFunc_int_int__impl_areAll_int_1__impl_isColor.m (k : Nat) (l0 : List Int) : Option (Bool) := ((slices_IndexFunc_int_int__impl_areAll_int_1__impl_isColor.f k l0).bind fun r1 => (some (decide (0 ≤ r1))))
def slices_ContainsFunc_int_int__impl_areAll_int_1__impl_isColor.f (k : Nat) (l0 : List Int) : Option (Bool) := slices_ContainsFunc_int_int__impl_areAll_int_1__impl_isColor.m k l0
noncomputable def slices_ContainsFunc_int_int__impl_areAll_int_1__impl_isColor.spec (k : Nat) : FnSpec := ⟨[.d (.sl (.int .i64)) none, .fv 122 [] [.rb [.fv 58 [] []]]], [.d .bool none], fun x => slices_ContainsFunc_int_int__impl_areAll_int_1__impl_isColor.f k x⟩
noncomputable def slices_ContainsFunc_int_int__impl_areAll_int_1__impl_isColor.T : FnText := ⟨(conv [] (bodyOf Go.Proofs.Try.f121) 0).1, Go.Proofs.Try.f121.results.toList, 9, [], [.d (.sl (.int .i64)) none, .fv 122 [] [.rb [.fv 58 [] []]]], [.d .bool none]⟩
noncomputable def slices_ContainsFunc_int_int__impl_areAll_int_1__impl_isColor.tbl (k : Nat) : Tbl := [(135, slices_IndexFunc_int_int__impl_areAll_int_1__impl_isColor.spec k)]
theorem slices_ContainsFunc_int_int__impl_areAll_int_1__impl_isColor.e (k : Nat) (o : Nat → St → Option (Bool)) (l0 : List Int) : slices_ContainsFunc_int_int__impl_areAll_int_1__impl_isColor.T.main tyt (slices_ContainsFunc_int_int__impl_areAll_int_1__impl_isColor.tbl k) o l0 = slices_ContainsFunc_int_int__impl_areAll_int_1__impl_isColor.m k l0 := by kernel_rfl
theorem slices_ContainsFunc_int_int__impl_areAll_int_1__impl_isColor.ok : slices_ContainsFunc_int_int__impl_areAll_int_1__impl_isColor.T.ok = true := by kernel_rfl
theorem slices_ContainsFunc_int_int__impl_areAll_int_1__impl_isColor.tblok (k : Nat) : TblOk Go.Proofs.Try.prog (slices_ContainsFunc_int_int__impl_areAll_int_1__impl_isColor.tbl k) := TblOk.cons (slices_IndexFunc_int_int__impl_areAll_int_1__impl_isColor.sound k) (TblOk.nil _)
theorem slices_ContainsFunc_int_int__impl_areAll_int_1__impl_isColor.sound (k : Nat) : Sound Go.Proofs.Try.prog 121 (slices_ContainsFunc_int_int__impl_areAll_int_1__impl_isColor.spec k) := by
  have h := fn_ok (F := slices_ContainsFunc_int_int__impl_areAll_int_1__impl_isColor.T) (tbl := slices_ContainsFunc_int_int__impl_areAll_int_1__impl_isColor.tbl) mixed tyok Go.Proofs.Try.func121 (by kernel_rfl) (c0 := bodyOf Go.Proofs.Try.f121) rfl (conv_code _ _ _) rfl rfl slices_ContainsFunc_int_int__impl_areAll_int_1__impl_isColor.ok k (fun j _ => slices_ContainsFunc_int_int__impl_areAll_int_1__impl_isColor.tblok j)
  have e : slices_ContainsFunc_int_int__impl_areAll_int_1__impl_isColor.spec k = ⟨slices_ContainsFunc_int_int__impl_areAll_int_1__impl_isColor.T.ps, slices_ContainsFunc_int_int__impl_areAll_int_1__impl_isColor.T.rs, slices_ContainsFunc_int_int__impl_areAll_int_1__impl_isColor.T.ev tyt slices_ContainsFunc_int_int__impl_areAll_int_1__impl_isColor.tbl k⟩ := congrArg (FnSpec.mk _ _) (funext fun x => ((slices_ContainsFunc_int_int__impl_areAll_int_1__impl_isColor.e k (slices_ContainsFunc_int_int__impl_areAll_int_1__impl_isColor.T.run tyt slices_ContainsFunc_int_int__impl_areAll_int_1__impl_isColor.tbl k) x).trans (by rfl)).symm)
  rw [e]
  exact h
/-! ### impl_areAll_int__impl_isColor: function 88 -/
def impl_areAll_int__impl_isColor.m (k : Nat) (l0 : List Int) : Option (Bool) := ((slices_ContainsFunc_int_int__impl_areAll_int_1__impl_isColor.f k l0).bind fun r1 => (some (!r1)))
def impl_areAll_int__impl_isColor.f (k : Nat) (l0 : List Int) : Option (Bool) := impl_areAll_int__impl_isColor.m k l0
noncomputable def impl_areAll_int__impl_isColor.spec (k : Nat) : FnSpec := ⟨[.d (.sl (.int .i64)) none, .fv 58 [] []], [.d .bool none], fun x => impl_areAll_int__impl_isColor.f k x⟩
noncomputable def impl_areAll_int__impl_isColor.T : FnText := ⟨(conv [] (bodyOf Go.Proofs.Try.f88) 0).1, Go.Proofs.Try.f88.results.toList, 9, [], [.d (.sl (.int .i64)) none, .fv 58 [] []], [.d .bool none]⟩
noncomputable def impl_areAll_int__impl_isColor.tbl (k : Nat) : Tbl := [(121, slices_ContainsFunc_int_int__impl_areAll_int_1__impl_isColor.spec k)]
theorem impl_areAll_int__impl_isColor.e (k : Nat) (o : Nat → St → Option (Bool)) (l0 : List Int) : impl_areAll_int__impl_isColor.T.main tyt (impl_areAll_int__impl_isColor.tbl k) o l0 = impl_areAll_int__impl_isColor.m k l0 := by kernel_rfl
theorem impl_areAll_int__impl_isColor.ok : impl_areAll_int__impl_isColor.T.ok = true := by kernel_rfl
theorem impl_areAll_int__impl_isColor.tblok (k : Nat) : TblOk Go.Proofs.Try.prog (impl_areAll_int__impl_isColor.tbl k) := TblOk.cons (slices_ContainsFunc_int_int__impl_areAll_int_1__impl_isColor.sound k) (TblOk.nil _)
theorem impl_areAll_int__impl_isColor.sound (k : Nat) : Sound Go.Proofs.Try.prog 88 (impl_areAll_int__impl_isColor.spec k) := by
  have h := fn_ok (F := impl_areAll_int__impl_isColor.T) (tbl := impl_areAll_int__impl_isColor.tbl) mixed tyok Go.Proofs.Try.func88 (by kernel_rfl) (c0 := bodyOf Go.Proofs.Try.f88) rfl (conv_code _ _ _) rfl rfl impl_areAll_int__impl_isColor.ok k (fun j _ => impl_areAll_int__impl_isColor.tblok j)
  have e : impl_areAll_int__impl_isColor.spec k = ⟨impl_areAll_int__impl_isColor.T.ps, impl_areAll_int__impl_isColor.T.rs, impl_areAll_int__impl_isColor.T.ev tyt impl_areAll_int__impl_isColor.tbl k⟩ := congrArg (FnSpec.mk _ _) (funext fun x => ((impl_areAll_int__impl_isColor.e k (impl_areAll_int__impl_isColor.T.run tyt impl_areAll_int__impl_isColor.tbl k) x).trans (by rfl)).symm)
  rw [e]
  exact h
/-! ### impl_IsChart: function 57 -/
def impl_IsChart.m (k : Nat) (a0_0 : Int) (a0_1 : Int) (l0_2 : List Int) : Option (Bool) := ((impl_isSide.f k a0_0).bind fun r1 => (cond r1 ((impl_isSide.f k a0_1).bind fun r2 => (cond r2 (if (l0_2.length : Int) = (w64 (a0_0 * a0_1)) then ((impl_areAll_int__impl_isColor.f k l0_2).bind fun r3 => (some r3)) else (some false)) (some false))) (some false)))
def impl_IsChart.f (k : Nat) (a0_0 : Int) (a0_1 : Int) (l0_2 : List Int) : Option (Bool) := impl_IsChart.m k a0_0 a0_1 l0_2
noncomputable def impl_IsChart.spec (k : Nat) : FnSpec := ⟨[.ag [.d (.int .i64) none, .d (.int .i64) none, .d (.sl (.int .i64)) none]], [.d .bool none], fun x => impl_IsChart.f k x.1 x.2.1 x.2.2⟩
noncomputable def impl_IsChart.T : FnText := ⟨(conv [] (bodyOf Go.Proofs.Try.f57) 0).1, Go.Proofs.Try.f57.results.toList, 27, [], [.ag [.d (.int .i64) none, .d (.int .i64) none, .d (.sl (.int .i64)) none]], [.d .bool none]⟩
noncomputable def impl_IsChart.tbl (k : Nat) : Tbl := [(93, impl_isSide.spec k), (88, impl_areAll_int__impl_isColor.spec k)]
theorem impl_IsChart.e (k : Nat) (o : Nat → St → Option (Bool)) (a0_0 : Int) (a0_1 : Int) (l0_2 : List Int) : impl_IsChart.T.main tyt (impl_IsChart.tbl k) o (a0_0, a0_1, l0_2) = impl_IsChart.m k a0_0 a0_1 l0_2 := by kernel_rfl
theorem impl_IsChart.ok : impl_IsChart.T.ok = true := by kernel_rfl
theorem impl_IsChart.tblok (k : Nat) : TblOk Go.Proofs.Try.prog (impl_IsChart.tbl k) := TblOk.cons (impl_isSide.sound k) (TblOk.cons (impl_areAll_int__impl_isColor.sound k) (TblOk.nil _))
theorem impl_IsChart.sound (k : Nat) : Sound Go.Proofs.Try.prog 57 (impl_IsChart.spec k) := by
  have h := fn_ok (F := impl_IsChart.T) (tbl := impl_IsChart.tbl) mixed tyok Go.Proofs.Try.func57 (by kernel_rfl) (c0 := bodyOf Go.Proofs.Try.f57) rfl (conv_code _ _ _) rfl rfl impl_IsChart.ok k (fun j _ => impl_IsChart.tblok j)
  have e : impl_IsChart.spec k = ⟨impl_IsChart.T.ps, impl_IsChart.T.rs, impl_IsChart.T.ev tyt impl_IsChart.tbl k⟩ := congrArg (FnSpec.mk _ _) (funext fun x => ((impl_IsChart.e k (impl_IsChart.T.run tyt impl_IsChart.tbl k) x.1 x.2.1 x.2.2).trans (by rfl)).symm)
  rw [e]
  exact h
/-! ### impl_isPattern: function 92 -/
def impl_isPattern.m (k : Nat) (l0 : List Int) : Option (Bool) := ((impl_in.f k (l0.length : Int) 1 8).bind fun r1 => (cond r1 ((impl_areAll_int__impl_isColor.f k l0).bind fun r2 => (some r2)) (some false)))
def impl_isPattern.f (k : Nat) (l0 : List Int) : Option (Bool) := impl_isPattern.m k l0
noncomputable def impl_isPattern.spec (k : Nat) : FnSpec := ⟨[.d (.sl (.int .i64)) none], [.d .bool none], fun x => impl_isPattern.f k x⟩
noncomputable def impl_isPattern.T : FnText := ⟨(conv [] (bodyOf Go.Proofs.Try.f92) 0).1, Go.Proofs.Try.f92.results.toList, 10, [], [.d (.sl (.int .i64)) none], [.d .bool none]⟩
noncomputable def impl_isPattern.tbl (k : Nat) : Tbl := [(67, impl_in.spec k), (88, impl_areAll_int__impl_isColor.spec k)]
theorem impl_isPattern.e (k : Nat) (o : Nat → St → Option (Bool)) (l0 : List Int) : impl_isPattern.T.main tyt (impl_isPattern.tbl k) o l0 = impl_isPattern.m k l0 := by kernel_rfl
theorem impl_isPattern.ok : impl_isPattern.T.ok = true := by kernel_rfl
theorem impl_isPattern.tblok (k : Nat) : TblOk Go.Proofs.Try.prog (impl_isPattern.tbl k) := TblOk.cons (impl_in.sound k) (TblOk.cons (impl_areAll_int__impl_isColor.sound k) (TblOk.nil _))
theorem impl_isPattern.sound (k : Nat) : Sound Go.Proofs.Try.prog 92 (impl_isPattern.spec k) := by
  have h := fn_ok (F := impl_isPattern.T) (tbl := impl_isPattern.tbl) mixed tyok Go.Proofs.Try.func92 (by kernel_rfl) (c0 := bodyOf Go.Proofs.Try.f92) rfl (conv_code _ _ _) rfl rfl impl_isPattern.ok k (fun j _ => impl_isPattern.tblok j)
  have e : impl_isPattern.spec k = ⟨impl_isPattern.T.ps, impl_isPattern.T.rs, impl_isPattern.T.ev tyt impl_isPattern.tbl k⟩ := congrArg (FnSpec.mk _ _) (funext fun x => ((impl_isPattern.e k (impl_isPattern.T.run tyt impl_isPattern.tbl k) x).trans (by rfl)).symm)
  rw [e]
  exact h
/-! ### impl_AddBorder_1: function 95 -/
def impl_AddBorder_1.m (k : Nat) (a0 : Int) (a1 : Int) : Option (Int) := (some 0)
def impl_AddBorder_1.f (k : Nat) (a0 : Int) (a1 : Int) : Option (Int) := impl_AddBorder_1.m k a0 a1
noncomputable def impl_AddBorder_1.spec (k : Nat) : FnSpec := ⟨[.d (.int .i64) none, .d (.int .i64) none], [.d (.int .i64) none], fun x => impl_AddBorder_1.f k x.1 x.2⟩
noncomputable def impl_AddBorder_1.T : FnText := ⟨(conv [] (bodyOf Go.Proofs.Try.f95) 0).1, Go.Proofs.Try.f95.results.toList, 5, [], [.d (.int .i64) none, .d (.int .i64) none], [.d (.int .i64) none]⟩
noncomputable def impl_AddBorder_1.tbl (k : Nat) : Tbl := []
theorem impl_AddBorder_1.e (k : Nat) (o : Nat → St → Option (Int)) (a0 : Int) (a1 : Int) : impl_AddBorder_1.T.main tyt (impl_AddBorder_1.tbl k) o (a0, a1) = impl_AddBorder_1.m k a0 a1 := by kernel_rfl
theorem impl_AddBorder_1.ok : impl_AddBorder_1.T.ok = true := by kernel_rfl
theorem impl_AddBorder_1.tblok (k : Nat) : TblOk Go.Proofs.Try.prog (impl_AddBorder_1.tbl k) := TblOk.nil _
theorem impl_AddBorder_1.sound (k : Nat) : Sound Go.Proofs.Try.prog 95 (impl_AddBorder_1.spec k) := by
  have h := fn_ok (F := impl_AddBorder_1.T) (tbl := impl_AddBorder_1.tbl) mixed tyok Go.Proofs.Try.func95 (by kernel_rfl) (c0 := bodyOf Go.Proofs.Try.f95) rfl (conv_code _ _ _) rfl rfl impl_AddBorder_1.ok k (fun j _ => impl_AddBorder_1.tblok j)
  have e : impl_AddBorder_1.spec k = ⟨impl_AddBorder_1.T.ps, impl_AddBorder_1.T.rs, impl_AddBorder_1.T.ev tyt impl_AddBorder_1.tbl k⟩ := congrArg (FnSpec.mk _ _) (funext fun x => ((impl_AddBorder_1.e k (impl_AddBorder_1.T.run tyt impl_AddBorder_1.tbl k) x.1 x.2).trans (by rfl)).symm)
  rw [e]
  exact h
/-! ### impl_makeChart__impl_AddBorder_1: function 94 -/
def impl_makeChart__impl_AddBorder_1.b4 (o10 : Int → Int → Int → List Int → Int → Int → List Int → Int → Int → Int → Int → Int → Option (Int × Int × List Int)) (k : Nat) (x0_4 : Int) (x1_4 : Int) (x2_4 : Int) (l3_4 : List Int) (x4_4 : Int) (x5_4 : Int) (l6_4 : List Int) (x7_4 : Int) (x8_4 : Int) : Option (Int × Int × List Int) := (if x8_4 < x7_4 then (o10 x0_4 x1_4 x2_4 l3_4 x4_4 x5_4 l6_4 x8_4 x7_4 x8_4 x0_4 0) else (some (x4_4, x5_4, l6_4)))
def impl_makeChart__impl_AddBorder_1.b10 (o4 : Int → Int → Int → List Int → Int → Int → List Int → Int → Int → Option (Int × Int × List Int)) (o10 : Int → Int → Int → List Int → Int → Int → List Int → Int → Int → Int → Int → Int → Option (Int × Int × List Int)) (k : Nat) (x0_10 : Int) (x1_10 : Int) (x2_10 : Int) (l3_10 : List Int) (x4_10 : Int) (x5_10 : Int) (l6_10 : List Int) (x7_10 : Int) (x8_10 : Int) (x9_10 : Int) (x10_10 : Int) (x11_10 : Int) : Option (Int × Int × List Int) := (if x11_10 < x10_10 then ((impl_AddBorder_1.f k x7_10 x11_10).bind fun r1 => ((app 17592186044416 l6_10 [r1]).bind fun l2 => (o10 x0_10 x1_10 x2_10 l3_10 x4_10 x5_10 l2 x7_10 x8_10 x9_10 x10_10 (w64 (x11_10 + 1))))) else (o4 x0_10 x1_10 x2_10 l3_10 x4_10 x5_10 l6_10 x8_10 (w64 (x9_10 + 1))))
mutual
def impl_makeChart__impl_AddBorder_1.l4 : Nat → Int → Int → Int → List Int → Int → Int → List Int → Int → Int → Option (Int × Int × List Int)
  | 0, _, _, _, _, _, _, _, _, _ => none
  | k + 1, x0_4, x1_4, x2_4, l3_4, x4_4, x5_4, l6_4, x7_4, x8_4 => impl_makeChart__impl_AddBorder_1.b4 (impl_makeChart__impl_AddBorder_1.l10 k) k x0_4 x1_4 x2_4 l3_4 x4_4 x5_4 l6_4 x7_4 x8_4
def impl_makeChart__impl_AddBorder_1.l10 : Nat → Int → Int → Int → List Int → Int → Int → List Int → Int → Int → Int → Int → Int → Option (Int × Int × List Int)
  | 0, _, _, _, _, _, _, _, _, _, _, _, _ => none
  | k + 1, x0_10, x1_10, x2_10, l3_10, x4_10, x5_10, l6_10, x7_10, x8_10, x9_10, x10_10, x11_10 => impl_makeChart__impl_AddBorder_1.b10 (impl_makeChart__impl_AddBorder_1.l4 k) (impl_makeChart__impl_AddBorder_1.l10 k) k x0_10 x1_10 x2_10 l3_10 x4_10 x5_10 l6_10 x7_10 x8_10 x9_10 x10_10 x11_10
end
def impl_makeChart__impl_AddBorder_1.m (o4 : Int → Int → Int → List Int → Int → Int → List Int → Int → Int → Option (Int × Int × List Int)) (k : Nat) (a0 : Int) (a1 : Int) : Option (Int × Int × List Int) := (o4 a0 0 0 [] a0 a1 [] a1 0)
def impl_makeChart__impl_AddBorder_1.f (k : Nat) (a0 : Int) (a1 : Int) : Option (Int × Int × List Int) := impl_makeChart__impl_AddBorder_1.m (impl_makeChart__impl_AddBorder_1.l4 k) k a0 a1
noncomputable def impl_makeChart__impl_AddBorder_1.spec (k : Nat) : FnSpec := ⟨[.d (.int .i64) none, .d (.int .i64) none, .fv 95 [] []], [.ag [.d (.int .i64) none, .d (.int .i64) none, .d (.sl (.int .i64)) (some 3)]], fun x => impl_makeChart__impl_AddBorder_1.f k x.1 x.2⟩
def impl_makeChart__impl_AddBorder_1.S4 (x0_4 : Int) (x1_4 : Int) (x2_4 : Int) (l3_4 : List Int) (x4_4 : Int) (x5_4 : Int) (l6_4 : List Int) (x7_4 : Int) (x8_4 : Int) : St := ⟨[(0, .val (.int .i64) x0_4), (2, .fn 95 [] []), (6, .ptr 100 0), (7, .ptr 101 0), (13, .val (.int .i64) x7_4), (14, .val (.int .i64) x8_4)], [(101, some (.box [.val (.int .i64) x4_4, .val (.int .i64) x5_4, .ref 102])), (102, some (.row 3 (.int .i64) l6_4)), (100, some (.box [.val (.int .i64) x1_4, .val (.int .i64) x2_4, .val (.sl (.int .i64)) l3_4]))], 1000⟩
def impl_makeChart__impl_AddBorder_1.S10 (x0_10 : Int) (x1_10 : Int) (x2_10 : Int) (l3_10 : List Int) (x4_10 : Int) (x5_10 : Int) (l6_10 : List Int) (x7_10 : Int) (x8_10 : Int) (x9_10 : Int) (x10_10 : Int) (x11_10 : Int) : St := ⟨[(0, .val (.int .i64) x0_10), (2, .fn 95 [] []), (6, .ptr 100 0), (7, .ptr 101 0), (8, .val (.int .i64) x7_10), (13, .val (.int .i64) x8_10), (14, .val (.int .i64) x9_10), (17, .val (.int .i64) x10_10), (18, .val (.int .i64) x11_10)], [(101, some (.box [.val (.int .i64) x4_10, .val (.int .i64) x5_10, .ref 102])), (102, some (.row 3 (.int .i64) l6_10)), (100, some (.box [.val (.int .i64) x1_10, .val (.int .i64) x2_10, .val (.sl (.int .i64)) l3_10]))], 1000⟩
noncomputable def impl_makeChart__impl_AddBorder_1.T : FnText := ⟨(conv [] (bodyOf Go.Proofs.Try.f94) 0).1, Go.Proofs.Try.f94.results.toList, 33, [(4, [(0, .rd (.int .i64)), (2, .as), (6, .bx 100 [.rd (.int .i64), .rd (.int .i64), .rd (.sl (.int .i64))]), (7, .bx 101 [.rd (.int .i64), .rd (.int .i64), .own 3 (.int .i64) 102]), (13, .rd (.int .i64)), (14, .rd (.int .i64))]), (10, [(0, .rd (.int .i64)), (2, .as), (6, .bx 100 [.rd (.int .i64), .rd (.int .i64), .rd (.sl (.int .i64))]), (7, .bx 101 [.rd (.int .i64), .rd (.int .i64), .own 3 (.int .i64) 102]), (8, .rd (.int .i64)), (13, .rd (.int .i64)), (14, .rd (.int .i64)), (17, .rd (.int .i64)), (18, .rd (.int .i64))])], [.d (.int .i64) none, .d (.int .i64) none, .fv 95 [] []], [.ag [.d (.int .i64) none, .d (.int .i64) none, .d (.sl (.int .i64)) (some 3)]]⟩
noncomputable def impl_makeChart__impl_AddBorder_1.tbl (k : Nat) : Tbl := [(95, impl_AddBorder_1.spec k)]
theorem impl_makeChart__impl_AddBorder_1.e4 (k : Nat) (o : Nat → St → Option (Int × Int × List Int)) (x0_4 : Int) (x1_4 : Int) (x2_4 : Int) (l3_4 : List Int) (x4_4 : Int) (x5_4 : Int) (l6_4 : List Int) (x7_4 : Int) (x8_4 : Int) : impl_makeChart__impl_AddBorder_1.T.step tyt (impl_makeChart__impl_AddBorder_1.tbl k) o 4 (impl_makeChart__impl_AddBorder_1.S4 x0_4 x1_4 x2_4 l3_4 x4_4 x5_4 l6_4 x7_4 x8_4) = impl_makeChart__impl_AddBorder_1.b4 (fun x0_10 x1_10 x2_10 l3_10 x4_10 x5_10 l6_10 x7_10 x8_10 x9_10 x10_10 x11_10 => o 10 (impl_makeChart__impl_AddBorder_1.S10 x0_10 x1_10 x2_10 l3_10 x4_10 x5_10 l6_10 x7_10 x8_10 x9_10 x10_10 x11_10)) k x0_4 x1_4 x2_4 l3_4 x4_4 x5_4 l6_4 x7_4 x8_4 := by kernel_rfl
theorem impl_makeChart__impl_AddBorder_1.e10 (k : Nat) (o : Nat → St → Option (Int × Int × List Int)) (x0_10 : Int) (x1_10 : Int) (x2_10 : Int) (l3_10 : List Int) (x4_10 : Int) (x5_10 : Int) (l6_10 : List Int) (x7_10 : Int) (x8_10 : Int) (x9_10 : Int) (x10_10 : Int) (x11_10 : Int) : impl_makeChart__impl_AddBorder_1.T.step tyt (impl_makeChart__impl_AddBorder_1.tbl k) o 10 (impl_makeChart__impl_AddBorder_1.S10 x0_10 x1_10 x2_10 l3_10 x4_10 x5_10 l6_10 x7_10 x8_10 x9_10 x10_10 x11_10) = impl_makeChart__impl_AddBorder_1.b10 (fun x0_4 x1_4 x2_4 l3_4 x4_4 x5_4 l6_4 x7_4 x8_4 => o 4 (impl_makeChart__impl_AddBorder_1.S4 x0_4 x1_4 x2_4 l3_4 x4_4 x5_4 l6_4 x7_4 x8_4)) (fun x0_10 x1_10 x2_10 l3_10 x4_10 x5_10 l6_10 x7_10 x8_10 x9_10 x10_10 x11_10 => o 10 (impl_makeChart__impl_AddBorder_1.S10 x0_10 x1_10 x2_10 l3_10 x4_10 x5_10 l6_10 x7_10 x8_10 x9_10 x10_10 x11_10)) k x0_10 x1_10 x2_10 l3_10 x4_10 x5_10 l6_10 x7_10 x8_10 x9_10 x10_10 x11_10 := by kernel_rfl
theorem impl_makeChart__impl_AddBorder_1.e (k : Nat) (o : Nat → St → Option (Int × Int × List Int)) (a0 : Int) (a1 : Int) : impl_makeChart__impl_AddBorder_1.T.main tyt (impl_makeChart__impl_AddBorder_1.tbl k) o (a0, a1) = impl_makeChart__impl_AddBorder_1.m (fun x0_4 x1_4 x2_4 l3_4 x4_4 x5_4 l6_4 x7_4 x8_4 => o 4 (impl_makeChart__impl_AddBorder_1.S4 x0_4 x1_4 x2_4 l3_4 x4_4 x5_4 l6_4 x7_4 x8_4)) k a0 a1 := by kernel_rfl
theorem impl_makeChart__impl_AddBorder_1.ok : impl_makeChart__impl_AddBorder_1.T.ok = true := by kernel_rfl
theorem impl_makeChart__impl_AddBorder_1.run (k : Nat) : (∀ (x0_4 : Int) (x1_4 : Int) (x2_4 : Int) (l3_4 : List Int) (x4_4 : Int) (x5_4 : Int) (l6_4 : List Int) (x7_4 : Int) (x8_4 : Int), impl_makeChart__impl_AddBorder_1.T.run tyt impl_makeChart__impl_AddBorder_1.tbl k 4 (impl_makeChart__impl_AddBorder_1.S4 x0_4 x1_4 x2_4 l3_4 x4_4 x5_4 l6_4 x7_4 x8_4) = impl_makeChart__impl_AddBorder_1.l4 k x0_4 x1_4 x2_4 l3_4 x4_4 x5_4 l6_4 x7_4 x8_4) ∧ (∀ (x0_10 : Int) (x1_10 : Int) (x2_10 : Int) (l3_10 : List Int) (x4_10 : Int) (x5_10 : Int) (l6_10 : List Int) (x7_10 : Int) (x8_10 : Int) (x9_10 : Int) (x10_10 : Int) (x11_10 : Int), impl_makeChart__impl_AddBorder_1.T.run tyt impl_makeChart__impl_AddBorder_1.tbl k 10 (impl_makeChart__impl_AddBorder_1.S10 x0_10 x1_10 x2_10 l3_10 x4_10 x5_10 l6_10 x7_10 x8_10 x9_10 x10_10 x11_10) = impl_makeChart__impl_AddBorder_1.l10 k x0_10 x1_10 x2_10 l3_10 x4_10 x5_10 l6_10 x7_10 x8_10 x9_10 x10_10 x11_10) := by
  induction k with
  | zero => exact ⟨fun x0_4 x1_4 x2_4 l3_4 x4_4 x5_4 l6_4 x7_4 x8_4 => rfl, fun x0_10 x1_10 x2_10 l3_10 x4_10 x5_10 l6_10 x7_10 x8_10 x9_10 x10_10 x11_10 => rfl⟩
  | succ k ih =>
    exact ⟨fun x0_4 x1_4 x2_4 l3_4 x4_4 x5_4 l6_4 x7_4 x8_4 => by
      have q10 : (fun x0_10 x1_10 x2_10 l3_10 x4_10 x5_10 l6_10 x7_10 x8_10 x9_10 x10_10 x11_10 => impl_makeChart__impl_AddBorder_1.T.run tyt impl_makeChart__impl_AddBorder_1.tbl k 10 (impl_makeChart__impl_AddBorder_1.S10 x0_10 x1_10 x2_10 l3_10 x4_10 x5_10 l6_10 x7_10 x8_10 x9_10 x10_10 x11_10)) = impl_makeChart__impl_AddBorder_1.l10 k := by funext x0_10 x1_10 x2_10 l3_10 x4_10 x5_10 l6_10 x7_10 x8_10 x9_10 x10_10 x11_10; exact ih.2 x0_10 x1_10 x2_10 l3_10 x4_10 x5_10 l6_10 x7_10 x8_10 x9_10 x10_10 x11_10
      exact (impl_makeChart__impl_AddBorder_1.e4 k (impl_makeChart__impl_AddBorder_1.T.run tyt impl_makeChart__impl_AddBorder_1.tbl k) x0_4 x1_4 x2_4 l3_4 x4_4 x5_4 l6_4 x7_4 x8_4).trans (by rw [q10]; rfl), fun x0_10 x1_10 x2_10 l3_10 x4_10 x5_10 l6_10 x7_10 x8_10 x9_10 x10_10 x11_10 => by
      have q4 : (fun x0_4 x1_4 x2_4 l3_4 x4_4 x5_4 l6_4 x7_4 x8_4 => impl_makeChart__impl_AddBorder_1.T.run tyt impl_makeChart__impl_AddBorder_1.tbl k 4 (impl_makeChart__impl_AddBorder_1.S4 x0_4 x1_4 x2_4 l3_4 x4_4 x5_4 l6_4 x7_4 x8_4)) = impl_makeChart__impl_AddBorder_1.l4 k := by funext x0_4 x1_4 x2_4 l3_4 x4_4 x5_4 l6_4 x7_4 x8_4; exact ih.1 x0_4 x1_4 x2_4 l3_4 x4_4 x5_4 l6_4 x7_4 x8_4
      have q10 : (fun x0_10 x1_10 x2_10 l3_10 x4_10 x5_10 l6_10 x7_10 x8_10 x9_10 x10_10 x11_10 => impl_makeChart__impl_AddBorder_1.T.run tyt impl_makeChart__impl_AddBorder_1.tbl k 10 (impl_makeChart__impl_AddBorder_1.S10 x0_10 x1_10 x2_10 l3_10 x4_10 x5_10 l6_10 x7_10 x8_10 x9_10 x10_10 x11_10)) = impl_makeChart__impl_AddBorder_1.l10 k := by funext x0_10 x1_10 x2_10 l3_10 x4_10 x5_10 l6_10 x7_10 x8_10 x9_10 x10_10 x11_10; exact ih.2 x0_10 x1_10 x2_10 l3_10 x4_10 x5_10 l6_10 x7_10 x8_10 x9_10 x10_10 x11_10
      exact (impl_makeChart__impl_AddBorder_1.e10 k (impl_makeChart__impl_AddBorder_1.T.run tyt impl_makeChart__impl_AddBorder_1.tbl k) x0_10 x1_10 x2_10 l3_10 x4_10 x5_10 l6_10 x7_10 x8_10 x9_10 x10_10 x11_10).trans (by rw [q4, q10]; rfl)⟩
theorem impl_makeChart__impl_AddBorder_1.tblok (k : Nat) : TblOk Go.Proofs.Try.prog (impl_makeChart__impl_AddBorder_1.tbl k) := TblOk.cons (impl_AddBorder_1.sound k) (TblOk.nil _)
theorem impl_makeChart__impl_AddBorder_1.sound (k : Nat) : Sound Go.Proofs.Try.prog 94 (impl_makeChart__impl_AddBorder_1.spec k) := by
  have h := fn_ok (F := impl_makeChart__impl_AddBorder_1.T) (tbl := impl_makeChart__impl_AddBorder_1.tbl) mixed tyok Go.Proofs.Try.func94 (by kernel_rfl) (c0 := bodyOf Go.Proofs.Try.f94) rfl (conv_code _ _ _) rfl rfl impl_makeChart__impl_AddBorder_1.ok k (fun j _ => impl_makeChart__impl_AddBorder_1.tblok j)
  have q4 : (fun x0_4 x1_4 x2_4 l3_4 x4_4 x5_4 l6_4 x7_4 x8_4 => impl_makeChart__impl_AddBorder_1.T.run tyt impl_makeChart__impl_AddBorder_1.tbl k 4 (impl_makeChart__impl_AddBorder_1.S4 x0_4 x1_4 x2_4 l3_4 x4_4 x5_4 l6_4 x7_4 x8_4)) = impl_makeChart__impl_AddBorder_1.l4 k := by funext x0_4 x1_4 x2_4 l3_4 x4_4 x5_4 l6_4 x7_4 x8_4; exact (impl_makeChart__impl_AddBorder_1.run k).1 x0_4 x1_4 x2_4 l3_4 x4_4 x5_4 l6_4 x7_4 x8_4
  have e : impl_makeChart__impl_AddBorder_1.spec k = ⟨impl_makeChart__impl_AddBorder_1.T.ps, impl_makeChart__impl_AddBorder_1.T.rs, impl_makeChart__impl_AddBorder_1.T.ev tyt impl_makeChart__impl_AddBorder_1.tbl k⟩ := congrArg (FnSpec.mk _ _) (funext fun x => ((impl_makeChart__impl_AddBorder_1.e k (impl_makeChart__impl_AddBorder_1.T.run tyt impl_makeChart__impl_AddBorder_1.tbl k) x.1 x.2).trans (by rw [q4]; rfl)).symm)
  rw [e]
  exact h
/-! ### slices_Clone_int_int: function 103, by hand -/
def slices_Clone_int_int.f (k : Nat) (l0 : List Int) : Option (List Int) := app 17592186044416 ([] : List Int) l0
noncomputable def slices_Clone_int_int.spec (k : Nat) : FnSpec := ⟨[.d (.sl (.int .i64)) none], [.d (.sl (.int .i64)) (some 3)], fun x => slices_Clone_int_int.f k x⟩
theorem slices_Clone_int_int.sound (k : Nat) : Sound Go.Proofs.Try.prog 103 (slices_Clone_int_int.spec k) := clone_ok (t := 22) (e := 3) (ti := tyt22) (ei := tyt3) (nt := Go.Proofs.Try.f103.ntmps) tyok Go.Proofs.Try.func103 (by kernel_rfl) rfl rfl rfl rfl (by decide) rfl rfl ⟨rfl, rfl, rfl⟩ ⟨rfl, rfl, rfl⟩ ⟨rfl, rfl, rfl⟩ ⟨rfl, rfl, rfl⟩ ⟨rfl, rfl, rfl⟩ ⟨rfl, rfl, rfl⟩ ⟨rfl, rfl, rfl⟩ ⟨rfl, rfl, rfl⟩
/-! ### impl_Chart_copied: function 59 -/
def impl_Chart_copied.m (k : Nat) (a0_0 : Int) (a0_1 : Int) (l0_2 : List Int) : Option (Int × Int × List Int) := ((slices_Clone_int_int.f k l0_2).bind fun r1 => (some (a0_0, a0_1, r1)))
def impl_Chart_copied.f (k : Nat) (a0_0 : Int) (a0_1 : Int) (l0_2 : List Int) : Option (Int × Int × List Int) := impl_Chart_copied.m k a0_0 a0_1 l0_2
noncomputable def impl_Chart_copied.spec (k : Nat) : FnSpec := ⟨[.ag [.d (.int .i64) none, .d (.int .i64) none, .d (.sl (.int .i64)) none]], [.ag [.d (.int .i64) none, .d (.int .i64) none, .d (.sl (.int .i64)) (some 3)]], fun x => impl_Chart_copied.f k x.1 x.2.1 x.2.2⟩
noncomputable def impl_Chart_copied.T : FnText := ⟨(conv [] (bodyOf Go.Proofs.Try.f59) 0).1, Go.Proofs.Try.f59.results.toList, 8, [], [.ag [.d (.int .i64) none, .d (.int .i64) none, .d (.sl (.int .i64)) none]], [.ag [.d (.int .i64) none, .d (.int .i64) none, .d (.sl (.int .i64)) (some 3)]]⟩
noncomputable def impl_Chart_copied.tbl (k : Nat) : Tbl := [(103, slices_Clone_int_int.spec k)]
theorem impl_Chart_copied.e (k : Nat) (o : Nat → St → Option (Int × Int × List Int)) (a0_0 : Int) (a0_1 : Int) (l0_2 : List Int) : impl_Chart_copied.T.main tyt (impl_Chart_copied.tbl k) o (a0_0, a0_1, l0_2) = impl_Chart_copied.m k a0_0 a0_1 l0_2 := by kernel_rfl
theorem impl_Chart_copied.ok : impl_Chart_copied.T.ok = true := by kernel_rfl
theorem impl_Chart_copied.tblok (k : Nat) : TblOk Go.Proofs.Try.prog (impl_Chart_copied.tbl k) := TblOk.cons (slices_Clone_int_int.sound k) (TblOk.nil _)
theorem impl_Chart_copied.sound (k : Nat) : Sound Go.Proofs.Try.prog 59 (impl_Chart_copied.spec k) := by
  have h := fn_ok (F := impl_Chart_copied.T) (tbl := impl_Chart_copied.tbl) mixed tyok Go.Proofs.Try.func59 (by kernel_rfl) (c0 := bodyOf Go.Proofs.Try.f59) rfl (conv_code _ _ _) rfl rfl impl_Chart_copied.ok k (fun j _ => impl_Chart_copied.tblok j)
  have e : impl_Chart_copied.spec k = ⟨impl_Chart_copied.T.ps, impl_Chart_copied.T.rs, impl_Chart_copied.T.ev tyt impl_Chart_copied.tbl k⟩ := congrArg (FnSpec.mk _ _) (funext fun x => ((impl_Chart_copied.e k (impl_Chart_copied.T.run tyt impl_Chart_copied.tbl k) x.1 x.2.1 x.2.2).trans (by rfl)).symm)
  rw [e]
  exact h
/-! ### impl_Chart_put: function 73 -/
def impl_Chart_put.b4 (o4 : Int → Int → Int → Int → List Int → Int → Int → List Int → Int → Int → List Int → Int → Int → List Int → Int → Int → Option (Int × Int × List Int)) (k : Nat) (x0_4 : Int) (x1_4 : Int) (x2_4 : Int) (x3_4 : Int) (l4_4 : List Int) (x5_4 : Int) (x6_4 : Int) (l7_4 : List Int) (x8_4 : Int) (x9_4 : Int) (l10_4 : List Int) (x11_4 : Int) (x12_4 : Int) (l13_4 : List Int) (x14_4 : Int) (x15_4 : Int) : Option (Int × Int × List Int) := (if x15_4 < x14_4 then ((cut l13_4.length (w64 ((w64 ((w64 (x0_4 + x15_4)) * x2_4)) + x1_4)) (l13_4.length : Int)).bind fun c2 => ((cut l7_4.length (w64 (x15_4 * x5_4)) (w64 ((w64 (x15_4 + 1)) * x5_4))).bind fun c3 => (o4 x0_4 x1_4 x2_4 x3_4 l4_4 x5_4 x6_4 l7_4 x8_4 x9_4 l10_4 x11_4 x12_4 (lay l13_4 c2.1 c2.2 ((l7_4.drop c3.1).take c3.2)) x14_4 (w64 (x15_4 + 1))))) else (some (x11_4, x12_4, l13_4)))
def impl_Chart_put.l4 : Nat → Int → Int → Int → Int → List Int → Int → Int → List Int → Int → Int → List Int → Int → Int → List Int → Int → Int → Option (Int × Int × List Int)
  | 0, _, _, _, _, _, _, _, _, _, _, _, _, _, _, _, _ => none
  | k + 1, x0_4, x1_4, x2_4, x3_4, l4_4, x5_4, x6_4, l7_4, x8_4, x9_4, l10_4, x11_4, x12_4, l13_4, x14_4, x15_4 => impl_Chart_put.b4 (impl_Chart_put.l4 k) k x0_4 x1_4 x2_4 x3_4 l4_4 x5_4 x6_4 l7_4 x8_4 x9_4 l10_4 x11_4 x12_4 l13_4 x14_4 x15_4
def impl_Chart_put.m (o4 : Int → Int → Int → Int → List Int → Int → Int → List Int → Int → Int → List Int → Int → Int → List Int → Int → Int → Option (Int × Int × List Int)) (k : Nat) (a0_0 : Int) (a0_1 : Int) (l0_2 : List Int) (a1_0 : Int) (a1_1 : Int) (l1_2 : List Int) (a2 : Int) (a3 : Int) : Option (Int × Int × List Int) := ((impl_Chart_copied.f k a0_0 a0_1 l0_2).bind fun r1 => (o4 a2 a3 a0_0 a0_1 l0_2 a1_0 a1_1 l1_2 0 0 [] r1.1 r1.2.1 r1.2.2 a1_1 0))
def impl_Chart_put.f (k : Nat) (a0_0 : Int) (a0_1 : Int) (l0_2 : List Int) (a1_0 : Int) (a1_1 : Int) (l1_2 : List Int) (a2 : Int) (a3 : Int) : Option (Int × Int × List Int) := impl_Chart_put.m (impl_Chart_put.l4 k) k a0_0 a0_1 l0_2 a1_0 a1_1 l1_2 a2 a3
noncomputable def impl_Chart_put.spec (k : Nat) : FnSpec := ⟨[.ag [.d (.int .i64) none, .d (.int .i64) none, .d (.sl (.int .i64)) none], .ag [.d (.int .i64) none, .d (.int .i64) none, .d (.sl (.int .i64)) none], .d (.int .i64) none, .d (.int .i64) none], [.ag [.d (.int .i64) none, .d (.int .i64) none, .d (.sl (.int .i64)) (some 3)]], fun x => impl_Chart_put.f k x.1 x.2.1 x.2.2.1 x.2.2.2.1 x.2.2.2.2.1 x.2.2.2.2.2.1 x.2.2.2.2.2.2.1 x.2.2.2.2.2.2.2⟩
def impl_Chart_put.S4 (x0_4 : Int) (x1_4 : Int) (x2_4 : Int) (x3_4 : Int) (l4_4 : List Int) (x5_4 : Int) (x6_4 : Int) (l7_4 : List Int) (x8_4 : Int) (x9_4 : Int) (l10_4 : List Int) (x11_4 : Int) (x12_4 : Int) (l13_4 : List Int) (x14_4 : Int) (x15_4 : Int) : St := ⟨[(2, .val (.int .i64) x0_4), (3, .val (.int .i64) x1_4), (4, .ptr 100 0), (5, .ptr 101 0), (8, .ptr 102 0), (9, .ptr 103 0), (14, .val (.int .i64) x14_4), (15, .val (.int .i64) x15_4)], [(103, some (.box [.val (.int .i64) x11_4, .val (.int .i64) x12_4, .ref 104])), (104, some (.row 3 (.int .i64) l13_4)), (102, some (.box [.val (.int .i64) x8_4, .val (.int .i64) x9_4, .val (.sl (.int .i64)) l10_4])), (101, some (.box [.val (.int .i64) x5_4, .val (.int .i64) x6_4, .val (.sl (.int .i64)) l7_4])), (100, some (.box [.val (.int .i64) x2_4, .val (.int .i64) x3_4, .val (.sl (.int .i64)) l4_4]))], 1000⟩
noncomputable def impl_Chart_put.T : FnText := ⟨(conv [] (bodyOf Go.Proofs.Try.f73) 0).1, Go.Proofs.Try.f73.results.toList, 44, [(4, [(2, .rd (.int .i64)), (3, .rd (.int .i64)), (4, .bx 100 [.rd (.int .i64), .rd (.int .i64), .rd (.sl (.int .i64))]), (5, .bx 101 [.rd (.int .i64), .rd (.int .i64), .rd (.sl (.int .i64))]), (8, .bx 102 [.rd (.int .i64), .rd (.int .i64), .rd (.sl (.int .i64))]), (9, .bx 103 [.rd (.int .i64), .rd (.int .i64), .own 3 (.int .i64) 104]), (14, .rd (.int .i64)), (15, .rd (.int .i64))])], [.ag [.d (.int .i64) none, .d (.int .i64) none, .d (.sl (.int .i64)) none], .ag [.d (.int .i64) none, .d (.int .i64) none, .d (.sl (.int .i64)) none], .d (.int .i64) none, .d (.int .i64) none], [.ag [.d (.int .i64) none, .d (.int .i64) none, .d (.sl (.int .i64)) (some 3)]]⟩
noncomputable def impl_Chart_put.tbl (k : Nat) : Tbl := [(59, impl_Chart_copied.spec k)]
theorem impl_Chart_put.e4 (k : Nat) (o : Nat → St → Option (Int × Int × List Int)) (x0_4 : Int) (x1_4 : Int) (x2_4 : Int) (x3_4 : Int) (l4_4 : List Int) (x5_4 : Int) (x6_4 : Int) (l7_4 : List Int) (x8_4 : Int) (x9_4 : Int) (l10_4 : List Int) (x11_4 : Int) (x12_4 : Int) (l13_4 : List Int) (x14_4 : Int) (x15_4 : Int) : impl_Chart_put.T.step tyt (impl_Chart_put.tbl k) o 4 (impl_Chart_put.S4 x0_4 x1_4 x2_4 x3_4 l4_4 x5_4 x6_4 l7_4 x8_4 x9_4 l10_4 x11_4 x12_4 l13_4 x14_4 x15_4) = impl_Chart_put.b4 (fun x0_4 x1_4 x2_4 x3_4 l4_4 x5_4 x6_4 l7_4 x8_4 x9_4 l10_4 x11_4 x12_4 l13_4 x14_4 x15_4 => o 4 (impl_Chart_put.S4 x0_4 x1_4 x2_4 x3_4 l4_4 x5_4 x6_4 l7_4 x8_4 x9_4 l10_4 x11_4 x12_4 l13_4 x14_4 x15_4)) k x0_4 x1_4 x2_4 x3_4 l4_4 x5_4 x6_4 l7_4 x8_4 x9_4 l10_4 x11_4 x12_4 l13_4 x14_4 x15_4 := by kernel_rfl
theorem impl_Chart_put.e (k : Nat) (o : Nat → St → Option (Int × Int × List Int)) (a0_0 : Int) (a0_1 : Int) (l0_2 : List Int) (a1_0 : Int) (a1_1 : Int) (l1_2 : List Int) (a2 : Int) (a3 : Int) : impl_Chart_put.T.main tyt (impl_Chart_put.tbl k) o (a0_0, a0_1, l0_2, a1_0, a1_1, l1_2, a2, a3) = impl_Chart_put.m (fun x0_4 x1_4 x2_4 x3_4 l4_4 x5_4 x6_4 l7_4 x8_4 x9_4 l10_4 x11_4 x12_4 l13_4 x14_4 x15_4 => o 4 (impl_Chart_put.S4 x0_4 x1_4 x2_4 x3_4 l4_4 x5_4 x6_4 l7_4 x8_4 x9_4 l10_4 x11_4 x12_4 l13_4 x14_4 x15_4)) k a0_0 a0_1 l0_2 a1_0 a1_1 l1_2 a2 a3 := by kernel_rfl
theorem impl_Chart_put.ok : impl_Chart_put.T.ok = true := by kernel_rfl
theorem impl_Chart_put.run (k : Nat) : (∀ (x0_4 : Int) (x1_4 : Int) (x2_4 : Int) (x3_4 : Int) (l4_4 : List Int) (x5_4 : Int) (x6_4 : Int) (l7_4 : List Int) (x8_4 : Int) (x9_4 : Int) (l10_4 : List Int) (x11_4 : Int) (x12_4 : Int) (l13_4 : List Int) (x14_4 : Int) (x15_4 : Int), impl_Chart_put.T.run tyt impl_Chart_put.tbl k 4 (impl_Chart_put.S4 x0_4 x1_4 x2_4 x3_4 l4_4 x5_4 x6_4 l7_4 x8_4 x9_4 l10_4 x11_4 x12_4 l13_4 x14_4 x15_4) = impl_Chart_put.l4 k x0_4 x1_4 x2_4 x3_4 l4_4 x5_4 x6_4 l7_4 x8_4 x9_4 l10_4 x11_4 x12_4 l13_4 x14_4 x15_4) := by
  induction k with
  | zero => exact fun x0_4 x1_4 x2_4 x3_4 l4_4 x5_4 x6_4 l7_4 x8_4 x9_4 l10_4 x11_4 x12_4 l13_4 x14_4 x15_4 => rfl
  | succ k ih =>
    exact fun x0_4 x1_4 x2_4 x3_4 l4_4 x5_4 x6_4 l7_4 x8_4 x9_4 l10_4 x11_4 x12_4 l13_4 x14_4 x15_4 => by
      have q4 : (fun x0_4 x1_4 x2_4 x3_4 l4_4 x5_4 x6_4 l7_4 x8_4 x9_4 l10_4 x11_4 x12_4 l13_4 x14_4 x15_4 => impl_Chart_put.T.run tyt impl_Chart_put.tbl k 4 (impl_Chart_put.S4 x0_4 x1_4 x2_4 x3_4 l4_4 x5_4 x6_4 l7_4 x8_4 x9_4 l10_4 x11_4 x12_4 l13_4 x14_4 x15_4)) = impl_Chart_put.l4 k := by funext x0_4 x1_4 x2_4 x3_4 l4_4 x5_4 x6_4 l7_4 x8_4 x9_4 l10_4 x11_4 x12_4 l13_4 x14_4 x15_4; exact ih x0_4 x1_4 x2_4 x3_4 l4_4 x5_4 x6_4 l7_4 x8_4 x9_4 l10_4 x11_4 x12_4 l13_4 x14_4 x15_4
      exact (impl_Chart_put.e4 k (impl_Chart_put.T.run tyt impl_Chart_put.tbl k) x0_4 x1_4 x2_4 x3_4 l4_4 x5_4 x6_4 l7_4 x8_4 x9_4 l10_4 x11_4 x12_4 l13_4 x14_4 x15_4).trans (by rw [q4]; rfl)
theorem impl_Chart_put.tblok (k : Nat) : TblOk Go.Proofs.Try.prog (impl_Chart_put.tbl k) := TblOk.cons (impl_Chart_copied.sound k) (TblOk.nil _)
theorem impl_Chart_put.sound (k : Nat) : Sound Go.Proofs.Try.prog 73 (impl_Chart_put.spec k) := by
  have h := fn_ok (F := impl_Chart_put.T) (tbl := impl_Chart_put.tbl) mixed tyok Go.Proofs.Try.func73 (by kernel_rfl) (c0 := bodyOf Go.Proofs.Try.f73) rfl (conv_code _ _ _) rfl rfl impl_Chart_put.ok k (fun j _ => impl_Chart_put.tblok j)
  have q4 : (fun x0_4 x1_4 x2_4 x3_4 l4_4 x5_4 x6_4 l7_4 x8_4 x9_4 l10_4 x11_4 x12_4 l13_4 x14_4 x15_4 => impl_Chart_put.T.run tyt impl_Chart_put.tbl k 4 (impl_Chart_put.S4 x0_4 x1_4 x2_4 x3_4 l4_4 x5_4 x6_4 l7_4 x8_4 x9_4 l10_4 x11_4 x12_4 l13_4 x14_4 x15_4)) = impl_Chart_put.l4 k := by funext x0_4 x1_4 x2_4 x3_4 l4_4 x5_4 x6_4 l7_4 x8_4 x9_4 l10_4 x11_4 x12_4 l13_4 x14_4 x15_4; exact (impl_Chart_put.run k) x0_4 x1_4 x2_4 x3_4 l4_4 x5_4 x6_4 l7_4 x8_4 x9_4 l10_4 x11_4 x12_4 l13_4 x14_4 x15_4
  have e : impl_Chart_put.spec k = ⟨impl_Chart_put.T.ps, impl_Chart_put.T.rs, impl_Chart_put.T.ev tyt impl_Chart_put.tbl k⟩ := congrArg (FnSpec.mk _ _) (funext fun x => ((impl_Chart_put.e k (impl_Chart_put.T.run tyt impl_Chart_put.tbl k) x.1 x.2.1 x.2.2.1 x.2.2.2.1 x.2.2.2.2.1 x.2.2.2.2.2.1 x.2.2.2.2.2.2.1 x.2.2.2.2.2.2.2).trans (by rw [q4]; rfl)).symm)
  rw [e]
  exact h
/-! ### impl_ringLength: function 87 -/
def impl_ringLength.m (k : Nat) (a0 : Int) (a1 : Int) : Option (Int) := (some (w64 ((w64 (2 * (w64 (a0 + a1)))) - 4)))
def impl_ringLength.f (k : Nat) (a0 : Int) (a1 : Int) : Option (Int) := impl_ringLength.m k a0 a1
noncomputable def impl_ringLength.spec (k : Nat) : FnSpec := ⟨[.d (.int .i64) none, .d (.int .i64) none], [.d (.int .i64) none], fun x => impl_ringLength.f k x.1 x.2⟩
noncomputable def impl_ringLength.T : FnText := ⟨(conv [] (bodyOf Go.Proofs.Try.f87) 0).1, Go.Proofs.Try.f87.results.toList, 10, [], [.d (.int .i64) none, .d (.int .i64) none], [.d (.int .i64) none]⟩
noncomputable def impl_ringLength.tbl (k : Nat) : Tbl := []
theorem impl_ringLength.e (k : Nat) (o : Nat → St → Option (Int)) (a0 : Int) (a1 : Int) : impl_ringLength.T.main tyt (impl_ringLength.tbl k) o (a0, a1) = impl_ringLength.m k a0 a1 := by kernel_rfl
theorem impl_ringLength.ok : impl_ringLength.T.ok = true := by kernel_rfl
theorem impl_ringLength.tblok (k : Nat) : TblOk Go.Proofs.Try.prog (impl_ringLength.tbl k) := TblOk.nil _
theorem impl_ringLength.sound (k : Nat) : Sound Go.Proofs.Try.prog 87 (impl_ringLength.spec k) := by
  have h := fn_ok (F := impl_ringLength.T) (tbl := impl_ringLength.tbl) mixed tyok Go.Proofs.Try.func87 (by kernel_rfl) (c0 := bodyOf Go.Proofs.Try.f87) rfl (conv_code _ _ _) rfl rfl impl_ringLength.ok k (fun j _ => impl_ringLength.tblok j)
  have e : impl_ringLength.spec k = ⟨impl_ringLength.T.ps, impl_ringLength.T.rs, impl_ringLength.T.ev tyt impl_ringLength.tbl k⟩ := congrArg (FnSpec.mk _ _) (funext fun x => ((impl_ringLength.e k (impl_ringLength.T.run tyt impl_ringLength.tbl k) x.1 x.2).trans (by rfl)).symm)
  rw [e]
  exact h
/-! ### impl_ringPlaces: function 123 -/
def impl_ringPlaces.b4 (o4 : Int → Int → List Int → Int → Int → Option (List Int)) (o11 : Int → Int → List Int → Int → Option (List Int)) (k : Nat) (x0_4 : Int) (x1_4 : Int) (l2_4 : List Int) (x3_4 : Int) (x4_4 : Int) : Option (List Int) := (if x4_4 < x3_4 then ((app 17592186044416 l2_4 [x4_4]).bind fun l1 => (o4 x0_4 x1_4 l1 x3_4 (w64 (x4_4 + 1)))) else (o11 x0_4 x1_4 l2_4 1))
def impl_ringPlaces.b11 (o11 : Int → Int → List Int → Int → Option (List Int)) (o17 : Int → Int → List Int → Int → Option (List Int)) (k : Nat) (x0_11 : Int) (x1_11 : Int) (l2_11 : List Int) (x3_11 : Int) : Option (List Int) := (if x3_11 < x1_11 then ((app 17592186044416 l2_11 [(w64 ((w64 ((w64 (x3_11 * x0_11)) + x0_11)) - 1))]).bind fun l2 => (o11 x0_11 x1_11 l2 (w64 (x3_11 + 1)))) else (o17 x0_11 x1_11 l2_11 (w64 (x0_11 - 2))))
def impl_ringPlaces.b17 (o17 : Int → Int → List Int → Int → Option (List Int)) (o23 : Int → List Int → Int → Option (List Int)) (k : Nat) (x0_17 : Int) (x1_17 : Int) (l2_17 : List Int) (x3_17 : Int) : Option (List Int) := (if 0 ≤ x3_17 then ((app 17592186044416 l2_17 [(w64 ((w64 ((w64 (x1_17 - 1)) * x0_17)) + x3_17))]).bind fun l3 => (o17 x0_17 x1_17 l3 (w64 (x3_17 - 1)))) else (o23 x0_17 l2_17 (w64 (x1_17 - 2))))
def impl_ringPlaces.b23 (o23 : Int → List Int → Int → Option (List Int)) (k : Nat) (x0_23 : Int) (l1_23 : List Int) (x2_23 : Int) : Option (List Int) := (if 0 < x2_23 then ((app 17592186044416 l1_23 [(w64 (x2_23 * x0_23))]).bind fun l4 => (o23 x0_23 l4 (w64 (x2_23 - 1)))) else (some l1_23))
mutual
def impl_ringPlaces.l4 : Nat → Int → Int → List Int → Int → Int → Option (List Int)
  | 0, _, _, _, _, _ => none
  | k + 1, x0_4, x1_4, l2_4, x3_4, x4_4 => impl_ringPlaces.b4 (impl_ringPlaces.l4 k) (impl_ringPlaces.l11 k) k x0_4 x1_4 l2_4 x3_4 x4_4
def impl_ringPlaces.l11 : Nat → Int → Int → List Int → Int → Option (List Int)
  | 0, _, _, _, _ => none
  | k + 1, x0_11, x1_11, l2_11, x3_11 => impl_ringPlaces.b11 (impl_ringPlaces.l11 k) (impl_ringPlaces.l17 k) k x0_11 x1_11 l2_11 x3_11
def impl_ringPlaces.l17 : Nat → Int → Int → List Int → Int → Option (List Int)
  | 0, _, _, _, _ => none
  | k + 1, x0_17, x1_17, l2_17, x3_17 => impl_ringPlaces.b17 (impl_ringPlaces.l17 k) (impl_ringPlaces.l23 k) k x0_17 x1_17 l2_17 x3_17
def impl_ringPlaces.l23 : Nat → Int → List Int → Int → Option (List Int)
  | 0, _, _, _ => none
  | k + 1, x0_23, l1_23, x2_23 => impl_ringPlaces.b23 (impl_ringPlaces.l23 k) k x0_23 l1_23 x2_23
end
def impl_ringPlaces.m (o4 : Int → Int → List Int → Int → Int → Option (List Int)) (k : Nat) (a0 : Int) (a1 : Int) : Option (List Int) := (o4 a0 a1 ([] : List (Int)) a0 0)
def impl_ringPlaces.f (k : Nat) (a0 : Int) (a1 : Int) : Option (List Int) := impl_ringPlaces.m (impl_ringPlaces.l4 k) k a0 a1
noncomputable def impl_ringPlaces.spec (k : Nat) : FnSpec := ⟨[.d (.int .i64) none, .d (.int .i64) none], [.d (.sl (.int .i64)) (some 3)], fun x => impl_ringPlaces.f k x.1 x.2⟩
def impl_ringPlaces.S4 (x0_4 : Int) (x1_4 : Int) (l2_4 : List Int) (x3_4 : Int) (x4_4 : Int) : St := ⟨[(0, .val (.int .i64) x0_4), (1, .val (.int .i64) x1_4), (5, .ref 100), (11, .val (.int .i64) x3_4), (12, .val (.int .i64) x4_4)], [(100, some (.row 3 (.int .i64) l2_4))], 1000⟩
def impl_ringPlaces.S11 (x0_11 : Int) (x1_11 : Int) (l2_11 : List Int) (x3_11 : Int) : St := ⟨[(0, .val (.int .i64) x0_11), (1, .val (.int .i64) x1_11), (5, .ref 100), (7, .val (.int .i64) x3_11)], [(100, some (.row 3 (.int .i64) l2_11))], 1000⟩
def impl_ringPlaces.S17 (x0_17 : Int) (x1_17 : Int) (l2_17 : List Int) (x3_17 : Int) : St := ⟨[(0, .val (.int .i64) x0_17), (1, .val (.int .i64) x1_17), (5, .ref 100), (8, .val (.int .i64) x3_17)], [(100, some (.row 3 (.int .i64) l2_17))], 1000⟩
def impl_ringPlaces.S23 (x0_23 : Int) (l1_23 : List Int) (x2_23 : Int) : St := ⟨[(0, .val (.int .i64) x0_23), (5, .ref 100), (9, .val (.int .i64) x2_23)], [(100, some (.row 3 (.int .i64) l1_23))], 1000⟩
noncomputable def impl_ringPlaces.T : FnText := ⟨(conv [] (bodyOf Go.Proofs.Try.f123) 0).1, Go.Proofs.Try.f123.results.toList, 62, [(4, [(0, .rd (.int .i64)), (1, .rd (.int .i64)), (5, .own 3 (.int .i64) 100), (11, .rd (.int .i64)), (12, .rd (.int .i64))]), (11, [(0, .rd (.int .i64)), (1, .rd (.int .i64)), (5, .own 3 (.int .i64) 100), (7, .rd (.int .i64))]), (17, [(0, .rd (.int .i64)), (1, .rd (.int .i64)), (5, .own 3 (.int .i64) 100), (8, .rd (.int .i64))]), (23, [(0, .rd (.int .i64)), (5, .own 3 (.int .i64) 100), (9, .rd (.int .i64))])], [.d (.int .i64) none, .d (.int .i64) none], [.d (.sl (.int .i64)) (some 3)]⟩
noncomputable def impl_ringPlaces.tbl (k : Nat) : Tbl := []
theorem impl_ringPlaces.e4 (k : Nat) (o : Nat → St → Option (List Int)) (x0_4 : Int) (x1_4 : Int) (l2_4 : List Int) (x3_4 : Int) (x4_4 : Int) : impl_ringPlaces.T.step tyt (impl_ringPlaces.tbl k) o 4 (impl_ringPlaces.S4 x0_4 x1_4 l2_4 x3_4 x4_4) = impl_ringPlaces.b4 (fun x0_4 x1_4 l2_4 x3_4 x4_4 => o 4 (impl_ringPlaces.S4 x0_4 x1_4 l2_4 x3_4 x4_4)) (fun x0_11 x1_11 l2_11 x3_11 => o 11 (impl_ringPlaces.S11 x0_11 x1_11 l2_11 x3_11)) k x0_4 x1_4 l2_4 x3_4 x4_4 := by kernel_rfl
theorem impl_ringPlaces.e11 (k : Nat) (o : Nat → St → Option (List Int)) (x0_11 : Int) (x1_11 : Int) (l2_11 : List Int) (x3_11 : Int) : impl_ringPlaces.T.step tyt (impl_ringPlaces.tbl k) o 11 (impl_ringPlaces.S11 x0_11 x1_11 l2_11 x3_11) = impl_ringPlaces.b11 (fun x0_11 x1_11 l2_11 x3_11 => o 11 (impl_ringPlaces.S11 x0_11 x1_11 l2_11 x3_11)) (fun x0_17 x1_17 l2_17 x3_17 => o 17 (impl_ringPlaces.S17 x0_17 x1_17 l2_17 x3_17)) k x0_11 x1_11 l2_11 x3_11 := by kernel_rfl
theorem impl_ringPlaces.e17 (k : Nat) (o : Nat → St → Option (List Int)) (x0_17 : Int) (x1_17 : Int) (l2_17 : List Int) (x3_17 : Int) : impl_ringPlaces.T.step tyt (impl_ringPlaces.tbl k) o 17 (impl_ringPlaces.S17 x0_17 x1_17 l2_17 x3_17) = impl_ringPlaces.b17 (fun x0_17 x1_17 l2_17 x3_17 => o 17 (impl_ringPlaces.S17 x0_17 x1_17 l2_17 x3_17)) (fun x0_23 l1_23 x2_23 => o 23 (impl_ringPlaces.S23 x0_23 l1_23 x2_23)) k x0_17 x1_17 l2_17 x3_17 := by kernel_rfl
theorem impl_ringPlaces.e23 (k : Nat) (o : Nat → St → Option (List Int)) (x0_23 : Int) (l1_23 : List Int) (x2_23 : Int) : impl_ringPlaces.T.step tyt (impl_ringPlaces.tbl k) o 23 (impl_ringPlaces.S23 x0_23 l1_23 x2_23) = impl_ringPlaces.b23 (fun x0_23 l1_23 x2_23 => o 23 (impl_ringPlaces.S23 x0_23 l1_23 x2_23)) k x0_23 l1_23 x2_23 := by kernel_rfl
theorem impl_ringPlaces.e (k : Nat) (o : Nat → St → Option (List Int)) (a0 : Int) (a1 : Int) : impl_ringPlaces.T.main tyt (impl_ringPlaces.tbl k) o (a0, a1) = impl_ringPlaces.m (fun x0_4 x1_4 l2_4 x3_4 x4_4 => o 4 (impl_ringPlaces.S4 x0_4 x1_4 l2_4 x3_4 x4_4)) k a0 a1 := by kernel_rfl
theorem impl_ringPlaces.ok : impl_ringPlaces.T.ok = true := by kernel_rfl
theorem impl_ringPlaces.run (k : Nat) : (∀ (x0_4 : Int) (x1_4 : Int) (l2_4 : List Int) (x3_4 : Int) (x4_4 : Int), impl_ringPlaces.T.run tyt impl_ringPlaces.tbl k 4 (impl_ringPlaces.S4 x0_4 x1_4 l2_4 x3_4 x4_4) = impl_ringPlaces.l4 k x0_4 x1_4 l2_4 x3_4 x4_4) ∧ (∀ (x0_11 : Int) (x1_11 : Int) (l2_11 : List Int) (x3_11 : Int), impl_ringPlaces.T.run tyt impl_ringPlaces.tbl k 11 (impl_ringPlaces.S11 x0_11 x1_11 l2_11 x3_11) = impl_ringPlaces.l11 k x0_11 x1_11 l2_11 x3_11) ∧ (∀ (x0_17 : Int) (x1_17 : Int) (l2_17 : List Int) (x3_17 : Int), impl_ringPlaces.T.run tyt impl_ringPlaces.tbl k 17 (impl_ringPlaces.S17 x0_17 x1_17 l2_17 x3_17) = impl_ringPlaces.l17 k x0_17 x1_17 l2_17 x3_17) ∧ (∀ (x0_23 : Int) (l1_23 : List Int) (x2_23 : Int), impl_ringPlaces.T.run tyt impl_ringPlaces.tbl k 23 (impl_ringPlaces.S23 x0_23 l1_23 x2_23) = impl_ringPlaces.l23 k x0_23 l1_23 x2_23) := by
  induction k with
  | zero => exact ⟨fun x0_4 x1_4 l2_4 x3_4 x4_4 => rfl, fun x0_11 x1_11 l2_11 x3_11 => rfl, fun x0_17 x1_17 l2_17 x3_17 => rfl, fun x0_23 l1_23 x2_23 => rfl⟩
  | succ k ih =>
    exact ⟨fun x0_4 x1_4 l2_4 x3_4 x4_4 => by
      have q4 : (fun x0_4 x1_4 l2_4 x3_4 x4_4 => impl_ringPlaces.T.run tyt impl_ringPlaces.tbl k 4 (impl_ringPlaces.S4 x0_4 x1_4 l2_4 x3_4 x4_4)) = impl_ringPlaces.l4 k := by funext x0_4 x1_4 l2_4 x3_4 x4_4; exact ih.1 x0_4 x1_4 l2_4 x3_4 x4_4
      have q11 : (fun x0_11 x1_11 l2_11 x3_11 => impl_ringPlaces.T.run tyt impl_ringPlaces.tbl k 11 (impl_ringPlaces.S11 x0_11 x1_11 l2_11 x3_11)) = impl_ringPlaces.l11 k := by funext x0_11 x1_11 l2_11 x3_11; exact ih.2.1 x0_11 x1_11 l2_11 x3_11
      exact (impl_ringPlaces.e4 k (impl_ringPlaces.T.run tyt impl_ringPlaces.tbl k) x0_4 x1_4 l2_4 x3_4 x4_4).trans (by rw [q4, q11]; rfl), fun x0_11 x1_11 l2_11 x3_11 => by
      have q11 : (fun x0_11 x1_11 l2_11 x3_11 => impl_ringPlaces.T.run tyt impl_ringPlaces.tbl k 11 (impl_ringPlaces.S11 x0_11 x1_11 l2_11 x3_11)) = impl_ringPlaces.l11 k := by funext x0_11 x1_11 l2_11 x3_11; exact ih.2.1 x0_11 x1_11 l2_11 x3_11
      have q17 : (fun x0_17 x1_17 l2_17 x3_17 => impl_ringPlaces.T.run tyt impl_ringPlaces.tbl k 17 (impl_ringPlaces.S17 x0_17 x1_17 l2_17 x3_17)) = impl_ringPlaces.l17 k := by funext x0_17 x1_17 l2_17 x3_17; exact ih.2.2.1 x0_17 x1_17 l2_17 x3_17
      exact (impl_ringPlaces.e11 k (impl_ringPlaces.T.run tyt impl_ringPlaces.tbl k) x0_11 x1_11 l2_11 x3_11).trans (by rw [q11, q17]; rfl), fun x0_17 x1_17 l2_17 x3_17 => by
      have q17 : (fun x0_17 x1_17 l2_17 x3_17 => impl_ringPlaces.T.run tyt impl_ringPlaces.tbl k 17 (impl_ringPlaces.S17 x0_17 x1_17 l2_17 x3_17)) = impl_ringPlaces.l17 k := by funext x0_17 x1_17 l2_17 x3_17; exact ih.2.2.1 x0_17 x1_17 l2_17 x3_17
      have q23 : (fun x0_23 l1_23 x2_23 => impl_ringPlaces.T.run tyt impl_ringPlaces.tbl k 23 (impl_ringPlaces.S23 x0_23 l1_23 x2_23)) = impl_ringPlaces.l23 k := by funext x0_23 l1_23 x2_23; exact ih.2.2.2 x0_23 l1_23 x2_23
      exact (impl_ringPlaces.e17 k (impl_ringPlaces.T.run tyt impl_ringPlaces.tbl k) x0_17 x1_17 l2_17 x3_17).trans (by rw [q17, q23]; rfl), fun x0_23 l1_23 x2_23 => by
      have q23 : (fun x0_23 l1_23 x2_23 => impl_ringPlaces.T.run tyt impl_ringPlaces.tbl k 23 (impl_ringPlaces.S23 x0_23 l1_23 x2_23)) = impl_ringPlaces.l23 k := by funext x0_23 l1_23 x2_23; exact ih.2.2.2 x0_23 l1_23 x2_23
      exact (impl_ringPlaces.e23 k (impl_ringPlaces.T.run tyt impl_ringPlaces.tbl k) x0_23 l1_23 x2_23).trans (by rw [q23]; rfl)⟩
theorem impl_ringPlaces.tblok (k : Nat) : TblOk Go.Proofs.Try.prog (impl_ringPlaces.tbl k) := TblOk.nil _
theorem impl_ringPlaces.sound (k : Nat) : Sound Go.Proofs.Try.prog 123 (impl_ringPlaces.spec k) := by
  have h := fn_ok (F := impl_ringPlaces.T) (tbl := impl_ringPlaces.tbl) mixed tyok Go.Proofs.Try.func123 (by kernel_rfl) (c0 := bodyOf Go.Proofs.Try.f123) rfl (conv_code _ _ _) rfl rfl impl_ringPlaces.ok k (fun j _ => impl_ringPlaces.tblok j)
  have q4 : (fun x0_4 x1_4 l2_4 x3_4 x4_4 => impl_ringPlaces.T.run tyt impl_ringPlaces.tbl k 4 (impl_ringPlaces.S4 x0_4 x1_4 l2_4 x3_4 x4_4)) = impl_ringPlaces.l4 k := by funext x0_4 x1_4 l2_4 x3_4 x4_4; exact (impl_ringPlaces.run k).1 x0_4 x1_4 l2_4 x3_4 x4_4
  have e : impl_ringPlaces.spec k = ⟨impl_ringPlaces.T.ps, impl_ringPlaces.T.rs, impl_ringPlaces.T.ev tyt impl_ringPlaces.tbl k⟩ := congrArg (FnSpec.mk _ _) (funext fun x => ((impl_ringPlaces.e k (impl_ringPlaces.T.run tyt impl_ringPlaces.tbl k) x.1 x.2).trans (by rw [q4]; rfl)).symm)
  rw [e]
  exact h
/-! ### impl_Chart_withRing: function 89 -/
def impl_Chart_withRing.b4 (o4 : List Int → Int → Int → List Int → Int → Int → List Int → List Int → Int → Int → Option (Int × Int × List Int)) (k : Nat) (l0_4 : List Int) (x1_4 : Int) (x2_4 : Int) (l3_4 : List Int) (x4_4 : Int) (x5_4 : Int) (l6_4 : List Int) (l7_4 : List Int) (x8_4 : Int) (x9_4 : Int) : Option (Int × Int × List Int) := (if x9_4 < x8_4 then ((chk l7_4.length x9_4).bind fun i3 => ((rem x9_4 (l0_4.length : Int)).bind fun q4 => ((chk l0_4.length q4).bind fun i5 => ((chk l6_4.length (l7_4.getD i3 0)).bind fun i6 => (o4 l0_4 x1_4 x2_4 l3_4 x4_4 x5_4 (l6_4.set i6 (l0_4.getD i5 0)) l7_4 x8_4 (w64 (x9_4 + 1))))))) else (some (x4_4, x5_4, l6_4)))
def impl_Chart_withRing.l4 : Nat → List Int → Int → Int → List Int → Int → Int → List Int → List Int → Int → Int → Option (Int × Int × List Int)
  | 0, _, _, _, _, _, _, _, _, _, _ => none
  | k + 1, l0_4, x1_4, x2_4, l3_4, x4_4, x5_4, l6_4, l7_4, x8_4, x9_4 => impl_Chart_withRing.b4 (impl_Chart_withRing.l4 k) k l0_4 x1_4 x2_4 l3_4 x4_4 x5_4 l6_4 l7_4 x8_4 x9_4
def impl_Chart_withRing.m (o4 : List Int → Int → Int → List Int → Int → Int → List Int → List Int → Int → Int → Option (Int × Int × List Int)) (k : Nat) (a0_0 : Int) (a0_1 : Int) (l0_2 : List Int) (l1 : List Int) : Option (Int × Int × List Int) := ((impl_Chart_copied.f k a0_0 a0_1 l0_2).bind fun r1 => ((impl_ringPlaces.f k a0_0 a0_1).bind fun r2 => (o4 l1 0 0 [] r1.1 r1.2.1 r1.2.2 r2 (r2.length : Int) 0)))
def impl_Chart_withRing.f (k : Nat) (a0_0 : Int) (a0_1 : Int) (l0_2 : List Int) (l1 : List Int) : Option (Int × Int × List Int) := impl_Chart_withRing.m (impl_Chart_withRing.l4 k) k a0_0 a0_1 l0_2 l1
noncomputable def impl_Chart_withRing.spec (k : Nat) : FnSpec := ⟨[.ag [.d (.int .i64) none, .d (.int .i64) none, .d (.sl (.int .i64)) none], .d (.sl (.int .i64)) none], [.ag [.d (.int .i64) none, .d (.int .i64) none, .d (.sl (.int .i64)) (some 3)]], fun x => impl_Chart_withRing.f k x.1 x.2.1 x.2.2.1 x.2.2.2⟩
def impl_Chart_withRing.S4 (l0_4 : List Int) (x1_4 : Int) (x2_4 : Int) (l3_4 : List Int) (x4_4 : Int) (x5_4 : Int) (l6_4 : List Int) (l7_4 : List Int) (x8_4 : Int) (x9_4 : Int) : St := ⟨[(1, .val (.sl (.int .i64)) l0_4), (4, .ptr 100 0), (5, .ptr 101 0), (14, .ref 103), (15, .val (.int .i64) x8_4), (16, .val (.int .i64) x9_4)], [(103, some (.row 3 (.int .i64) l7_4)), (101, some (.box [.val (.int .i64) x4_4, .val (.int .i64) x5_4, .ref 102])), (102, some (.row 3 (.int .i64) l6_4)), (100, some (.box [.val (.int .i64) x1_4, .val (.int .i64) x2_4, .val (.sl (.int .i64)) l3_4]))], 1000⟩
noncomputable def impl_Chart_withRing.T : FnText := ⟨(conv [] (bodyOf Go.Proofs.Try.f89) 0).1, Go.Proofs.Try.f89.results.toList, 34, [(4, [(1, .rd (.sl (.int .i64))), (4, .bx 100 [.rd (.int .i64), .rd (.int .i64), .rd (.sl (.int .i64))]), (5, .bx 101 [.rd (.int .i64), .rd (.int .i64), .own 3 (.int .i64) 102]), (14, .own 3 (.int .i64) 103), (15, .rd (.int .i64)), (16, .rd (.int .i64))])], [.ag [.d (.int .i64) none, .d (.int .i64) none, .d (.sl (.int .i64)) none], .d (.sl (.int .i64)) none], [.ag [.d (.int .i64) none, .d (.int .i64) none, .d (.sl (.int .i64)) (some 3)]]⟩
noncomputable def impl_Chart_withRing.tbl (k : Nat) : Tbl := [(59, impl_Chart_copied.spec k), (123, impl_ringPlaces.spec k)]
theorem impl_Chart_withRing.e4 (k : Nat) (o : Nat → St → Option (Int × Int × List Int)) (l0_4 : List Int) (x1_4 : Int) (x2_4 : Int) (l3_4 : List Int) (x4_4 : Int) (x5_4 : Int) (l6_4 : List Int) (l7_4 : List Int) (x8_4 : Int) (x9_4 : Int) : impl_Chart_withRing.T.step tyt (impl_Chart_withRing.tbl k) o 4 (impl_Chart_withRing.S4 l0_4 x1_4 x2_4 l3_4 x4_4 x5_4 l6_4 l7_4 x8_4 x9_4) = impl_Chart_withRing.b4 (fun l0_4 x1_4 x2_4 l3_4 x4_4 x5_4 l6_4 l7_4 x8_4 x9_4 => o 4 (impl_Chart_withRing.S4 l0_4 x1_4 x2_4 l3_4 x4_4 x5_4 l6_4 l7_4 x8_4 x9_4)) k l0_4 x1_4 x2_4 l3_4 x4_4 x5_4 l6_4 l7_4 x8_4 x9_4 := by kernel_rfl
theorem impl_Chart_withRing.e (k : Nat) (o : Nat → St → Option (Int × Int × List Int)) (a0_0 : Int) (a0_1 : Int) (l0_2 : List Int) (l1 : List Int) : impl_Chart_withRing.T.main tyt (impl_Chart_withRing.tbl k) o (a0_0, a0_1, l0_2, l1) = impl_Chart_withRing.m (fun l0_4 x1_4 x2_4 l3_4 x4_4 x5_4 l6_4 l7_4 x8_4 x9_4 => o 4 (impl_Chart_withRing.S4 l0_4 x1_4 x2_4 l3_4 x4_4 x5_4 l6_4 l7_4 x8_4 x9_4)) k a0_0 a0_1 l0_2 l1 := by kernel_rfl
theorem impl_Chart_withRing.ok : impl_Chart_withRing.T.ok = true := by kernel_rfl
theorem impl_Chart_withRing.run (k : Nat) : (∀ (l0_4 : List Int) (x1_4 : Int) (x2_4 : Int) (l3_4 : List Int) (x4_4 : Int) (x5_4 : Int) (l6_4 : List Int) (l7_4 : List Int) (x8_4 : Int) (x9_4 : Int), impl_Chart_withRing.T.run tyt impl_Chart_withRing.tbl k 4 (impl_Chart_withRing.S4 l0_4 x1_4 x2_4 l3_4 x4_4 x5_4 l6_4 l7_4 x8_4 x9_4) = impl_Chart_withRing.l4 k l0_4 x1_4 x2_4 l3_4 x4_4 x5_4 l6_4 l7_4 x8_4 x9_4) := by
  induction k with
  | zero => exact fun l0_4 x1_4 x2_4 l3_4 x4_4 x5_4 l6_4 l7_4 x8_4 x9_4 => rfl
  | succ k ih =>
    exact fun l0_4 x1_4 x2_4 l3_4 x4_4 x5_4 l6_4 l7_4 x8_4 x9_4 => by
      have q4 : (fun l0_4 x1_4 x2_4 l3_4 x4_4 x5_4 l6_4 l7_4 x8_4 x9_4 => impl_Chart_withRing.T.run tyt impl_Chart_withRing.tbl k 4 (impl_Chart_withRing.S4 l0_4 x1_4 x2_4 l3_4 x4_4 x5_4 l6_4 l7_4 x8_4 x9_4)) = impl_Chart_withRing.l4 k := by funext l0_4 x1_4 x2_4 l3_4 x4_4 x5_4 l6_4 l7_4 x8_4 x9_4; exact ih l0_4 x1_4 x2_4 l3_4 x4_4 x5_4 l6_4 l7_4 x8_4 x9_4
      exact (impl_Chart_withRing.e4 k (impl_Chart_withRing.T.run tyt impl_Chart_withRing.tbl k) l0_4 x1_4 x2_4 l3_4 x4_4 x5_4 l6_4 l7_4 x8_4 x9_4).trans (by rw [q4]; rfl)
theorem impl_Chart_withRing.tblok (k : Nat) : TblOk Go.Proofs.Try.prog (impl_Chart_withRing.tbl k) := TblOk.cons (impl_Chart_copied.sound k) (TblOk.cons (impl_ringPlaces.sound k) (TblOk.nil _))
theorem impl_Chart_withRing.sound (k : Nat) : Sound Go.Proofs.Try.prog 89 (impl_Chart_withRing.spec k) := by
  have h := fn_ok (F := impl_Chart_withRing.T) (tbl := impl_Chart_withRing.tbl) mixed tyok Go.Proofs.Try.func89 (by kernel_rfl) (c0 := bodyOf Go.Proofs.Try.f89) rfl (conv_code _ _ _) rfl rfl impl_Chart_withRing.ok k (fun j _ => impl_Chart_withRing.tblok j)
  have q4 : (fun l0_4 x1_4 x2_4 l3_4 x4_4 x5_4 l6_4 l7_4 x8_4 x9_4 => impl_Chart_withRing.T.run tyt impl_Chart_withRing.tbl k 4 (impl_Chart_withRing.S4 l0_4 x1_4 x2_4 l3_4 x4_4 x5_4 l6_4 l7_4 x8_4 x9_4)) = impl_Chart_withRing.l4 k := by funext l0_4 x1_4 x2_4 l3_4 x4_4 x5_4 l6_4 l7_4 x8_4 x9_4; exact (impl_Chart_withRing.run k) l0_4 x1_4 x2_4 l3_4 x4_4 x5_4 l6_4 l7_4 x8_4 x9_4
  have e : impl_Chart_withRing.spec k = ⟨impl_Chart_withRing.T.ps, impl_Chart_withRing.T.rs, impl_Chart_withRing.T.ev tyt impl_Chart_withRing.tbl k⟩ := congrArg (FnSpec.mk _ _) (funext fun x => ((impl_Chart_withRing.e k (impl_Chart_withRing.T.run tyt impl_Chart_withRing.tbl k) x.1 x.2.1 x.2.2.1 x.2.2.2).trans (by rw [q4]; rfl)).symm)
  rw [e]
  exact h
/-! ### impl_AddBorder: function 50 -/
def impl_AddBorder.m (k : Nat) (a0_0 : Int) (a0_1 : Int) (l0_2 : List Int) (l1 : List Int) : Option (Int × Int × List Int × Bool) := ((impl_IsChart.f k a0_0 a0_1 l0_2).bind fun r1 => (cond (!r1) (some (0, 0, [], false)) ((impl_isPattern.f k l1).bind fun r2 => (cond (!r2) (some (0, 0, [], false)) ((impl_isSide.f k (w64 (a0_0 + 2))).bind fun r3 => (cond (!r3) (some (0, 0, [], false)) ((impl_isSide.f k (w64 (a0_1 + 2))).bind fun r4 => (cond (!r4) (some (0, 0, [], false)) ((impl_makeChart__impl_AddBorder_1.f k (w64 (a0_0 + 2)) (w64 (a0_1 + 2))).bind fun r5 => ((impl_Chart_put.f k r5.1 r5.2.1 r5.2.2 a0_0 a0_1 l0_2 1 1).bind fun r6 => ((impl_ringLength.f k r6.1 r6.2.1).bind fun r7 => ((rem r7 (l1.length : Int)).bind fun q8 => (if ¬ q8 = 0 then (some (0, 0, [], false)) else ((impl_Chart_withRing.f k r6.1 r6.2.1 r6.2.2 l1).bind fun r9 => (some (r9.1, r9.2.1, r9.2.2, true))))))))))))))))
def impl_AddBorder.f (k : Nat) (a0_0 : Int) (a0_1 : Int) (l0_2 : List Int) (l1 : List Int) : Option (Int × Int × List Int × Bool) := impl_AddBorder.m k a0_0 a0_1 l0_2 l1
noncomputable def impl_AddBorder.spec (k : Nat) : FnSpec := ⟨[.ag [.d (.int .i64) none, .d (.int .i64) none, .d (.sl (.int .i64)) none], .d (.sl (.int .i64)) none], [.ag [.d (.int .i64) none, .d (.int .i64) none, .d (.sl (.int .i64)) (some 3)], .d .bool none], fun x => impl_AddBorder.f k x.1 x.2.1 x.2.2.1 x.2.2.2⟩
noncomputable def impl_AddBorder.T : FnText := ⟨(conv [] (bodyOf Go.Proofs.Try.f50) 0).1, Go.Proofs.Try.f50.results.toList, 52, [], [.ag [.d (.int .i64) none, .d (.int .i64) none, .d (.sl (.int .i64)) none], .d (.sl (.int .i64)) none], [.ag [.d (.int .i64) none, .d (.int .i64) none, .d (.sl (.int .i64)) (some 3)], .d .bool none]⟩
noncomputable def impl_AddBorder.tbl (k : Nat) : Tbl := [(57, impl_IsChart.spec k), (92, impl_isPattern.spec k), (93, impl_isSide.spec k), (94, impl_makeChart__impl_AddBorder_1.spec k), (73, impl_Chart_put.spec k), (87, impl_ringLength.spec k), (89, impl_Chart_withRing.spec k)]
theorem impl_AddBorder.e (k : Nat) (o : Nat → St → Option (Int × Int × List Int × Bool)) (a0_0 : Int) (a0_1 : Int) (l0_2 : List Int) (l1 : List Int) : impl_AddBorder.T.main tyt (impl_AddBorder.tbl k) o (a0_0, a0_1, l0_2, l1) = impl_AddBorder.m k a0_0 a0_1 l0_2 l1 := by kernel_rfl
theorem impl_AddBorder.ok : impl_AddBorder.T.ok = true := by kernel_rfl
theorem impl_AddBorder.tblok (k : Nat) : TblOk Go.Proofs.Try.prog (impl_AddBorder.tbl k) := TblOk.cons (impl_IsChart.sound k) (TblOk.cons (impl_isPattern.sound k) (TblOk.cons (impl_isSide.sound k) (TblOk.cons (impl_makeChart__impl_AddBorder_1.sound k) (TblOk.cons (impl_Chart_put.sound k) (TblOk.cons (impl_ringLength.sound k) (TblOk.cons (impl_Chart_withRing.sound k) (TblOk.nil _)))))))
theorem impl_AddBorder.sound (k : Nat) : Sound Go.Proofs.Try.prog 50 (impl_AddBorder.spec k) := by
  have h := fn_ok (F := impl_AddBorder.T) (tbl := impl_AddBorder.tbl) mixed tyok Go.Proofs.Try.func50 (by kernel_rfl) (c0 := bodyOf Go.Proofs.Try.f50) rfl (conv_code _ _ _) rfl rfl impl_AddBorder.ok k (fun j _ => impl_AddBorder.tblok j)
  have e : impl_AddBorder.spec k = ⟨impl_AddBorder.T.ps, impl_AddBorder.T.rs, impl_AddBorder.T.ev tyt impl_AddBorder.tbl k⟩ := congrArg (FnSpec.mk _ _) (funext fun x => ((impl_AddBorder.e k (impl_AddBorder.T.run tyt impl_AddBorder.tbl k) x.1 x.2.1 x.2.2.1 x.2.2.2).trans (by rfl)).symm)
  rw [e]
  exact h
/-! ### laws_eqIntS: function 44 -/
def laws_eqIntS.b6 (o6 : List Int → List Int → Int → Option (Bool)) (k : Nat) (l0_6 : List Int) (l1_6 : List Int) (x2_6 : Int) : Option (Bool) := (if x2_6 < (l0_6.length : Int) then ((chk l0_6.length x2_6).bind fun i1 => ((chk l1_6.length x2_6).bind fun i2 => (if ¬ (l0_6.getD i1 0) = (l1_6.getD i2 0) then (some false) else (o6 l0_6 l1_6 (w64 (x2_6 + 1)))))) else (some true))
def laws_eqIntS.l6 : Nat → List Int → List Int → Int → Option (Bool)
  | 0, _, _, _ => none
  | k + 1, l0_6, l1_6, x2_6 => laws_eqIntS.b6 (laws_eqIntS.l6 k) k l0_6 l1_6 x2_6
def laws_eqIntS.m (o6 : List Int → List Int → Int → Option (Bool)) (k : Nat) (l0 : List Int) (l1 : List Int) : Option (Bool) := (if ¬ (l0.length : Int) = (l1.length : Int) then (some false) else (o6 l0 l1 0))
def laws_eqIntS.f (k : Nat) (l0 : List Int) (l1 : List Int) : Option (Bool) := laws_eqIntS.m (laws_eqIntS.l6 k) k l0 l1
noncomputable def laws_eqIntS.spec (k : Nat) : FnSpec := ⟨[.d (.sl (.int .i64)) none, .d (.sl (.int .i64)) none], [.d .bool none], fun x => laws_eqIntS.f k x.1 x.2⟩
def laws_eqIntS.S6 (l0_6 : List Int) (l1_6 : List Int) (x2_6 : Int) : St := ⟨[(0, .val (.sl (.int .i64)) l0_6), (1, .val (.sl (.int .i64)) l1_6), (5, .val (.int .i64) x2_6)], [], 1000⟩
noncomputable def laws_eqIntS.T : FnText := ⟨(conv [] (bodyOf Go.Proofs.Try.f44) 0).1, Go.Proofs.Try.f44.results.toList, 26, [(6, [(0, .rd (.sl (.int .i64))), (1, .rd (.sl (.int .i64))), (5, .rd (.int .i64))])], [.d (.sl (.int .i64)) none, .d (.sl (.int .i64)) none], [.d .bool none]⟩
noncomputable def laws_eqIntS.tbl (k : Nat) : Tbl := []
theorem laws_eqIntS.e6 (k : Nat) (o : Nat → St → Option (Bool)) (l0_6 : List Int) (l1_6 : List Int) (x2_6 : Int) : laws_eqIntS.T.step tyt (laws_eqIntS.tbl k) o 6 (laws_eqIntS.S6 l0_6 l1_6 x2_6) = laws_eqIntS.b6 (fun l0_6 l1_6 x2_6 => o 6 (laws_eqIntS.S6 l0_6 l1_6 x2_6)) k l0_6 l1_6 x2_6 := by kernel_rfl
theorem laws_eqIntS.e (k : Nat) (o : Nat → St → Option (Bool)) (l0 : List Int) (l1 : List Int) : laws_eqIntS.T.main tyt (laws_eqIntS.tbl k) o (l0, l1) = laws_eqIntS.m (fun l0_6 l1_6 x2_6 => o 6 (laws_eqIntS.S6 l0_6 l1_6 x2_6)) k l0 l1 := by kernel_rfl
theorem laws_eqIntS.ok : laws_eqIntS.T.ok = true := by kernel_rfl
theorem laws_eqIntS.run (k : Nat) : (∀ (l0_6 : List Int) (l1_6 : List Int) (x2_6 : Int), laws_eqIntS.T.run tyt laws_eqIntS.tbl k 6 (laws_eqIntS.S6 l0_6 l1_6 x2_6) = laws_eqIntS.l6 k l0_6 l1_6 x2_6) := by
  induction k with
  | zero => exact fun l0_6 l1_6 x2_6 => rfl
  | succ k ih =>
    exact fun l0_6 l1_6 x2_6 => by
      have q6 : (fun l0_6 l1_6 x2_6 => laws_eqIntS.T.run tyt laws_eqIntS.tbl k 6 (laws_eqIntS.S6 l0_6 l1_6 x2_6)) = laws_eqIntS.l6 k := by funext l0_6 l1_6 x2_6; exact ih l0_6 l1_6 x2_6
      exact (laws_eqIntS.e6 k (laws_eqIntS.T.run tyt laws_eqIntS.tbl k) l0_6 l1_6 x2_6).trans (by rw [q6]; rfl)
theorem laws_eqIntS.tblok (k : Nat) : TblOk Go.Proofs.Try.prog (laws_eqIntS.tbl k) := TblOk.nil _
theorem laws_eqIntS.sound (k : Nat) : Sound Go.Proofs.Try.prog 44 (laws_eqIntS.spec k) := by
  have h := fn_ok (F := laws_eqIntS.T) (tbl := laws_eqIntS.tbl) mixed tyok Go.Proofs.Try.func44 (by kernel_rfl) (c0 := bodyOf Go.Proofs.Try.f44) rfl (conv_code _ _ _) rfl rfl laws_eqIntS.ok k (fun j _ => laws_eqIntS.tblok j)
  have q6 : (fun l0_6 l1_6 x2_6 => laws_eqIntS.T.run tyt laws_eqIntS.tbl k 6 (laws_eqIntS.S6 l0_6 l1_6 x2_6)) = laws_eqIntS.l6 k := by funext l0_6 l1_6 x2_6; exact (laws_eqIntS.run k) l0_6 l1_6 x2_6
  have e : laws_eqIntS.spec k = ⟨laws_eqIntS.T.ps, laws_eqIntS.T.rs, laws_eqIntS.T.ev tyt laws_eqIntS.tbl k⟩ := congrArg (FnSpec.mk _ _) (funext fun x => ((laws_eqIntS.e k (laws_eqIntS.T.run tyt laws_eqIntS.tbl k) x.1 x.2).trans (by rw [q6]; rfl)).symm)
  rw [e]
  exact h
/-! ### laws_eqChart: function 19 -/
def laws_eqChart.m (k : Nat) (a0_0 : Int) (a0_1 : Int) (l0_2 : List Int) (a1_0 : Int) (a1_1 : Int) (l1_2 : List Int) : Option (Bool) := (if ¬ a0_0 = a1_0 then (some false) else (if ¬ a0_1 = a1_1 then (some false) else ((laws_eqIntS.f k l0_2 l1_2).bind fun r1 => (cond (!r1) (some false) (some true)))))
def laws_eqChart.f (k : Nat) (a0_0 : Int) (a0_1 : Int) (l0_2 : List Int) (a1_0 : Int) (a1_1 : Int) (l1_2 : List Int) : Option (Bool) := laws_eqChart.m k a0_0 a0_1 l0_2 a1_0 a1_1 l1_2
noncomputable def laws_eqChart.spec (k : Nat) : FnSpec := ⟨[.ag [.d (.int .i64) none, .d (.int .i64) none, .d (.sl (.int .i64)) none], .ag [.d (.int .i64) none, .d (.int .i64) none, .d (.sl (.int .i64)) none]], [.d .bool none], fun x => laws_eqChart.f k x.1 x.2.1 x.2.2.1 x.2.2.2.1 x.2.2.2.2.1 x.2.2.2.2.2⟩
noncomputable def laws_eqChart.T : FnText := ⟨(conv [] (bodyOf Go.Proofs.Try.f19) 0).1, Go.Proofs.Try.f19.results.toList, 21, [], [.ag [.d (.int .i64) none, .d (.int .i64) none, .d (.sl (.int .i64)) none], .ag [.d (.int .i64) none, .d (.int .i64) none, .d (.sl (.int .i64)) none]], [.d .bool none]⟩
noncomputable def laws_eqChart.tbl (k : Nat) : Tbl := [(44, laws_eqIntS.spec k)]
theorem laws_eqChart.e (k : Nat) (o : Nat → St → Option (Bool)) (a0_0 : Int) (a0_1 : Int) (l0_2 : List Int) (a1_0 : Int) (a1_1 : Int) (l1_2 : List Int) : laws_eqChart.T.main tyt (laws_eqChart.tbl k) o (a0_0, a0_1, l0_2, a1_0, a1_1, l1_2) = laws_eqChart.m k a0_0 a0_1 l0_2 a1_0 a1_1 l1_2 := by kernel_rfl
theorem laws_eqChart.ok : laws_eqChart.T.ok = true := by kernel_rfl
theorem laws_eqChart.tblok (k : Nat) : TblOk Go.Proofs.Try.prog (laws_eqChart.tbl k) := TblOk.cons (laws_eqIntS.sound k) (TblOk.nil _)
theorem laws_eqChart.sound (k : Nat) : Sound Go.Proofs.Try.prog 19 (laws_eqChart.spec k) := by
  have h := fn_ok (F := laws_eqChart.T) (tbl := laws_eqChart.tbl) mixed tyok Go.Proofs.Try.func19 (by kernel_rfl) (c0 := bodyOf Go.Proofs.Try.f19) rfl (conv_code _ _ _) rfl rfl laws_eqChart.ok k (fun j _ => laws_eqChart.tblok j)
  have e : laws_eqChart.spec k = ⟨laws_eqChart.T.ps, laws_eqChart.T.rs, laws_eqChart.T.ev tyt laws_eqChart.tbl k⟩ := congrArg (FnSpec.mk _ _) (funext fun x => ((laws_eqChart.e k (laws_eqChart.T.run tyt laws_eqChart.tbl k) x.1 x.2.1 x.2.2.1 x.2.2.2.1 x.2.2.2.2.1 x.2.2.2.2.2).trans (by rfl)).symm)
  rw [e]
  exact h
/-! ### laws_markIntS: function 45 -/
def laws_markIntS.b3 (o3 : List Int → Int → Int → Option (Int × List Int)) (k : Nat) (l0_3 : List Int) (x1_3 : Int) (x2_3 : Int) : Option (Int × List Int) := (if x2_3 < (l0_3.length : Int) then ((chk l0_3.length x2_3).bind fun i1 => (o3 (l0_3.set i1 x1_3) (w64 (x1_3 + 1)) (w64 (x2_3 + 1)))) else (some (x1_3, l0_3)))
def laws_markIntS.l3 : Nat → List Int → Int → Int → Option (Int × List Int)
  | 0, _, _, _ => none
  | k + 1, l0_3, x1_3, x2_3 => laws_markIntS.b3 (laws_markIntS.l3 k) k l0_3 x1_3 x2_3
def laws_markIntS.m (o3 : List Int → Int → Int → Option (Int × List Int)) (k : Nat) (l0 : List Int) (a1 : Int) : Option (Int × List Int) := (o3 l0 a1 0)
def laws_markIntS.f (k : Nat) (l0 : List Int) (a1 : Int) : Option (Int × List Int) := laws_markIntS.m (laws_markIntS.l3 k) k l0 a1
noncomputable def laws_markIntS.spec (k : Nat) : FnSpec := ⟨[.io 3 (.int .i64), .d (.int .i64) none], [.d (.int .i64) none], fun x => laws_markIntS.f k x.1 x.2⟩
def laws_markIntS.S3 (l0_3 : List Int) (x1_3 : Int) (x2_3 : Int) : St := ⟨[(0, .ref 0), (1, .val (.int .i64) x1_3), (5, .val (.int .i64) x2_3)], [(0, some (.row 3 (.int .i64) l0_3))], 1000⟩
noncomputable def laws_markIntS.T : FnText := ⟨(conv [] (bodyOf Go.Proofs.Try.f45) 0).1, Go.Proofs.Try.f45.results.toList, 19, [(3, [(0, .own 3 (.int .i64) 0), (1, .rd (.int .i64)), (5, .rd (.int .i64))])], [.io 3 (.int .i64), .d (.int .i64) none], [.d (.int .i64) none]⟩
noncomputable def laws_markIntS.tbl (k : Nat) : Tbl := []
theorem laws_markIntS.e3 (k : Nat) (o : Nat → St → Option (Int × List Int)) (l0_3 : List Int) (x1_3 : Int) (x2_3 : Int) : laws_markIntS.T.step tyt (laws_markIntS.tbl k) o 3 (laws_markIntS.S3 l0_3 x1_3 x2_3) = laws_markIntS.b3 (fun l0_3 x1_3 x2_3 => o 3 (laws_markIntS.S3 l0_3 x1_3 x2_3)) k l0_3 x1_3 x2_3 := by kernel_rfl
theorem laws_markIntS.e (k : Nat) (o : Nat → St → Option (Int × List Int)) (l0 : List Int) (a1 : Int) : laws_markIntS.T.main tyt (laws_markIntS.tbl k) o (l0, a1) = laws_markIntS.m (fun l0_3 x1_3 x2_3 => o 3 (laws_markIntS.S3 l0_3 x1_3 x2_3)) k l0 a1 := by kernel_rfl
theorem laws_markIntS.ok : laws_markIntS.T.ok = true := by kernel_rfl
theorem laws_markIntS.run (k : Nat) : (∀ (l0_3 : List Int) (x1_3 : Int) (x2_3 : Int), laws_markIntS.T.run tyt laws_markIntS.tbl k 3 (laws_markIntS.S3 l0_3 x1_3 x2_3) = laws_markIntS.l3 k l0_3 x1_3 x2_3) := by
  induction k with
  | zero => exact fun l0_3 x1_3 x2_3 => rfl
  | succ k ih =>
    exact fun l0_3 x1_3 x2_3 => by
      have q3 : (fun l0_3 x1_3 x2_3 => laws_markIntS.T.run tyt laws_markIntS.tbl k 3 (laws_markIntS.S3 l0_3 x1_3 x2_3)) = laws_markIntS.l3 k := by funext l0_3 x1_3 x2_3; exact ih l0_3 x1_3 x2_3
      exact (laws_markIntS.e3 k (laws_markIntS.T.run tyt laws_markIntS.tbl k) l0_3 x1_3 x2_3).trans (by rw [q3]; rfl)
theorem laws_markIntS.tblok (k : Nat) : TblOk Go.Proofs.Try.prog (laws_markIntS.tbl k) := TblOk.nil _
theorem laws_markIntS.sound (k : Nat) : Sound Go.Proofs.Try.prog 45 (laws_markIntS.spec k) := by
  have h := fn_ok (F := laws_markIntS.T) (tbl := laws_markIntS.tbl) mixed tyok Go.Proofs.Try.func45 (by kernel_rfl) (c0 := bodyOf Go.Proofs.Try.f45) rfl (conv_code _ _ _) rfl rfl laws_markIntS.ok k (fun j _ => laws_markIntS.tblok j)
  have q3 : (fun l0_3 x1_3 x2_3 => laws_markIntS.T.run tyt laws_markIntS.tbl k 3 (laws_markIntS.S3 l0_3 x1_3 x2_3)) = laws_markIntS.l3 k := by funext l0_3 x1_3 x2_3; exact (laws_markIntS.run k) l0_3 x1_3 x2_3
  have e : laws_markIntS.spec k = ⟨laws_markIntS.T.ps, laws_markIntS.T.rs, laws_markIntS.T.ev tyt laws_markIntS.tbl k⟩ := congrArg (FnSpec.mk _ _) (funext fun x => ((laws_markIntS.e k (laws_markIntS.T.run tyt laws_markIntS.tbl k) x.1 x.2).trans (by rw [q3]; rfl)).symm)
  rw [e]
  exact h
/-! ### laws_markChart: function 20 -/
def laws_markChart.m (k : Nat) (a0_0 : Int) (a0_1 : Int) (l0_2 : List Int) (a1 : Int) : Option (Int × List Int) := ((laws_markIntS.f k l0_2 a1).bind fun r1 => (some (r1.1, r1.2)))
def laws_markChart.f (k : Nat) (a0_0 : Int) (a0_1 : Int) (l0_2 : List Int) (a1 : Int) : Option (Int × List Int) := laws_markChart.m k a0_0 a0_1 l0_2 a1
noncomputable def laws_markChart.spec (k : Nat) : FnSpec := ⟨[.ag [.d (.int .i64) none, .d (.int .i64) none, .io 3 (.int .i64)], .d (.int .i64) none], [.d (.int .i64) none], fun x => laws_markChart.f k x.1 x.2.1 x.2.2.1 x.2.2.2⟩
noncomputable def laws_markChart.T : FnText := ⟨(conv [] (bodyOf Go.Proofs.Try.f20) 0).1, Go.Proofs.Try.f20.results.toList, 10, [], [.ag [.d (.int .i64) none, .d (.int .i64) none, .io 3 (.int .i64)], .d (.int .i64) none], [.d (.int .i64) none]⟩
noncomputable def laws_markChart.tbl (k : Nat) : Tbl := [(45, laws_markIntS.spec k)]
theorem laws_markChart.e (k : Nat) (o : Nat → St → Option (Int × List Int)) (a0_0 : Int) (a0_1 : Int) (l0_2 : List Int) (a1 : Int) : laws_markChart.T.main tyt (laws_markChart.tbl k) o (a0_0, a0_1, l0_2, a1) = laws_markChart.m k a0_0 a0_1 l0_2 a1 := by kernel_rfl
theorem laws_markChart.ok : laws_markChart.T.ok = true := by kernel_rfl
theorem laws_markChart.tblok (k : Nat) : TblOk Go.Proofs.Try.prog (laws_markChart.tbl k) := TblOk.cons (laws_markIntS.sound k) (TblOk.nil _)
theorem laws_markChart.sound (k : Nat) : Sound Go.Proofs.Try.prog 20 (laws_markChart.spec k) := by
  have h := fn_ok (F := laws_markChart.T) (tbl := laws_markChart.tbl) mixed tyok Go.Proofs.Try.func20 (by kernel_rfl) (c0 := bodyOf Go.Proofs.Try.f20) rfl (conv_code _ _ _) rfl rfl laws_markChart.ok k (fun j _ => laws_markChart.tblok j)
  have e : laws_markChart.spec k = ⟨laws_markChart.T.ps, laws_markChart.T.rs, laws_markChart.T.ev tyt laws_markChart.tbl k⟩ := congrArg (FnSpec.mk _ _) (funext fun x => ((laws_markChart.e k (laws_markChart.T.run tyt laws_markChart.tbl k) x.1 x.2.1 x.2.2.1 x.2.2.2).trans (by rfl)).symm)
  rw [e]
  exact h
/-! ### laws_heldIntS: function 48 -/
def laws_heldIntS.b3 (o3 : List Int → Int → Int → Option (Int)) (k : Nat) (l0_3 : List Int) (x1_3 : Int) (x2_3 : Int) : Option (Int) := (if x2_3 < (l0_3.length : Int) then ((chk l0_3.length x2_3).bind fun i1 => (if ¬ (l0_3.getD i1 0) = x1_3 then (some (-1)) else (o3 l0_3 (w64 (x1_3 + 1)) (w64 (x2_3 + 1))))) else (some x1_3))
def laws_heldIntS.l3 : Nat → List Int → Int → Int → Option (Int)
  | 0, _, _, _ => none
  | k + 1, l0_3, x1_3, x2_3 => laws_heldIntS.b3 (laws_heldIntS.l3 k) k l0_3 x1_3 x2_3
def laws_heldIntS.m (o3 : List Int → Int → Int → Option (Int)) (k : Nat) (l0 : List Int) (a1 : Int) : Option (Int) := (o3 l0 a1 0)
def laws_heldIntS.f (k : Nat) (l0 : List Int) (a1 : Int) : Option (Int) := laws_heldIntS.m (laws_heldIntS.l3 k) k l0 a1
noncomputable def laws_heldIntS.spec (k : Nat) : FnSpec := ⟨[.d (.sl (.int .i64)) none, .d (.int .i64) none], [.d (.int .i64) none], fun x => laws_heldIntS.f k x.1 x.2⟩
def laws_heldIntS.S3 (l0_3 : List Int) (x1_3 : Int) (x2_3 : Int) : St := ⟨[(0, .val (.sl (.int .i64)) l0_3), (1, .val (.int .i64) x1_3), (5, .val (.int .i64) x2_3)], [], 1000⟩
noncomputable def laws_heldIntS.T : FnText := ⟨(conv [] (bodyOf Go.Proofs.Try.f48) 0).1, Go.Proofs.Try.f48.results.toList, 21, [(3, [(0, .rd (.sl (.int .i64))), (1, .rd (.int .i64)), (5, .rd (.int .i64))])], [.d (.sl (.int .i64)) none, .d (.int .i64) none], [.d (.int .i64) none]⟩
noncomputable def laws_heldIntS.tbl (k : Nat) : Tbl := []
theorem laws_heldIntS.e3 (k : Nat) (o : Nat → St → Option (Int)) (l0_3 : List Int) (x1_3 : Int) (x2_3 : Int) : laws_heldIntS.T.step tyt (laws_heldIntS.tbl k) o 3 (laws_heldIntS.S3 l0_3 x1_3 x2_3) = laws_heldIntS.b3 (fun l0_3 x1_3 x2_3 => o 3 (laws_heldIntS.S3 l0_3 x1_3 x2_3)) k l0_3 x1_3 x2_3 := by kernel_rfl
theorem laws_heldIntS.e (k : Nat) (o : Nat → St → Option (Int)) (l0 : List Int) (a1 : Int) : laws_heldIntS.T.main tyt (laws_heldIntS.tbl k) o (l0, a1) = laws_heldIntS.m (fun l0_3 x1_3 x2_3 => o 3 (laws_heldIntS.S3 l0_3 x1_3 x2_3)) k l0 a1 := by kernel_rfl
theorem laws_heldIntS.ok : laws_heldIntS.T.ok = true := by kernel_rfl
theorem laws_heldIntS.run (k : Nat) : (∀ (l0_3 : List Int) (x1_3 : Int) (x2_3 : Int), laws_heldIntS.T.run tyt laws_heldIntS.tbl k 3 (laws_heldIntS.S3 l0_3 x1_3 x2_3) = laws_heldIntS.l3 k l0_3 x1_3 x2_3) := by
  induction k with
  | zero => exact fun l0_3 x1_3 x2_3 => rfl
  | succ k ih =>
    exact fun l0_3 x1_3 x2_3 => by
      have q3 : (fun l0_3 x1_3 x2_3 => laws_heldIntS.T.run tyt laws_heldIntS.tbl k 3 (laws_heldIntS.S3 l0_3 x1_3 x2_3)) = laws_heldIntS.l3 k := by funext l0_3 x1_3 x2_3; exact ih l0_3 x1_3 x2_3
      exact (laws_heldIntS.e3 k (laws_heldIntS.T.run tyt laws_heldIntS.tbl k) l0_3 x1_3 x2_3).trans (by rw [q3]; rfl)
theorem laws_heldIntS.tblok (k : Nat) : TblOk Go.Proofs.Try.prog (laws_heldIntS.tbl k) := TblOk.nil _
theorem laws_heldIntS.sound (k : Nat) : Sound Go.Proofs.Try.prog 48 (laws_heldIntS.spec k) := by
  have h := fn_ok (F := laws_heldIntS.T) (tbl := laws_heldIntS.tbl) mixed tyok Go.Proofs.Try.func48 (by kernel_rfl) (c0 := bodyOf Go.Proofs.Try.f48) rfl (conv_code _ _ _) rfl rfl laws_heldIntS.ok k (fun j _ => laws_heldIntS.tblok j)
  have q3 : (fun l0_3 x1_3 x2_3 => laws_heldIntS.T.run tyt laws_heldIntS.tbl k 3 (laws_heldIntS.S3 l0_3 x1_3 x2_3)) = laws_heldIntS.l3 k := by funext l0_3 x1_3 x2_3; exact (laws_heldIntS.run k) l0_3 x1_3 x2_3
  have e : laws_heldIntS.spec k = ⟨laws_heldIntS.T.ps, laws_heldIntS.T.rs, laws_heldIntS.T.ev tyt laws_heldIntS.tbl k⟩ := congrArg (FnSpec.mk _ _) (funext fun x => ((laws_heldIntS.e k (laws_heldIntS.T.run tyt laws_heldIntS.tbl k) x.1 x.2).trans (by rw [q3]; rfl)).symm)
  rw [e]
  exact h
/-! ### laws_heldChart: function 21 -/
def laws_heldChart.m (k : Nat) (a0_0 : Int) (a0_1 : Int) (l0_2 : List Int) (a1 : Int) : Option (Int) := ((laws_heldIntS.f k l0_2 a1).bind fun r1 => (if r1 < 0 then (some (-1)) else (some r1)))
def laws_heldChart.f (k : Nat) (a0_0 : Int) (a0_1 : Int) (l0_2 : List Int) (a1 : Int) : Option (Int) := laws_heldChart.m k a0_0 a0_1 l0_2 a1
noncomputable def laws_heldChart.spec (k : Nat) : FnSpec := ⟨[.ag [.d (.int .i64) none, .d (.int .i64) none, .d (.sl (.int .i64)) none], .d (.int .i64) none], [.d (.int .i64) none], fun x => laws_heldChart.f k x.1 x.2.1 x.2.2.1 x.2.2.2⟩
noncomputable def laws_heldChart.T : FnText := ⟨(conv [] (bodyOf Go.Proofs.Try.f21) 0).1, Go.Proofs.Try.f21.results.toList, 12, [], [.ag [.d (.int .i64) none, .d (.int .i64) none, .d (.sl (.int .i64)) none], .d (.int .i64) none], [.d (.int .i64) none]⟩
noncomputable def laws_heldChart.tbl (k : Nat) : Tbl := [(48, laws_heldIntS.spec k)]
theorem laws_heldChart.e (k : Nat) (o : Nat → St → Option (Int)) (a0_0 : Int) (a0_1 : Int) (l0_2 : List Int) (a1 : Int) : laws_heldChart.T.main tyt (laws_heldChart.tbl k) o (a0_0, a0_1, l0_2, a1) = laws_heldChart.m k a0_0 a0_1 l0_2 a1 := by kernel_rfl
theorem laws_heldChart.ok : laws_heldChart.T.ok = true := by kernel_rfl
theorem laws_heldChart.tblok (k : Nat) : TblOk Go.Proofs.Try.prog (laws_heldChart.tbl k) := TblOk.cons (laws_heldIntS.sound k) (TblOk.nil _)
theorem laws_heldChart.sound (k : Nat) : Sound Go.Proofs.Try.prog 21 (laws_heldChart.spec k) := by
  have h := fn_ok (F := laws_heldChart.T) (tbl := laws_heldChart.tbl) mixed tyok Go.Proofs.Try.func21 (by kernel_rfl) (c0 := bodyOf Go.Proofs.Try.f21) rfl (conv_code _ _ _) rfl rfl laws_heldChart.ok k (fun j _ => laws_heldChart.tblok j)
  have e : laws_heldChart.spec k = ⟨laws_heldChart.T.ps, laws_heldChart.T.rs, laws_heldChart.T.ev tyt laws_heldChart.tbl k⟩ := congrArg (FnSpec.mk _ _) (funext fun x => ((laws_heldChart.e k (laws_heldChart.T.run tyt laws_heldChart.tbl k) x.1 x.2.1 x.2.2.1 x.2.2.2).trans (by rfl)).symm)
  rw [e]
  exact h
/-! ### laws_FnExactAddBorder: function 13 -/
def laws_FnExactAddBorder.m (k : Nat) (a0_0 : Int) (a0_1 : Int) (l0_2 : List Int) (l1 : List Int) : Option (Bool) := (if 1048576 < (l1.length : Int) then (some true) else ((laws_szChart.f k a0_0 a0_1 l0_2 1048576).bind fun r1 => (if r1 < 0 then (some true) else ((laws_toChart.f k a0_0 a0_1 l0_2).bind fun r2 => ((laws_toIntS.f k l1).bind fun r3 => ((spec_AddBorder.f k r2.1 r2.2.1 r2.2.2 r3).bind fun r4 => ((laws_toChart.f k a0_0 a0_1 l0_2).bind fun r5 => ((laws_toIntS.f k l1).bind fun r6 => ((impl_AddBorder.f k r5.1 r5.2.1 r5.2.2 r6).bind fun r7 => ((laws_eqChart.f k r7.1 r7.2.1 r7.2.2.1 r4.1 r4.2.1 r4.2.2.1).bind fun r8 => (cond (!r8) (some false) (if ¬ r7.2.2.2 = r4.2.2.2 then (some false) else ((laws_toChart.f k a0_0 a0_1 l0_2).bind fun r9 => ((laws_eqChart.f k r5.1 r5.2.1 r5.2.2 r9.1 r9.2.1 r9.2.2).bind fun r10 => (cond (!r10) (some false) ((laws_toIntS.f k l1).bind fun r11 => ((laws_eqIntS.f k r6 r11).bind fun r12 => (cond (!r12) (some false) ((laws_markChart.f k r5.1 r5.2.1 r5.2.2 1).bind fun r13 => ((laws_markIntS.f k r6 r13.1).bind fun r14 => (if r14.1 < 0 then (some false) else ((laws_eqChart.f k r7.1 r7.2.1 r7.2.2.1 r4.1 r4.2.1 r4.2.2.1).bind fun r15 => (cond (!r15) (some false) (if ¬ r7.2.2.2 = r4.2.2.2 then (some false) else ((laws_markChart.f k r7.1 r7.2.1 r7.2.2.1 1).bind fun r16 => ((laws_heldChart.f k r7.1 r7.2.1 r16.2 1).bind fun r17 => (if r17 < 0 then (some false) else (if ¬ r17 = r16.1 then (some false) else ((laws_toChart.f k a0_0 a0_1 l0_2).bind fun r18 => ((laws_toIntS.f k l1).bind fun r19 => ((impl_AddBorder.f k r18.1 r18.2.1 r18.2.2 r19).bind fun r20 => ((laws_eqChart.f k r20.1 r20.2.1 r20.2.2.1 r4.1 r4.2.1 r4.2.2.1).bind fun r21 => (cond (!r21) (some false) (if ¬ r20.2.2.2 = r4.2.2.2 then (some false) else ((laws_heldChart.f k r7.1 r7.2.1 r16.2 1).bind fun r22 => (if r22 < 0 then (some false) else (if ¬ r22 = r16.1 then (some false) else (some true))))))))))))))))))))))))))))))))))))))
def laws_FnExactAddBorder.f (k : Nat) (a0_0 : Int) (a0_1 : Int) (l0_2 : List Int) (l1 : List Int) : Option (Bool) := laws_FnExactAddBorder.m k a0_0 a0_1 l0_2 l1
noncomputable def laws_FnExactAddBorder.spec (k : Nat) : FnSpec := ⟨[.ag [.d (.int .i64) none, .d (.int .i64) none, .d (.sl (.int .i64)) none], .d (.sl (.int .i64)) none], [.d .bool none], fun x => laws_FnExactAddBorder.f k x.1 x.2.1 x.2.2.1 x.2.2.2⟩
noncomputable def laws_FnExactAddBorder.T : FnText := ⟨(conv [] (bodyOf Go.Proofs.Try.f13) 0).1, Go.Proofs.Try.f13.results.toList, 117, [], [.ag [.d (.int .i64) none, .d (.int .i64) none, .d (.sl (.int .i64)) none], .d (.sl (.int .i64)) none], [.d .bool none]⟩
noncomputable def laws_FnExactAddBorder.tbl (k : Nat) : Tbl := [(15, laws_szChart.spec k), (17, laws_toChart.spec k), (42, laws_toIntS.spec k), (49, spec_AddBorder.spec k), (50, impl_AddBorder.spec k), (19, laws_eqChart.spec k), (44, laws_eqIntS.spec k), (20, laws_markChart.spec k), (45, laws_markIntS.spec k), (21, laws_heldChart.spec k)]
theorem laws_FnExactAddBorder.e (k : Nat) (o : Nat → St → Option (Bool)) (a0_0 : Int) (a0_1 : Int) (l0_2 : List Int) (l1 : List Int) : laws_FnExactAddBorder.T.main tyt (laws_FnExactAddBorder.tbl k) o (a0_0, a0_1, l0_2, l1) = laws_FnExactAddBorder.m k a0_0 a0_1 l0_2 l1 := by kernel_rfl
theorem laws_FnExactAddBorder.ok : laws_FnExactAddBorder.T.ok = true := by kernel_rfl
theorem laws_FnExactAddBorder.tblok (k : Nat) : TblOk Go.Proofs.Try.prog (laws_FnExactAddBorder.tbl k) := TblOk.cons (laws_szChart.sound k) (TblOk.cons (laws_toChart.sound k) (TblOk.cons (laws_toIntS.sound k) (TblOk.cons (spec_AddBorder.sound k) (TblOk.cons (impl_AddBorder.sound k) (TblOk.cons (laws_eqChart.sound k) (TblOk.cons (laws_eqIntS.sound k) (TblOk.cons (laws_markChart.sound k) (TblOk.cons (laws_markIntS.sound k) (TblOk.cons (laws_heldChart.sound k) (TblOk.nil _))))))))))
theorem laws_FnExactAddBorder.sound (k : Nat) : Sound Go.Proofs.Try.prog 13 (laws_FnExactAddBorder.spec k) := by
  have h := fn_ok (F := laws_FnExactAddBorder.T) (tbl := laws_FnExactAddBorder.tbl) mixed tyok Go.Proofs.Try.func13 (by kernel_rfl) (c0 := bodyOf Go.Proofs.Try.f13) rfl (conv_code _ _ _) rfl rfl laws_FnExactAddBorder.ok k (fun j _ => laws_FnExactAddBorder.tblok j)
  have e : laws_FnExactAddBorder.spec k = ⟨laws_FnExactAddBorder.T.ps, laws_FnExactAddBorder.T.rs, laws_FnExactAddBorder.T.ev tyt laws_FnExactAddBorder.tbl k⟩ := congrArg (FnSpec.mk _ _) (funext fun x => ((laws_FnExactAddBorder.e k (laws_FnExactAddBorder.T.run tyt laws_FnExactAddBorder.tbl k) x.1 x.2.1 x.2.2.1 x.2.2.2).trans (by rfl)).symm)
  rw [e]
  exact h
/-- The pure statement. -/
def Pure : Prop := ∀ (a0_0 : Int) (a0_1 : Int) (l0_2 : List Int) (l1 : List Int), ((Lit.int .i64 a0_0).wf = true) → ((Lit.int .i64 a0_1).wf = true) → (l0_2.length * 8 ≤ 140737488351232) → (∀ y0 ∈ l0_2, (Lit.int .i64 y0).wf = true) → (l1.length * 8 ≤ 140737488351232) → (∀ y0 ∈ l1, (Lit.int .i64 y0).wf = true) → ∃ k, laws_FnExactAddBorder.f k a0_0 a0_1 l0_2 l1 = some true
end Go.Proofs.Yteiaakppjcpgcaa.DFnExactAddBorder
