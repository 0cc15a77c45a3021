-- Printed by this session's own program (wip/deep/drow.py); Lean checks it.
import Derived.Test.YtijmljaemalgmaaDn26
import Derived.Test.YtijmljaemalgmaaProg
set_option linter.unusedVariables false
set_option maxRecDepth 100000
namespace Go.Proofs.Ytijmljaemalgmaa.DFnExactFillArea
open Go Go.Proofs.YtijmljaemalgmaaD
def tyt3 : TI := ⟨.int .i64, 1, 8, (.int .i64)⟩
def tyt4 : TI := ⟨.bool, 1, 1, .bool⟩
def tyt22 : TI := ⟨.slice 3, 1, 24, (.sl (.int .i64))⟩
def tyt24 : TI := ⟨.struct #[⟨ "Width", 3, 0, false, "", "", 0⟩, ⟨ "Height", 3, 1, false, "", "", 8⟩, ⟨ "Knots", 22, 2, false, "", "", 16⟩], 3, 40, (.pair (.int .i64) (.pair (.int .i64) (.sl (.int .i64))))⟩
def tyt26 : TI := ⟨.struct #[⟨ "Width", 3, 0, false, "", "", 0⟩, ⟨ "Height", 3, 1, false, "", "", 8⟩, ⟨ "Knots", 22, 2, false, "", "", 16⟩], 3, 40, (.pair (.int .i64) (.pair (.int .i64) (.sl (.int .i64))))⟩
def tyt73 : TI := ⟨.slice 77, 1, 24, (.sl (.pair (.int .i64) (.int .i64)))⟩
def tyt77 : TI := ⟨.array 2 3, 2, 16, (.pair (.int .i64) (.int .i64))⟩
def tyt86 : TI := ⟨.func #[3] #[4] false, 1, 8, .fn⟩
def tyt146 : TI := ⟨.int .u64, 1, 8, (.int .u64)⟩
def tyt : TT := [(3, tyt3), (4, tyt4), (22, tyt22), (24, tyt24), (26, tyt26), (73, tyt73), (77, tyt77), (86, tyt86), (146, tyt146)]
theorem mixed : Go.Proofs.Try.prog.follows .mixedOrders = true := by kernel_rfl
theorem tok3 : TOk1 Go.Proofs.Try.prog 3 (tyt3) := TOk1.of (by kernel_rfl) (by kernel_rfl) (by kernel_rfl) (by kernel_rfl) (by kernel_rfl) (by kernel_rfl) (by kernel_rfl) (fun h => nomatch (show false = true from h)) (fun h => nomatch (show false = true from h))
theorem tok4 : TOk1 Go.Proofs.Try.prog 4 (tyt4) := TOk1.of (by kernel_rfl) (by kernel_rfl) (by kernel_rfl) (by kernel_rfl) (by kernel_rfl) (by kernel_rfl) (by kernel_rfl) (fun h => nomatch (show false = true from h)) (fun h => nomatch (show false = true from h))
theorem tok22 : TOk1 Go.Proofs.Try.prog 22 (tyt22) := TOk1.of (by kernel_rfl) (by kernel_rfl) (by kernel_rfl) (by kernel_rfl) (by kernel_rfl) (by kernel_rfl) (by kernel_rfl) (fun h => nomatch (show false = true from h)) (fun h => nomatch (show false = true from h))
theorem tok24 : TOk1 Go.Proofs.Try.prog 24 (tyt24) := TOk1.of (by kernel_rfl) (by kernel_rfl) (by kernel_rfl) (by kernel_rfl) (by kernel_rfl) (by kernel_rfl) (by kernel_rfl) (fun _ => by kernel_rfl) (fun h => nomatch (show false = true from h))
theorem tok26 : TOk1 Go.Proofs.Try.prog 26 (tyt26) := TOk1.of (by kernel_rfl) (by kernel_rfl) (by kernel_rfl) (by kernel_rfl) (by kernel_rfl) (by kernel_rfl) (by kernel_rfl) (fun _ => by kernel_rfl) (fun h => nomatch (show false = true from h))
theorem tok73 : TOk1 Go.Proofs.Try.prog 73 (tyt73) := TOk1.of (by kernel_rfl) (by kernel_rfl) (by kernel_rfl) (by kernel_rfl) (by kernel_rfl) (by kernel_rfl) (by kernel_rfl) (fun h => nomatch (show false = true from h)) (fun h => nomatch (show false = true from h))
theorem tok77 : TOk1 Go.Proofs.Try.prog 77 (tyt77) := TOk1.of (by kernel_rfl) (by kernel_rfl) (by kernel_rfl) (by kernel_rfl) (by kernel_rfl) (by kernel_rfl) (by kernel_rfl) (fun _ => by kernel_rfl) (fun _ => ⟨by kernel_rfl, by kernel_rfl, by kernel_rfl⟩)
theorem tok86 : TOk1 Go.Proofs.Try.prog 86 (tyt86) := TOk1.of (by kernel_rfl) (by kernel_rfl) (by kernel_rfl) (by kernel_rfl) (by kernel_rfl) (by kernel_rfl) (by kernel_rfl) (fun h => nomatch (show false = true from h)) (fun h => nomatch (show false = true from h))
theorem tok146 : TOk1 Go.Proofs.Try.prog 146 (tyt146) := TOk1.of (by kernel_rfl) (by kernel_rfl) (by kernel_rfl) (by kernel_rfl) (by kernel_rfl) (by kernel_rfl) (by kernel_rfl) (fun h => nomatch (show false = true from h)) (fun h => nomatch (show false = true from h))
theorem tyok : TOk Go.Proofs.Try.prog tyt := TOk.cons tok3 (TOk.cons tok4 (TOk.cons tok22 (TOk.cons tok24 (TOk.cons tok26 (TOk.cons tok73 (TOk.cons tok77 (TOk.cons tok86 (TOk.cons tok146 (TOk.nil _)))))))))
/-! ### laws_szIntS: function 130 -/
def laws_szIntS.m (k : Nat) (l0 : List Int) (a1 : Int) : Option (Int) := (if (w64 (a1 - (l0.length : Int))) < 0 then (some (-1)) else (some (w64 (a1 - (l0.length : Int)))))
def laws_szIntS.f (k : Nat) (l0 : List Int) (a1 : Int) : Option (Int) := laws_szIntS.m k l0 a1
noncomputable def laws_szIntS.spec (k : Nat) : FnSpec := ⟨[.d (.sl (.int .i64)) none, .d (.int .i64) none], [.d (.int .i64) none], fun x => laws_szIntS.f k x.1 x.2⟩
noncomputable def laws_szIntS.T : FnText := ⟨(conv [] (bodyOf Go.Proofs.Try.f130) 0).1, Go.Proofs.Try.f130.results.toList, 12, [], [.d (.sl (.int .i64)) none, .d (.int .i64) none], [.d (.int .i64) none]⟩
noncomputable def laws_szIntS.tbl (k : Nat) : Tbl := []
theorem laws_szIntS.e (k : Nat) (o : Nat → St → Option (Int)) (l0 : List Int) (a1 : Int) : laws_szIntS.T.main tyt (laws_szIntS.tbl k) o (l0, a1) = laws_szIntS.m k l0 a1 := by kernel_rfl
theorem laws_szIntS.ok : laws_szIntS.T.ok = true := by kernel_rfl
theorem laws_szIntS.tblok (k : Nat) : TblOk Go.Proofs.Try.prog (laws_szIntS.tbl k) := TblOk.nil _
theorem laws_szIntS.sound (k : Nat) : Sound Go.Proofs.Try.prog 130 (laws_szIntS.spec k) := by
  have h := fn_ok (F := laws_szIntS.T) (tbl := laws_szIntS.tbl) mixed tyok Go.Proofs.Try.func130 (by kernel_rfl) (c0 := bodyOf Go.Proofs.Try.f130) rfl (conv_code _ _ _) rfl rfl laws_szIntS.ok k (fun j _ => laws_szIntS.tblok j)
  have e : laws_szIntS.spec k = ⟨laws_szIntS.T.ps, laws_szIntS.T.rs, laws_szIntS.T.ev tyt laws_szIntS.tbl k⟩ := congrArg (FnSpec.mk _ _) (funext fun x => ((laws_szIntS.e k (laws_szIntS.T.run tyt laws_szIntS.tbl k) x.1 x.2).trans (by rfl)).symm)
  rw [e]
  exact h
/-! ### laws_szChart: function 14 -/
def laws_szChart.m (k : Nat) (a0_0 : Int) (a0_1 : Int) (l0_2 : List Int) (a1 : Int) : Option (Int) := ((laws_szIntS.f k l0_2 a1).bind fun r1 => (if r1 < 0 then (some (-1)) else (some r1)))
def laws_szChart.f (k : Nat) (a0_0 : Int) (a0_1 : Int) (l0_2 : List Int) (a1 : Int) : Option (Int) := laws_szChart.m k a0_0 a0_1 l0_2 a1
noncomputable def laws_szChart.spec (k : Nat) : FnSpec := ⟨[.ag [.d (.int .i64) none, .d (.int .i64) none, .d (.sl (.int .i64)) none], .d (.int .i64) none], [.d (.int .i64) none], fun x => laws_szChart.f k x.1 x.2.1 x.2.2.1 x.2.2.2⟩
noncomputable def laws_szChart.T : FnText := ⟨(conv [] (bodyOf Go.Proofs.Try.f14) 0).1, Go.Proofs.Try.f14.results.toList, 12, [], [.ag [.d (.int .i64) none, .d (.int .i64) none, .d (.sl (.int .i64)) none], .d (.int .i64) none], [.d (.int .i64) none]⟩
noncomputable def laws_szChart.tbl (k : Nat) : Tbl := [(130, laws_szIntS.spec k)]
theorem laws_szChart.e (k : Nat) (o : Nat → St → Option (Int)) (a0_0 : Int) (a0_1 : Int) (l0_2 : List Int) (a1 : Int) : laws_szChart.T.main tyt (laws_szChart.tbl k) o (a0_0, a0_1, l0_2, a1) = laws_szChart.m k a0_0 a0_1 l0_2 a1 := by kernel_rfl
theorem laws_szChart.ok : laws_szChart.T.ok = true := by kernel_rfl
theorem laws_szChart.tblok (k : Nat) : TblOk Go.Proofs.Try.prog (laws_szChart.tbl k) := TblOk.cons (laws_szIntS.sound k) (TblOk.nil _)
theorem laws_szChart.sound (k : Nat) : Sound Go.Proofs.Try.prog 14 (laws_szChart.spec k) := by
  have h := fn_ok (F := laws_szChart.T) (tbl := laws_szChart.tbl) mixed tyok Go.Proofs.Try.func14 (by kernel_rfl) (c0 := bodyOf Go.Proofs.Try.f14) rfl (conv_code _ _ _) rfl rfl laws_szChart.ok k (fun j _ => laws_szChart.tblok j)
  have e : laws_szChart.spec k = ⟨laws_szChart.T.ps, laws_szChart.T.rs, laws_szChart.T.ev tyt laws_szChart.tbl k⟩ := congrArg (FnSpec.mk _ _) (funext fun x => ((laws_szChart.e k (laws_szChart.T.run tyt laws_szChart.tbl k) x.1 x.2.1 x.2.2.1 x.2.2.2).trans (by rfl)).symm)
  rw [e]
  exact h
/-! ### laws_toIntS: function 136 -/
def laws_toIntS.b4 (o4 : List Int → List Int → Int → Option (List Int)) (k : Nat) (l0_4 : List Int) (l1_4 : List Int) (x2_4 : Int) : Option (List Int) := (if x2_4 < (l0_4.length : Int) then ((chk l0_4.length x2_4).bind fun i2 => ((chk l1_4.length x2_4).bind fun i3 => (o4 l0_4 (l1_4.set i3 (l0_4.getD i2 0)) (w64 (x2_4 + 1))))) else (some l1_4))
def laws_toIntS.l4 : Nat → List Int → List Int → Int → Option (List Int)
  | 0, _, _, _ => none
  | k + 1, l0_4, l1_4, x2_4 => laws_toIntS.b4 (laws_toIntS.l4 k) k l0_4 l1_4 x2_4
def laws_toIntS.m (o4 : List Int → List Int → Int → Option (List Int)) (k : Nat) (l0 : List Int) : Option (List Int) := ((mkl 17592186044416 (l0.length : Int) (l0.length : Int)).bind fun n1 => (o4 l0 (List.replicate n1 (0 : Int)) 0))
def laws_toIntS.f (k : Nat) (l0 : List Int) : Option (List Int) := laws_toIntS.m (laws_toIntS.l4 k) k l0
noncomputable def laws_toIntS.spec (k : Nat) : FnSpec := ⟨[.d (.sl (.int .i64)) none], [.d (.sl (.int .i64)) (some 3)], fun x => laws_toIntS.f k x⟩
def laws_toIntS.S4 (l0_4 : List Int) (l1_4 : List Int) (x2_4 : Int) : St := ⟨[(0, .val (.sl (.int .i64)) l0_4), (3, .ref 100), (4, .val (.int .i64) x2_4)], [(100, some (.row 3 (.int .i64) l1_4))], 1000⟩
noncomputable def laws_toIntS.T : FnText := ⟨(conv [] (bodyOf Go.Proofs.Try.f136) 0).1, Go.Proofs.Try.f136.results.toList, 22, [(4, [(0, .rd (.sl (.int .i64))), (3, .own 3 (.int .i64) 100), (4, .rd (.int .i64))])], [.d (.sl (.int .i64)) none], [.d (.sl (.int .i64)) (some 3)]⟩
noncomputable def laws_toIntS.tbl (k : Nat) : Tbl := []
theorem laws_toIntS.e4 (k : Nat) (o : Nat → St → Option (List Int)) (l0_4 : List Int) (l1_4 : List Int) (x2_4 : Int) : laws_toIntS.T.step tyt (laws_toIntS.tbl k) o 4 (laws_toIntS.S4 l0_4 l1_4 x2_4) = laws_toIntS.b4 (fun l0_4 l1_4 x2_4 => o 4 (laws_toIntS.S4 l0_4 l1_4 x2_4)) k l0_4 l1_4 x2_4 := by kernel_rfl
theorem laws_toIntS.e (k : Nat) (o : Nat → St → Option (List Int)) (l0 : List Int) : laws_toIntS.T.main tyt (laws_toIntS.tbl k) o l0 = laws_toIntS.m (fun l0_4 l1_4 x2_4 => o 4 (laws_toIntS.S4 l0_4 l1_4 x2_4)) k l0 := by kernel_rfl
theorem laws_toIntS.ok : laws_toIntS.T.ok = true := by kernel_rfl
theorem laws_toIntS.run (k : Nat) : (∀ (l0_4 : List Int) (l1_4 : List Int) (x2_4 : Int), laws_toIntS.T.run tyt laws_toIntS.tbl k 4 (laws_toIntS.S4 l0_4 l1_4 x2_4) = laws_toIntS.l4 k l0_4 l1_4 x2_4) := by
  induction k with
  | zero => exact fun l0_4 l1_4 x2_4 => rfl
  | succ k ih =>
    exact fun l0_4 l1_4 x2_4 => by
      have q4 : (fun l0_4 l1_4 x2_4 => laws_toIntS.T.run tyt laws_toIntS.tbl k 4 (laws_toIntS.S4 l0_4 l1_4 x2_4)) = laws_toIntS.l4 k := by funext l0_4 l1_4 x2_4; exact ih l0_4 l1_4 x2_4
      exact (laws_toIntS.e4 k (laws_toIntS.T.run tyt laws_toIntS.tbl k) l0_4 l1_4 x2_4).trans (by rw [q4]; rfl)
theorem laws_toIntS.tblok (k : Nat) : TblOk Go.Proofs.Try.prog (laws_toIntS.tbl k) := TblOk.nil _
theorem laws_toIntS.sound (k : Nat) : Sound Go.Proofs.Try.prog 136 (laws_toIntS.spec k) := by
  have h := fn_ok (F := laws_toIntS.T) (tbl := laws_toIntS.tbl) mixed tyok Go.Proofs.Try.func136 (by kernel_rfl) (c0 := bodyOf Go.Proofs.Try.f136) rfl (conv_code _ _ _) rfl rfl laws_toIntS.ok k (fun j _ => laws_toIntS.tblok j)
  have q4 : (fun l0_4 l1_4 x2_4 => laws_toIntS.T.run tyt laws_toIntS.tbl k 4 (laws_toIntS.S4 l0_4 l1_4 x2_4)) = laws_toIntS.l4 k := by funext l0_4 l1_4 x2_4; exact (laws_toIntS.run k) l0_4 l1_4 x2_4
  have e : laws_toIntS.spec k = ⟨laws_toIntS.T.ps, laws_toIntS.T.rs, laws_toIntS.T.ev tyt laws_toIntS.tbl k⟩ := congrArg (FnSpec.mk _ _) (funext fun x => ((laws_toIntS.e k (laws_toIntS.T.run tyt laws_toIntS.tbl k) x).trans (by rw [q4]; rfl)).symm)
  rw [e]
  exact h
/-! ### laws_toChart: function 16 -/
def laws_toChart.m (k : Nat) (a0_0 : Int) (a0_1 : Int) (l0_2 : List Int) : Option (Int × Int × List Int) := ((laws_toIntS.f k l0_2).bind fun r1 => (some (a0_0, a0_1, r1)))
def laws_toChart.f (k : Nat) (a0_0 : Int) (a0_1 : Int) (l0_2 : List Int) : Option (Int × Int × List Int) := laws_toChart.m k a0_0 a0_1 l0_2
noncomputable def laws_toChart.spec (k : Nat) : FnSpec := ⟨[.ag [.d (.int .i64) none, .d (.int .i64) none, .d (.sl (.int .i64)) none]], [.ag [.d (.int .i64) none, .d (.int .i64) none, .d (.sl (.int .i64)) (some 3)]], fun x => laws_toChart.f k x.1 x.2.1 x.2.2⟩
noncomputable def laws_toChart.T : FnText := ⟨(conv [] (bodyOf Go.Proofs.Try.f16) 0).1, Go.Proofs.Try.f16.results.toList, 15, [], [.ag [.d (.int .i64) none, .d (.int .i64) none, .d (.sl (.int .i64)) none]], [.ag [.d (.int .i64) none, .d (.int .i64) none, .d (.sl (.int .i64)) (some 3)]]⟩
noncomputable def laws_toChart.tbl (k : Nat) : Tbl := [(136, laws_toIntS.spec k)]
theorem laws_toChart.e (k : Nat) (o : Nat → St → Option (Int × Int × List Int)) (a0_0 : Int) (a0_1 : Int) (l0_2 : List Int) : laws_toChart.T.main tyt (laws_toChart.tbl k) o (a0_0, a0_1, l0_2) = laws_toChart.m k a0_0 a0_1 l0_2 := by kernel_rfl
theorem laws_toChart.ok : laws_toChart.T.ok = true := by kernel_rfl
theorem laws_toChart.tblok (k : Nat) : TblOk Go.Proofs.Try.prog (laws_toChart.tbl k) := TblOk.cons (laws_toIntS.sound k) (TblOk.nil _)
theorem laws_toChart.sound (k : Nat) : Sound Go.Proofs.Try.prog 16 (laws_toChart.spec k) := by
  have h := fn_ok (F := laws_toChart.T) (tbl := laws_toChart.tbl) mixed tyok Go.Proofs.Try.func16 (by kernel_rfl) (c0 := bodyOf Go.Proofs.Try.f16) rfl (conv_code _ _ _) rfl rfl laws_toChart.ok k (fun j _ => laws_toChart.tblok j)
  have e : laws_toChart.spec k = ⟨laws_toChart.T.ps, laws_toChart.T.rs, laws_toChart.T.ev tyt laws_toChart.tbl k⟩ := congrArg (FnSpec.mk _ _) (funext fun x => ((laws_toChart.e k (laws_toChart.T.run tyt laws_toChart.tbl k) x.1 x.2.1 x.2.2).trans (by rfl)).symm)
  rw [e]
  exact h
/-! ### spec_l1In: function 134 -/
def spec_l1In.m (k : Nat) (a0 : Int) (a1 : Int) (a2 : Int) : Option (Bool) := (if a1 ≤ a0 then (some (decide (a0 ≤ a2))) else (some false))
def spec_l1In.f (k : Nat) (a0 : Int) (a1 : Int) (a2 : Int) : Option (Bool) := spec_l1In.m k a0 a1 a2
noncomputable def spec_l1In.spec (k : Nat) : FnSpec := ⟨[.d (.int .i64) none, .d (.int .i64) none, .d (.int .i64) none], [.d .bool none], fun x => spec_l1In.f k x.1 x.2.1 x.2.2⟩
noncomputable def spec_l1In.T : FnText := ⟨(conv [] (bodyOf Go.Proofs.Try.f134) 0).1, Go.Proofs.Try.f134.results.toList, 15, [], [.d (.int .i64) none, .d (.int .i64) none, .d (.int .i64) none], [.d .bool none]⟩
noncomputable def spec_l1In.tbl (k : Nat) : Tbl := []
theorem spec_l1In.e (k : Nat) (o : Nat → St → Option (Bool)) (a0 : Int) (a1 : Int) (a2 : Int) : spec_l1In.T.main tyt (spec_l1In.tbl k) o (a0, a1, a2) = spec_l1In.m k a0 a1 a2 := by kernel_rfl
theorem spec_l1In.ok : spec_l1In.T.ok = true := by kernel_rfl
theorem spec_l1In.tblok (k : Nat) : TblOk Go.Proofs.Try.prog (spec_l1In.tbl k) := TblOk.nil _
theorem spec_l1In.sound (k : Nat) : Sound Go.Proofs.Try.prog 134 (spec_l1In.spec k) := by
  have h := fn_ok (F := spec_l1In.T) (tbl := spec_l1In.tbl) mixed tyok Go.Proofs.Try.func134 (by kernel_rfl) (c0 := bodyOf Go.Proofs.Try.f134) rfl (conv_code _ _ _) rfl rfl spec_l1In.ok k (fun j _ => spec_l1In.tblok j)
  have e : spec_l1In.spec k = ⟨spec_l1In.T.ps, spec_l1In.T.rs, spec_l1In.T.ev tyt spec_l1In.tbl k⟩ := congrArg (FnSpec.mk _ _) (funext fun x => ((spec_l1In.e k (spec_l1In.T.run tyt spec_l1In.tbl k) x.1 x.2.1 x.2.2).trans (by rfl)).symm)
  rw [e]
  exact h
/-! ### spec_l2Color: function 132 -/
def spec_l2Color.m (k : Nat) (a0 : Int) : Option (Bool) := ((spec_l1In.f k a0 0 5).bind fun r1 => (some r1))
def spec_l2Color.f (k : Nat) (a0 : Int) : Option (Bool) := spec_l2Color.m k a0
noncomputable def spec_l2Color.spec (k : Nat) : FnSpec := ⟨[.d (.int .i64) none], [.d .bool none], fun x => spec_l2Color.f k x⟩
noncomputable def spec_l2Color.T : FnText := ⟨(conv [] (bodyOf Go.Proofs.Try.f132) 0).1, Go.Proofs.Try.f132.results.toList, 5, [], [.d (.int .i64) none], [.d .bool none]⟩
noncomputable def spec_l2Color.tbl (k : Nat) : Tbl := [(134, spec_l1In.spec k)]
theorem spec_l2Color.e (k : Nat) (o : Nat → St → Option (Bool)) (a0 : Int) : spec_l2Color.T.main tyt (spec_l2Color.tbl k) o a0 = spec_l2Color.m k a0 := by kernel_rfl
theorem spec_l2Color.ok : spec_l2Color.T.ok = true := by kernel_rfl
theorem spec_l2Color.tblok (k : Nat) : TblOk Go.Proofs.Try.prog (spec_l2Color.tbl k) := TblOk.cons (spec_l1In.sound k) (TblOk.nil _)
theorem spec_l2Color.sound (k : Nat) : Sound Go.Proofs.Try.prog 132 (spec_l2Color.spec k) := by
  have h := fn_ok (F := spec_l2Color.T) (tbl := spec_l2Color.tbl) mixed tyok Go.Proofs.Try.func132 (by kernel_rfl) (c0 := bodyOf Go.Proofs.Try.f132) rfl (conv_code _ _ _) rfl rfl spec_l2Color.ok k (fun j _ => spec_l2Color.tblok j)
  have e : spec_l2Color.spec k = ⟨spec_l2Color.T.ps, spec_l2Color.T.rs, spec_l2Color.T.ev tyt spec_l2Color.tbl k⟩ := congrArg (FnSpec.mk _ _) (funext fun x => ((spec_l2Color.e k (spec_l2Color.T.run tyt spec_l2Color.tbl k) x).trans (by rfl)).symm)
  rw [e]
  exact h
/-! ### spec_l2Side: function 180 -/
def spec_l2Side.m (k : Nat) (a0 : Int) : Option (Bool) := ((spec_l1In.f k a0 1 8).bind fun r1 => (some r1))
def spec_l2Side.f (k : Nat) (a0 : Int) : Option (Bool) := spec_l2Side.m k a0
noncomputable def spec_l2Side.spec (k : Nat) : FnSpec := ⟨[.d (.int .i64) none], [.d .bool none], fun x => spec_l2Side.f k x⟩
noncomputable def spec_l2Side.T : FnText := ⟨(conv [] (bodyOf Go.Proofs.Try.f180) 0).1, Go.Proofs.Try.f180.results.toList, 5, [], [.d (.int .i64) none], [.d .bool none]⟩
noncomputable def spec_l2Side.tbl (k : Nat) : Tbl := [(134, spec_l1In.spec k)]
theorem spec_l2Side.e (k : Nat) (o : Nat → St → Option (Bool)) (a0 : Int) : spec_l2Side.T.main tyt (spec_l2Side.tbl k) o a0 = spec_l2Side.m k a0 := by kernel_rfl
theorem spec_l2Side.ok : spec_l2Side.T.ok = true := by kernel_rfl
theorem spec_l2Side.tblok (k : Nat) : TblOk Go.Proofs.Try.prog (spec_l2Side.tbl k) := TblOk.cons (spec_l1In.sound k) (TblOk.nil _)
theorem spec_l2Side.sound (k : Nat) : Sound Go.Proofs.Try.prog 180 (spec_l2Side.spec k) := by
  have h := fn_ok (F := spec_l2Side.T) (tbl := spec_l2Side.tbl) mixed tyok Go.Proofs.Try.func180 (by kernel_rfl) (c0 := bodyOf Go.Proofs.Try.f180) rfl (conv_code _ _ _) rfl rfl spec_l2Side.ok k (fun j _ => spec_l2Side.tblok j)
  have e : spec_l2Side.spec k = ⟨spec_l2Side.T.ps, spec_l2Side.T.rs, spec_l2Side.T.ev tyt spec_l2Side.tbl k⟩ := congrArg (FnSpec.mk _ _) (funext fun x => ((spec_l2Side.e k (spec_l2Side.T.run tyt spec_l2Side.tbl k) x).trans (by rfl)).symm)
  rw [e]
  exact h
/-! ### spec_l2Good: function 131 -/
def spec_l2Good.b3 (o3 : Int → Int → List Int → Int → Option (Bool)) (k : Nat) (x0_3 : Int) (x1_3 : Int) (l2_3 : List Int) (x3_3 : Int) : Option (Bool) := (if x3_3 < (l2_3.length : Int) then ((chk l2_3.length x3_3).bind fun i1 => ((spec_l2Color.f k (l2_3.getD i1 0)).bind fun r2 => (cond (!r2) (some false) (o3 x0_3 x1_3 l2_3 (w64 (x3_3 + 1)))))) else ((spec_l2Side.f k x0_3).bind fun r3 => (cond r3 ((spec_l2Side.f k x1_3).bind fun r4 => (cond r4 (some (decide ((l2_3.length : Int) = (w64 (x0_3 * x1_3))))) (some false))) (some false))))
def spec_l2Good.l3 : Nat → Int → Int → List Int → Int → Option (Bool)
  | 0, _, _, _, _ => none
  | k + 1, x0_3, x1_3, l2_3, x3_3 => spec_l2Good.b3 (spec_l2Good.l3 k) k x0_3 x1_3 l2_3 x3_3
def spec_l2Good.m (o3 : Int → Int → List Int → Int → Option (Bool)) (k : Nat) (a0_0 : Int) (a0_1 : Int) (l0_2 : List Int) : Option (Bool) := (o3 a0_0 a0_1 l0_2 0)
def spec_l2Good.f (k : Nat) (a0_0 : Int) (a0_1 : Int) (l0_2 : List Int) : Option (Bool) := spec_l2Good.m (spec_l2Good.l3 k) k a0_0 a0_1 l0_2
noncomputable def spec_l2Good.spec (k : Nat) : FnSpec := ⟨[.ag [.d (.int .i64) none, .d (.int .i64) none, .d (.sl (.int .i64)) none]], [.d .bool none], fun x => spec_l2Good.f k x.1 x.2.1 x.2.2⟩
def spec_l2Good.S3 (x0_3 : Int) (x1_3 : Int) (l2_3 : List Int) (x3_3 : Int) : St := ⟨[(1, .ptr 100 0), (3, .val (.int .i64) x3_3)], [(100, some (.box [.val (.int .i64) x0_3, .val (.int .i64) x1_3, .val (.sl (.int .i64)) l2_3]))], 1000⟩
noncomputable def spec_l2Good.T : FnText := ⟨(conv [] (bodyOf Go.Proofs.Try.f131) 0).1, Go.Proofs.Try.f131.results.toList, 37, [(3, [(1, .bx 100 [.rd (.int .i64), .rd (.int .i64), .rd (.sl (.int .i64))]), (3, .rd (.int .i64))])], [.ag [.d (.int .i64) none, .d (.int .i64) none, .d (.sl (.int .i64)) none]], [.d .bool none]⟩
noncomputable def spec_l2Good.tbl (k : Nat) : Tbl := [(132, spec_l2Color.spec k), (180, spec_l2Side.spec k)]
theorem spec_l2Good.e3 (k : Nat) (o : Nat → St → Option (Bool)) (x0_3 : Int) (x1_3 : Int) (l2_3 : List Int) (x3_3 : Int) : spec_l2Good.T.step tyt (spec_l2Good.tbl k) o 3 (spec_l2Good.S3 x0_3 x1_3 l2_3 x3_3) = spec_l2Good.b3 (fun x0_3 x1_3 l2_3 x3_3 => o 3 (spec_l2Good.S3 x0_3 x1_3 l2_3 x3_3)) k x0_3 x1_3 l2_3 x3_3 := by kernel_rfl
theorem spec_l2Good.e (k : Nat) (o : Nat → St → Option (Bool)) (a0_0 : Int) (a0_1 : Int) (l0_2 : List Int) : spec_l2Good.T.main tyt (spec_l2Good.tbl k) o (a0_0, a0_1, l0_2) = spec_l2Good.m (fun x0_3 x1_3 l2_3 x3_3 => o 3 (spec_l2Good.S3 x0_3 x1_3 l2_3 x3_3)) k a0_0 a0_1 l0_2 := by kernel_rfl
theorem spec_l2Good.ok : spec_l2Good.T.ok = true := by kernel_rfl
theorem spec_l2Good.run (k : Nat) : (∀ (x0_3 : Int) (x1_3 : Int) (l2_3 : List Int) (x3_3 : Int), spec_l2Good.T.run tyt spec_l2Good.tbl k 3 (spec_l2Good.S3 x0_3 x1_3 l2_3 x3_3) = spec_l2Good.l3 k x0_3 x1_3 l2_3 x3_3) := by
  induction k with
  | zero => exact fun x0_3 x1_3 l2_3 x3_3 => rfl
  | succ k ih =>
    exact fun x0_3 x1_3 l2_3 x3_3 => by
      have q3 : (fun x0_3 x1_3 l2_3 x3_3 => spec_l2Good.T.run tyt spec_l2Good.tbl k 3 (spec_l2Good.S3 x0_3 x1_3 l2_3 x3_3)) = spec_l2Good.l3 k := by funext x0_3 x1_3 l2_3 x3_3; exact ih x0_3 x1_3 l2_3 x3_3
      exact (spec_l2Good.e3 k (spec_l2Good.T.run tyt spec_l2Good.tbl k) x0_3 x1_3 l2_3 x3_3).trans (by rw [q3]; rfl)
theorem spec_l2Good.tblok (k : Nat) : TblOk Go.Proofs.Try.prog (spec_l2Good.tbl k) := TblOk.cons (spec_l2Color.sound k) (TblOk.cons (spec_l2Side.sound k) (TblOk.nil _))
theorem spec_l2Good.sound (k : Nat) : Sound Go.Proofs.Try.prog 131 (spec_l2Good.spec k) := by
  have h := fn_ok (F := spec_l2Good.T) (tbl := spec_l2Good.tbl) mixed tyok Go.Proofs.Try.func131 (by kernel_rfl) (c0 := bodyOf Go.Proofs.Try.f131) rfl (conv_code _ _ _) rfl rfl spec_l2Good.ok k (fun j _ => spec_l2Good.tblok j)
  have q3 : (fun x0_3 x1_3 l2_3 x3_3 => spec_l2Good.T.run tyt spec_l2Good.tbl k 3 (spec_l2Good.S3 x0_3 x1_3 l2_3 x3_3)) = spec_l2Good.l3 k := by funext x0_3 x1_3 l2_3 x3_3; exact (spec_l2Good.run k) x0_3 x1_3 l2_3 x3_3
  have e : spec_l2Good.spec k = ⟨spec_l2Good.T.ps, spec_l2Good.T.rs, spec_l2Good.T.ev tyt spec_l2Good.tbl k⟩ := congrArg (FnSpec.mk _ _) (funext fun x => ((spec_l2Good.e k (spec_l2Good.T.run tyt spec_l2Good.tbl k) x.1 x.2.1 x.2.2).trans (by rw [q3]; rfl)).symm)
  rw [e]
  exact h
/-! ### spec_l12Next: function 227 -/
def spec_l12Next.b3 (o5 : Int → Int → Int → List Int → Int → Int → List Int → Option (List Int)) (k : Nat) (x0_3 : Int) (x1_3 : Int) (x2_3 : Int) (l3_3 : List Int) (x4_3 : Int) (x5_3 : Int) (l6_3 : List Int) : Option (List Int) := (if 0 < x5_3 then ((app 17592186044416 l6_3 [(w64 (x0_3 - 1))]).bind fun l4 => (o5 x0_3 x1_3 x2_3 l3_3 x4_3 x5_3 l4)) else (o5 x0_3 x1_3 x2_3 l3_3 x4_3 x5_3 l6_3))
def spec_l12Next.b5 (o7 : Int → Int → Int → List Int → Int → List Int → Option (List Int)) (k : Nat) (x0_5 : Int) (x1_5 : Int) (x2_5 : Int) (l3_5 : List Int) (x4_5 : Int) (x5_5 : Int) (l6_5 : List Int) : Option (List Int) := (if x5_5 < (w64 (x1_5 - 1)) then ((app 17592186044416 l6_5 [(w64 (x0_5 + 1))]).bind fun l5 => (o7 x0_5 x1_5 x2_5 l3_5 x4_5 l5)) else (o7 x0_5 x1_5 x2_5 l3_5 x4_5 l6_5))
def spec_l12Next.b7 (k : Nat) (x0_7 : Int) (x1_7 : Int) (x2_7 : Int) (l3_7 : List Int) (x4_7 : Int) (l5_7 : List Int) : Option (List Int) := (if x4_7 < (w64 (x2_7 - 1)) then ((app 17592186044416 l5_7 [(w64 (x0_7 + x1_7))]).bind fun l6 => (some l6)) else (some l5_7))
mutual
def spec_l12Next.l3 : Nat → Int → Int → Int → List Int → Int → Int → List Int → Option (List Int)
  | 0, _, _, _, _, _, _, _ => none
  | k + 1, x0_3, x1_3, x2_3, l3_3, x4_3, x5_3, l6_3 => spec_l12Next.b3 (spec_l12Next.l5 k) k x0_3 x1_3 x2_3 l3_3 x4_3 x5_3 l6_3
def spec_l12Next.l5 : Nat → Int → Int → Int → List Int → Int → Int → List Int → Option (List Int)
  | 0, _, _, _, _, _, _, _ => none
  | k + 1, x0_5, x1_5, x2_5, l3_5, x4_5, x5_5, l6_5 => spec_l12Next.b5 (spec_l12Next.l7 k) k x0_5 x1_5 x2_5 l3_5 x4_5 x5_5 l6_5
def spec_l12Next.l7 : Nat → Int → Int → Int → List Int → Int → List Int → Option (List Int)
  | 0, _, _, _, _, _, _ => none
  | k + 1, x0_7, x1_7, x2_7, l3_7, x4_7, l5_7 => spec_l12Next.b7 k x0_7 x1_7 x2_7 l3_7 x4_7 l5_7
end
def spec_l12Next.m (o3 : Int → Int → Int → List Int → Int → Int → List Int → Option (List Int)) (k : Nat) (a0_0 : Int) (a0_1 : Int) (l0_2 : List Int) (a1 : Int) : Option (List Int) := ((quo .i64 a1 a0_0).bind fun q1 => ((rem a1 a0_0).bind fun q2 => (if 0 < q1 then ((app 17592186044416 ([] : List (Int)) [(w64 (a1 - a0_0))]).bind fun l3 => (o3 a1 a0_0 a0_1 l0_2 q1 q2 l3)) else (o3 a1 a0_0 a0_1 l0_2 q1 q2 ([] : List (Int))))))
def spec_l12Next.f (k : Nat) (a0_0 : Int) (a0_1 : Int) (l0_2 : List Int) (a1 : Int) : Option (List Int) := spec_l12Next.m (spec_l12Next.l3 k) k a0_0 a0_1 l0_2 a1
noncomputable def spec_l12Next.spec (k : Nat) : FnSpec := ⟨[.ag [.d (.int .i64) none, .d (.int .i64) none, .d (.sl (.int .i64)) none], .d (.int .i64) none], [.d (.sl (.int .i64)) (some 3)], fun x => spec_l12Next.f k x.1 x.2.1 x.2.2.1 x.2.2.2⟩
def spec_l12Next.S3 (x0_3 : Int) (x1_3 : Int) (x2_3 : Int) (l3_3 : List Int) (x4_3 : Int) (x5_3 : Int) (l6_3 : List Int) : St := ⟨[(1, .val (.int .i64) x0_3), (2, .ptr 100 0), (5, .val (.int .i64) x4_3), (6, .val (.int .i64) x5_3), (7, .ref 101)], [(101, some (.row 3 (.int .i64) l6_3)), (100, some (.box [.val (.int .i64) x1_3, .val (.int .i64) x2_3, .val (.sl (.int .i64)) l3_3]))], 1000⟩
def spec_l12Next.S5 (x0_5 : Int) (x1_5 : Int) (x2_5 : Int) (l3_5 : List Int) (x4_5 : Int) (x5_5 : Int) (l6_5 : List Int) : St := ⟨[(1, .val (.int .i64) x0_5), (2, .ptr 100 0), (5, .val (.int .i64) x4_5), (6, .val (.int .i64) x5_5), (7, .ref 101)], [(101, some (.row 3 (.int .i64) l6_5)), (100, some (.box [.val (.int .i64) x1_5, .val (.int .i64) x2_5, .val (.sl (.int .i64)) l3_5]))], 1000⟩
def spec_l12Next.S7 (x0_7 : Int) (x1_7 : Int) (x2_7 : Int) (l3_7 : List Int) (x4_7 : Int) (l5_7 : List Int) : St := ⟨[(1, .val (.int .i64) x0_7), (2, .ptr 100 0), (5, .val (.int .i64) x4_7), (7, .ref 101)], [(101, some (.row 3 (.int .i64) l5_7)), (100, some (.box [.val (.int .i64) x1_7, .val (.int .i64) x2_7, .val (.sl (.int .i64)) l3_7]))], 1000⟩
noncomputable def spec_l12Next.T : FnText := ⟨(conv [3, 5, 7] (bodyOf Go.Proofs.Try.f227) 0).1, Go.Proofs.Try.f227.results.toList, 56, [(3, [(1, .rd (.int .i64)), (2, .bx 100 [.rd (.int .i64), .rd (.int .i64), .rd (.sl (.int .i64))]), (5, .rd (.int .i64)), (6, .rd (.int .i64)), (7, .own 3 (.int .i64) 101)]), (5, [(1, .rd (.int .i64)), (2, .bx 100 [.rd (.int .i64), .rd (.int .i64), .rd (.sl (.int .i64))]), (5, .rd (.int .i64)), (6, .rd (.int .i64)), (7, .own 3 (.int .i64) 101)]), (7, [(1, .rd (.int .i64)), (2, .bx 100 [.rd (.int .i64), .rd (.int .i64), .rd (.sl (.int .i64))]), (5, .rd (.int .i64)), (7, .own 3 (.int .i64) 101)])], [.ag [.d (.int .i64) none, .d (.int .i64) none, .d (.sl (.int .i64)) none], .d (.int .i64) none], [.d (.sl (.int .i64)) (some 3)]⟩
noncomputable def spec_l12Next.tbl (k : Nat) : Tbl := []
theorem spec_l12Next.e3 (k : Nat) (o : Nat → St → Option (List Int)) (x0_3 : Int) (x1_3 : Int) (x2_3 : Int) (l3_3 : List Int) (x4_3 : Int) (x5_3 : Int) (l6_3 : List Int) : spec_l12Next.T.step tyt (spec_l12Next.tbl k) o 3 (spec_l12Next.S3 x0_3 x1_3 x2_3 l3_3 x4_3 x5_3 l6_3) = spec_l12Next.b3 (fun x0_5 x1_5 x2_5 l3_5 x4_5 x5_5 l6_5 => o 5 (spec_l12Next.S5 x0_5 x1_5 x2_5 l3_5 x4_5 x5_5 l6_5)) k x0_3 x1_3 x2_3 l3_3 x4_3 x5_3 l6_3 := by kernel_rfl
theorem spec_l12Next.e5 (k : Nat) (o : Nat → St → Option (List Int)) (x0_5 : Int) (x1_5 : Int) (x2_5 : Int) (l3_5 : List Int) (x4_5 : Int) (x5_5 : Int) (l6_5 : List Int) : spec_l12Next.T.step tyt (spec_l12Next.tbl k) o 5 (spec_l12Next.S5 x0_5 x1_5 x2_5 l3_5 x4_5 x5_5 l6_5) = spec_l12Next.b5 (fun x0_7 x1_7 x2_7 l3_7 x4_7 l5_7 => o 7 (spec_l12Next.S7 x0_7 x1_7 x2_7 l3_7 x4_7 l5_7)) k x0_5 x1_5 x2_5 l3_5 x4_5 x5_5 l6_5 := by kernel_rfl
theorem spec_l12Next.e7 (k : Nat) (o : Nat → St → Option (List Int)) (x0_7 : Int) (x1_7 : Int) (x2_7 : Int) (l3_7 : List Int) (x4_7 : Int) (l5_7 : List Int) : spec_l12Next.T.step tyt (spec_l12Next.tbl k) o 7 (spec_l12Next.S7 x0_7 x1_7 x2_7 l3_7 x4_7 l5_7) = spec_l12Next.b7 k x0_7 x1_7 x2_7 l3_7 x4_7 l5_7 := by kernel_rfl
theorem spec_l12Next.e (k : Nat) (o : Nat → St → Option (List Int)) (a0_0 : Int) (a0_1 : Int) (l0_2 : List Int) (a1 : Int) : spec_l12Next.T.main tyt (spec_l12Next.tbl k) o (a0_0, a0_1, l0_2, a1) = spec_l12Next.m (fun x0_3 x1_3 x2_3 l3_3 x4_3 x5_3 l6_3 => o 3 (spec_l12Next.S3 x0_3 x1_3 x2_3 l3_3 x4_3 x5_3 l6_3)) k a0_0 a0_1 l0_2 a1 := by kernel_rfl
theorem spec_l12Next.ok : spec_l12Next.T.ok = true := by kernel_rfl
theorem spec_l12Next.run (k : Nat) : (∀ (x0_3 : Int) (x1_3 : Int) (x2_3 : Int) (l3_3 : List Int) (x4_3 : Int) (x5_3 : Int) (l6_3 : List Int), spec_l12Next.T.run tyt spec_l12Next.tbl k 3 (spec_l12Next.S3 x0_3 x1_3 x2_3 l3_3 x4_3 x5_3 l6_3) = spec_l12Next.l3 k x0_3 x1_3 x2_3 l3_3 x4_3 x5_3 l6_3) ∧ (∀ (x0_5 : Int) (x1_5 : Int) (x2_5 : Int) (l3_5 : List Int) (x4_5 : Int) (x5_5 : Int) (l6_5 : List Int), spec_l12Next.T.run tyt spec_l12Next.tbl k 5 (spec_l12Next.S5 x0_5 x1_5 x2_5 l3_5 x4_5 x5_5 l6_5) = spec_l12Next.l5 k x0_5 x1_5 x2_5 l3_5 x4_5 x5_5 l6_5) ∧ (∀ (x0_7 : Int) (x1_7 : Int) (x2_7 : Int) (l3_7 : List Int) (x4_7 : Int) (l5_7 : List Int), spec_l12Next.T.run tyt spec_l12Next.tbl k 7 (spec_l12Next.S7 x0_7 x1_7 x2_7 l3_7 x4_7 l5_7) = spec_l12Next.l7 k x0_7 x1_7 x2_7 l3_7 x4_7 l5_7) := by
  induction k with
  | zero => exact ⟨fun x0_3 x1_3 x2_3 l3_3 x4_3 x5_3 l6_3 => rfl, fun x0_5 x1_5 x2_5 l3_5 x4_5 x5_5 l6_5 => rfl, fun x0_7 x1_7 x2_7 l3_7 x4_7 l5_7 => rfl⟩
  | succ k ih =>
    exact ⟨fun x0_3 x1_3 x2_3 l3_3 x4_3 x5_3 l6_3 => by
      have q5 : (fun x0_5 x1_5 x2_5 l3_5 x4_5 x5_5 l6_5 => spec_l12Next.T.run tyt spec_l12Next.tbl k 5 (spec_l12Next.S5 x0_5 x1_5 x2_5 l3_5 x4_5 x5_5 l6_5)) = spec_l12Next.l5 k := by funext x0_5 x1_5 x2_5 l3_5 x4_5 x5_5 l6_5; exact ih.2.1 x0_5 x1_5 x2_5 l3_5 x4_5 x5_5 l6_5
      exact (spec_l12Next.e3 k (spec_l12Next.T.run tyt spec_l12Next.tbl k) x0_3 x1_3 x2_3 l3_3 x4_3 x5_3 l6_3).trans (by rw [q5]; rfl), fun x0_5 x1_5 x2_5 l3_5 x4_5 x5_5 l6_5 => by
      have q7 : (fun x0_7 x1_7 x2_7 l3_7 x4_7 l5_7 => spec_l12Next.T.run tyt spec_l12Next.tbl k 7 (spec_l12Next.S7 x0_7 x1_7 x2_7 l3_7 x4_7 l5_7)) = spec_l12Next.l7 k := by funext x0_7 x1_7 x2_7 l3_7 x4_7 l5_7; exact ih.2.2 x0_7 x1_7 x2_7 l3_7 x4_7 l5_7
      exact (spec_l12Next.e5 k (spec_l12Next.T.run tyt spec_l12Next.tbl k) x0_5 x1_5 x2_5 l3_5 x4_5 x5_5 l6_5).trans (by rw [q7]; rfl), fun x0_7 x1_7 x2_7 l3_7 x4_7 l5_7 => by
      exact (spec_l12Next.e7 k (spec_l12Next.T.run tyt spec_l12Next.tbl k) x0_7 x1_7 x2_7 l3_7 x4_7 l5_7).trans (by rfl)⟩
theorem spec_l12Next.tblok (k : Nat) : TblOk Go.Proofs.Try.prog (spec_l12Next.tbl k) := TblOk.nil _
theorem spec_l12Next.sound (k : Nat) : Sound Go.Proofs.Try.prog 227 (spec_l12Next.spec k) := by
  have h := fn_ok (F := spec_l12Next.T) (tbl := spec_l12Next.tbl) mixed tyok Go.Proofs.Try.func227 (by kernel_rfl) (c0 := bodyOf Go.Proofs.Try.f227) rfl (conv_code _ _ _) rfl rfl spec_l12Next.ok k (fun j _ => spec_l12Next.tblok j)
  have q3 : (fun x0_3 x1_3 x2_3 l3_3 x4_3 x5_3 l6_3 => spec_l12Next.T.run tyt spec_l12Next.tbl k 3 (spec_l12Next.S3 x0_3 x1_3 x2_3 l3_3 x4_3 x5_3 l6_3)) = spec_l12Next.l3 k := by funext x0_3 x1_3 x2_3 l3_3 x4_3 x5_3 l6_3; exact (spec_l12Next.run k).1 x0_3 x1_3 x2_3 l3_3 x4_3 x5_3 l6_3
  have e : spec_l12Next.spec k = ⟨spec_l12Next.T.ps, spec_l12Next.T.rs, spec_l12Next.T.ev tyt spec_l12Next.tbl k⟩ := congrArg (FnSpec.mk _ _) (funext fun x => ((spec_l12Next.e k (spec_l12Next.T.run tyt spec_l12Next.tbl k) x.1 x.2.1 x.2.2.1 x.2.2.2).trans (by rw [q3]; rfl)).symm)
  rw [e]
  exact h
/-! ### spec_l12Areas: function 133 -/
def spec_l12Areas.b4 (o4 : Int → Int → List Int → List Int → Int → Option (List Int × Int)) (o11 : Int → Int → List Int → List Int → Int → Int → Option (List Int × Int)) (k : Nat) (x0_4 : Int) (x1_4 : Int) (l2_4 : List Int) (l3_4 : List Int) (x4_4 : Int) : Option (List Int × Int) := (if x4_4 < (l2_4.length : Int) then ((app 17592186044416 l3_4 [(-1)]).bind fun l1 => (o4 x0_4 x1_4 l2_4 l1 (w64 (x4_4 + 1)))) else (o11 x0_4 x1_4 l2_4 l3_4 0 0))
def spec_l12Areas.b11 (o11 : Int → Int → List Int → List Int → Int → Int → Option (List Int × Int)) (o21 : Int → Int → List Int → List Int → Int → Int → List Int → Int → Option (List Int × Int)) (k : Nat) (x0_11 : Int) (x1_11 : Int) (l2_11 : List Int) (l3_11 : List Int) (x4_11 : Int) (x5_11 : Int) : Option (List Int × Int) := (if x5_11 < (l3_11.length : Int) then ((chk l3_11.length x5_11).bind fun i2 => (if 0 ≤ (l3_11.getD i2 0) then (o11 x0_11 x1_11 l2_11 l3_11 x4_11 (w64 (x5_11 + 1))) else ((chk l3_11.length x5_11).bind fun i3 => (o21 x0_11 x1_11 l2_11 (l3_11.set i3 x4_11) x4_11 x5_11 [x5_11] 0)))) else (some (l3_11, x4_11)))
def spec_l12Areas.b21 (o11 : Int → Int → List Int → List Int → Int → Int → Option (List Int × Int)) (o27 : Int → Int → List Int → List Int → Int → Int → List Int → Int → List Int → Int → Option (List Int × Int)) (k : Nat) (x0_21 : Int) (x1_21 : Int) (l2_21 : List Int) (l3_21 : List Int) (x4_21 : Int) (x5_21 : Int) (l6_21 : List Int) (x7_21 : Int) : Option (List Int × Int) := (if x7_21 < (l6_21.length : Int) then ((chk l6_21.length x7_21).bind fun i5 => ((spec_l12Next.f k x0_21 x1_21 l2_21 (l6_21.getD i5 0)).bind fun r6 => (o27 x0_21 x1_21 l2_21 l3_21 x4_21 x5_21 l6_21 x7_21 r6 0))) else (o11 x0_21 x1_21 l2_21 l3_21 (w64 (x4_21 + 1)) (w64 (x5_21 + 1))))
def spec_l12Areas.b27 (o21 : Int → Int → List Int → List Int → Int → Int → List Int → Int → Option (List Int × Int)) (o31 : Int → Int → List Int → List Int → Int → Int → List Int → Int → List Int → Int → Bool → Option (List Int × Int)) (k : Nat) (x0_27 : Int) (x1_27 : Int) (l2_27 : List Int) (l3_27 : List Int) (x4_27 : Int) (x5_27 : Int) (l6_27 : List Int) (x7_27 : Int) (l8_27 : List Int) (x9_27 : Int) : Option (List Int × Int) := (if x9_27 < (l8_27.length : Int) then ((chk l8_27.length x9_27).bind fun i7 => ((chk l3_27.length (l8_27.getD i7 0)).bind fun i8 => (if (l3_27.getD i8 0) < 0 then ((chk l8_27.length x9_27).bind fun i9 => ((chk l2_27.length (l8_27.getD i9 0)).bind fun i10 => ((chk l2_27.length x5_27).bind fun i11 => (o31 x0_27 x1_27 l2_27 l3_27 x4_27 x5_27 l6_27 x7_27 l8_27 x9_27 (decide ((l2_27.getD i10 0) = (l2_27.getD i11 0))))))) else (o31 x0_27 x1_27 l2_27 l3_27 x4_27 x5_27 l6_27 x7_27 l8_27 x9_27 false)))) else (o21 x0_27 x1_27 l2_27 l3_27 x4_27 x5_27 l6_27 (w64 (x7_27 + 1))))
def spec_l12Areas.b31 (o27 : Int → Int → List Int → List Int → Int → Int → List Int → Int → List Int → Int → Option (List Int × Int)) (k : Nat) (x0_31 : Int) (x1_31 : Int) (l2_31 : List Int) (l3_31 : List Int) (x4_31 : Int) (x5_31 : Int) (l6_31 : List Int) (x7_31 : Int) (l8_31 : List Int) (x9_31 : Int) (x10_31 : Bool) : Option (List Int × Int) := (cond x10_31 ((chk l8_31.length x9_31).bind fun i12 => ((chk l3_31.length (l8_31.getD i12 0)).bind fun i13 => ((chk l8_31.length x9_31).bind fun i15 => ((app 17592186044416 l6_31 [(l8_31.getD i15 0)]).bind fun l16 => (o27 x0_31 x1_31 l2_31 (l3_31.set i13 x4_31) x4_31 x5_31 l16 x7_31 l8_31 (w64 (x9_31 + 1))))))) (o27 x0_31 x1_31 l2_31 l3_31 x4_31 x5_31 l6_31 x7_31 l8_31 (w64 (x9_31 + 1))))
mutual
def spec_l12Areas.l4 : Nat → Int → Int → List Int → List Int → Int → Option (List Int × Int)
  | 0, _, _, _, _, _ => none
  | k + 1, x0_4, x1_4, l2_4, l3_4, x4_4 => spec_l12Areas.b4 (spec_l12Areas.l4 k) (spec_l12Areas.l11 k) k x0_4 x1_4 l2_4 l3_4 x4_4
def spec_l12Areas.l11 : Nat → Int → Int → List Int → List Int → Int → Int → Option (List Int × Int)
  | 0, _, _, _, _, _, _ => none
  | k + 1, x0_11, x1_11, l2_11, l3_11, x4_11, x5_11 => spec_l12Areas.b11 (spec_l12Areas.l11 k) (spec_l12Areas.l21 k) k x0_11 x1_11 l2_11 l3_11 x4_11 x5_11
def spec_l12Areas.l21 : Nat → Int → Int → List Int → List Int → Int → Int → List Int → Int → Option (List Int × Int)
  | 0, _, _, _, _, _, _, _, _ => none
  | k + 1, x0_21, x1_21, l2_21, l3_21, x4_21, x5_21, l6_21, x7_21 => spec_l12Areas.b21 (spec_l12Areas.l11 k) (spec_l12Areas.l27 k) k x0_21 x1_21 l2_21 l3_21 x4_21 x5_21 l6_21 x7_21
def spec_l12Areas.l27 : Nat → Int → Int → List Int → List Int → Int → Int → List Int → Int → List Int → Int → Option (List Int × Int)
  | 0, _, _, _, _, _, _, _, _, _, _ => none
  | k + 1, x0_27, x1_27, l2_27, l3_27, x4_27, x5_27, l6_27, x7_27, l8_27, x9_27 => spec_l12Areas.b27 (spec_l12Areas.l21 k) (spec_l12Areas.l31 k) k x0_27 x1_27 l2_27 l3_27 x4_27 x5_27 l6_27 x7_27 l8_27 x9_27
def spec_l12Areas.l31 : Nat → Int → Int → List Int → List Int → Int → Int → List Int → Int → List Int → Int → Bool → Option (List Int × Int)
  | 0, _, _, _, _, _, _, _, _, _, _, _ => none
  | k + 1, x0_31, x1_31, l2_31, l3_31, x4_31, x5_31, l6_31, x7_31, l8_31, x9_31, x10_31 => spec_l12Areas.b31 (spec_l12Areas.l27 k) k x0_31 x1_31 l2_31 l3_31 x4_31 x5_31 l6_31 x7_31 l8_31 x9_31 x10_31
end
def spec_l12Areas.m (o4 : Int → Int → List Int → List Int → Int → Option (List Int × Int)) (k : Nat) (a0_0 : Int) (a0_1 : Int) (l0_2 : List Int) : Option (List Int × Int) := (o4 a0_0 a0_1 l0_2 ([] : List (Int)) 0)
def spec_l12Areas.f (k : Nat) (a0_0 : Int) (a0_1 : Int) (l0_2 : List Int) : Option (List Int × Int) := spec_l12Areas.m (spec_l12Areas.l4 k) k a0_0 a0_1 l0_2
noncomputable def spec_l12Areas.spec (k : Nat) : FnSpec := ⟨[.ag [.d (.int .i64) none, .d (.int .i64) none, .d (.sl (.int .i64)) none]], [.d (.sl (.int .i64)) (some 3), .d (.int .i64) none], fun x => spec_l12Areas.f k x.1 x.2.1 x.2.2⟩
def spec_l12Areas.S4 (x0_4 : Int) (x1_4 : Int) (l2_4 : List Int) (l3_4 : List Int) (x4_4 : Int) : St := ⟨[(1, .ptr 100 0), (4, .ref 101), (5, .val (.int .i64) x4_4)], [(101, some (.row 3 (.int .i64) l3_4)), (100, some (.box [.val (.int .i64) x0_4, .val (.int .i64) x1_4, .val (.sl (.int .i64)) l2_4]))], 1000⟩
def spec_l12Areas.S11 (x0_11 : Int) (x1_11 : Int) (l2_11 : List Int) (l3_11 : List Int) (x4_11 : Int) (x5_11 : Int) : St := ⟨[(1, .ptr 100 0), (4, .ref 101), (6, .val (.int .i64) x4_11), (7, .val (.int .i64) x5_11)], [(101, some (.row 3 (.int .i64) l3_11)), (100, some (.box [.val (.int .i64) x0_11, .val (.int .i64) x1_11, .val (.sl (.int .i64)) l2_11]))], 1000⟩
def spec_l12Areas.S21 (x0_21 : Int) (x1_21 : Int) (l2_21 : List Int) (l3_21 : List Int) (x4_21 : Int) (x5_21 : Int) (l6_21 : List Int) (x7_21 : Int) : St := ⟨[(1, .ptr 100 0), (4, .ref 101), (6, .val (.int .i64) x4_21), (7, .val (.int .i64) x5_21), (8, .ref 102), (9, .val (.int .i64) x7_21)], [(102, some (.row 3 (.int .i64) l6_21)), (101, some (.row 3 (.int .i64) l3_21)), (100, some (.box [.val (.int .i64) x0_21, .val (.int .i64) x1_21, .val (.sl (.int .i64)) l2_21]))], 1000⟩
def spec_l12Areas.S27 (x0_27 : Int) (x1_27 : Int) (l2_27 : List Int) (l3_27 : List Int) (x4_27 : Int) (x5_27 : Int) (l6_27 : List Int) (x7_27 : Int) (l8_27 : List Int) (x9_27 : Int) : St := ⟨[(1, .ptr 100 0), (4, .ref 101), (6, .val (.int .i64) x4_27), (7, .val (.int .i64) x5_27), (8, .ref 102), (9, .val (.int .i64) x7_27), (10, .ref 103), (11, .val (.int .i64) x9_27)], [(103, some (.row 3 (.int .i64) l8_27)), (102, some (.row 3 (.int .i64) l6_27)), (101, some (.row 3 (.int .i64) l3_27)), (100, some (.box [.val (.int .i64) x0_27, .val (.int .i64) x1_27, .val (.sl (.int .i64)) l2_27]))], 1000⟩
def spec_l12Areas.S31 (x0_31 : Int) (x1_31 : Int) (l2_31 : List Int) (l3_31 : List Int) (x4_31 : Int) (x5_31 : Int) (l6_31 : List Int) (x7_31 : Int) (l8_31 : List Int) (x9_31 : Int) (x10_31 : Bool) : St := ⟨[(1, .ptr 100 0), (4, .ref 101), (6, .val (.int .i64) x4_31), (7, .val (.int .i64) x5_31), (8, .ref 102), (9, .val (.int .i64) x7_31), (10, .ref 103), (11, .val (.int .i64) x9_31), (81, .val .bool x10_31)], [(103, some (.row 3 (.int .i64) l8_31)), (102, some (.row 3 (.int .i64) l6_31)), (101, some (.row 3 (.int .i64) l3_31)), (100, some (.box [.val (.int .i64) x0_31, .val (.int .i64) x1_31, .val (.sl (.int .i64)) l2_31]))], 1000⟩
noncomputable def spec_l12Areas.T : FnText := ⟨(conv [31] (bodyOf Go.Proofs.Try.f133) 0).1, Go.Proofs.Try.f133.results.toList, 100, [(4, [(1, .bx 100 [.rd (.int .i64), .rd (.int .i64), .rd (.sl (.int .i64))]), (4, .own 3 (.int .i64) 101), (5, .rd (.int .i64))]), (11, [(1, .bx 100 [.rd (.int .i64), .rd (.int .i64), .rd (.sl (.int .i64))]), (4, .own 3 (.int .i64) 101), (6, .rd (.int .i64)), (7, .rd (.int .i64))]), (21, [(1, .bx 100 [.rd (.int .i64), .rd (.int .i64), .rd (.sl (.int .i64))]), (4, .own 3 (.int .i64) 101), (6, .rd (.int .i64)), (7, .rd (.int .i64)), (8, .own 3 (.int .i64) 102), (9, .rd (.int .i64))]), (27, [(1, .bx 100 [.rd (.int .i64), .rd (.int .i64), .rd (.sl (.int .i64))]), (4, .own 3 (.int .i64) 101), (6, .rd (.int .i64)), (7, .rd (.int .i64)), (8, .own 3 (.int .i64) 102), (9, .rd (.int .i64)), (10, .own 3 (.int .i64) 103), (11, .rd (.int .i64))]), (31, [(1, .bx 100 [.rd (.int .i64), .rd (.int .i64), .rd (.sl (.int .i64))]), (4, .own 3 (.int .i64) 101), (6, .rd (.int .i64)), (7, .rd (.int .i64)), (8, .own 3 (.int .i64) 102), (9, .rd (.int .i64)), (10, .own 3 (.int .i64) 103), (11, .rd (.int .i64)), (81, .rd .bool)])], [.ag [.d (.int .i64) none, .d (.int .i64) none, .d (.sl (.int .i64)) none]], [.d (.sl (.int .i64)) (some 3), .d (.int .i64) none]⟩
noncomputable def spec_l12Areas.tbl (k : Nat) : Tbl := [(227, spec_l12Next.spec k)]
theorem spec_l12Areas.e4 (k : Nat) (o : Nat → St → Option (List Int × Int)) (x0_4 : Int) (x1_4 : Int) (l2_4 : List Int) (l3_4 : List Int) (x4_4 : Int) : spec_l12Areas.T.step tyt (spec_l12Areas.tbl k) o 4 (spec_l12Areas.S4 x0_4 x1_4 l2_4 l3_4 x4_4) = spec_l12Areas.b4 (fun x0_4 x1_4 l2_4 l3_4 x4_4 => o 4 (spec_l12Areas.S4 x0_4 x1_4 l2_4 l3_4 x4_4)) (fun x0_11 x1_11 l2_11 l3_11 x4_11 x5_11 => o 11 (spec_l12Areas.S11 x0_11 x1_11 l2_11 l3_11 x4_11 x5_11)) k x0_4 x1_4 l2_4 l3_4 x4_4 := by kernel_rfl
theorem spec_l12Areas.e11 (k : Nat) (o : Nat → St → Option (List Int × Int)) (x0_11 : Int) (x1_11 : Int) (l2_11 : List Int) (l3_11 : List Int) (x4_11 : Int) (x5_11 : Int) : spec_l12Areas.T.step tyt (spec_l12Areas.tbl k) o 11 (spec_l12Areas.S11 x0_11 x1_11 l2_11 l3_11 x4_11 x5_11) = spec_l12Areas.b11 (fun x0_11 x1_11 l2_11 l3_11 x4_11 x5_11 => o 11 (spec_l12Areas.S11 x0_11 x1_11 l2_11 l3_11 x4_11 x5_11)) (fun x0_21 x1_21 l2_21 l3_21 x4_21 x5_21 l6_21 x7_21 => o 21 (spec_l12Areas.S21 x0_21 x1_21 l2_21 l3_21 x4_21 x5_21 l6_21 x7_21)) k x0_11 x1_11 l2_11 l3_11 x4_11 x5_11 := by kernel_rfl
theorem spec_l12Areas.e21 (k : Nat) (o : Nat → St → Option (List Int × Int)) (x0_21 : Int) (x1_21 : Int) (l2_21 : List Int) (l3_21 : List Int) (x4_21 : Int) (x5_21 : Int) (l6_21 : List Int) (x7_21 : Int) : spec_l12Areas.T.step tyt (spec_l12Areas.tbl k) o 21 (spec_l12Areas.S21 x0_21 x1_21 l2_21 l3_21 x4_21 x5_21 l6_21 x7_21) = spec_l12Areas.b21 (fun x0_11 x1_11 l2_11 l3_11 x4_11 x5_11 => o 11 (spec_l12Areas.S11 x0_11 x1_11 l2_11 l3_11 x4_11 x5_11)) (fun x0_27 x1_27 l2_27 l3_27 x4_27 x5_27 l6_27 x7_27 l8_27 x9_27 => o 27 (spec_l12Areas.S27 x0_27 x1_27 l2_27 l3_27 x4_27 x5_27 l6_27 x7_27 l8_27 x9_27)) k x0_21 x1_21 l2_21 l3_21 x4_21 x5_21 l6_21 x7_21 := by kernel_rfl
theorem spec_l12Areas.e27 (k : Nat) (o : Nat → St → Option (List Int × Int)) (x0_27 : Int) (x1_27 : Int) (l2_27 : List Int) (l3_27 : List Int) (x4_27 : Int) (x5_27 : Int) (l6_27 : List Int) (x7_27 : Int) (l8_27 : List Int) (x9_27 : Int) : spec_l12Areas.T.step tyt (spec_l12Areas.tbl k) o 27 (spec_l12Areas.S27 x0_27 x1_27 l2_27 l3_27 x4_27 x5_27 l6_27 x7_27 l8_27 x9_27) = spec_l12Areas.b27 (fun x0_21 x1_21 l2_21 l3_21 x4_21 x5_21 l6_21 x7_21 => o 21 (spec_l12Areas.S21 x0_21 x1_21 l2_21 l3_21 x4_21 x5_21 l6_21 x7_21)) (fun x0_31 x1_31 l2_31 l3_31 x4_31 x5_31 l6_31 x7_31 l8_31 x9_31 x10_31 => o 31 (spec_l12Areas.S31 x0_31 x1_31 l2_31 l3_31 x4_31 x5_31 l6_31 x7_31 l8_31 x9_31 x10_31)) k x0_27 x1_27 l2_27 l3_27 x4_27 x5_27 l6_27 x7_27 l8_27 x9_27 := by kernel_rfl
theorem spec_l12Areas.e31 (k : Nat) (o : Nat → St → Option (List Int × Int)) (x0_31 : Int) (x1_31 : Int) (l2_31 : List Int) (l3_31 : List Int) (x4_31 : Int) (x5_31 : Int) (l6_31 : List Int) (x7_31 : Int) (l8_31 : List Int) (x9_31 : Int) (x10_31 : Bool) : spec_l12Areas.T.step tyt (spec_l12Areas.tbl k) o 31 (spec_l12Areas.S31 x0_31 x1_31 l2_31 l3_31 x4_31 x5_31 l6_31 x7_31 l8_31 x9_31 x10_31) = spec_l12Areas.b31 (fun x0_27 x1_27 l2_27 l3_27 x4_27 x5_27 l6_27 x7_27 l8_27 x9_27 => o 27 (spec_l12Areas.S27 x0_27 x1_27 l2_27 l3_27 x4_27 x5_27 l6_27 x7_27 l8_27 x9_27)) k x0_31 x1_31 l2_31 l3_31 x4_31 x5_31 l6_31 x7_31 l8_31 x9_31 x10_31 := by kernel_rfl
theorem spec_l12Areas.e (k : Nat) (o : Nat → St → Option (List Int × Int)) (a0_0 : Int) (a0_1 : Int) (l0_2 : List Int) : spec_l12Areas.T.main tyt (spec_l12Areas.tbl k) o (a0_0, a0_1, l0_2) = spec_l12Areas.m (fun x0_4 x1_4 l2_4 l3_4 x4_4 => o 4 (spec_l12Areas.S4 x0_4 x1_4 l2_4 l3_4 x4_4)) k a0_0 a0_1 l0_2 := by kernel_rfl
theorem spec_l12Areas.ok : spec_l12Areas.T.ok = true := by kernel_rfl
theorem spec_l12Areas.run (k : Nat) : (∀ (x0_4 : Int) (x1_4 : Int) (l2_4 : List Int) (l3_4 : List Int) (x4_4 : Int), spec_l12Areas.T.run tyt spec_l12Areas.tbl k 4 (spec_l12Areas.S4 x0_4 x1_4 l2_4 l3_4 x4_4) = spec_l12Areas.l4 k x0_4 x1_4 l2_4 l3_4 x4_4) ∧ (∀ (x0_11 : Int) (x1_11 : Int) (l2_11 : List Int) (l3_11 : List Int) (x4_11 : Int) (x5_11 : Int), spec_l12Areas.T.run tyt spec_l12Areas.tbl k 11 (spec_l12Areas.S11 x0_11 x1_11 l2_11 l3_11 x4_11 x5_11) = spec_l12Areas.l11 k x0_11 x1_11 l2_11 l3_11 x4_11 x5_11) ∧ (∀ (x0_21 : Int) (x1_21 : Int) (l2_21 : List Int) (l3_21 : List Int) (x4_21 : Int) (x5_21 : Int) (l6_21 : List Int) (x7_21 : Int), spec_l12Areas.T.run tyt spec_l12Areas.tbl k 21 (spec_l12Areas.S21 x0_21 x1_21 l2_21 l3_21 x4_21 x5_21 l6_21 x7_21) = spec_l12Areas.l21 k x0_21 x1_21 l2_21 l3_21 x4_21 x5_21 l6_21 x7_21) ∧ (∀ (x0_27 : Int) (x1_27 : Int) (l2_27 : List Int) (l3_27 : List Int) (x4_27 : Int) (x5_27 : Int) (l6_27 : List Int) (x7_27 : Int) (l8_27 : List Int) (x9_27 : Int), spec_l12Areas.T.run tyt spec_l12Areas.tbl k 27 (spec_l12Areas.S27 x0_27 x1_27 l2_27 l3_27 x4_27 x5_27 l6_27 x7_27 l8_27 x9_27) = spec_l12Areas.l27 k x0_27 x1_27 l2_27 l3_27 x4_27 x5_27 l6_27 x7_27 l8_27 x9_27) ∧ (∀ (x0_31 : Int) (x1_31 : Int) (l2_31 : List Int) (l3_31 : List Int) (x4_31 : Int) (x5_31 : Int) (l6_31 : List Int) (x7_31 : Int) (l8_31 : List Int) (x9_31 : Int) (x10_31 : Bool), spec_l12Areas.T.run tyt spec_l12Areas.tbl k 31 (spec_l12Areas.S31 x0_31 x1_31 l2_31 l3_31 x4_31 x5_31 l6_31 x7_31 l8_31 x9_31 x10_31) = spec_l12Areas.l31 k x0_31 x1_31 l2_31 l3_31 x4_31 x5_31 l6_31 x7_31 l8_31 x9_31 x10_31) := by
  induction k with
  | zero => exact ⟨fun x0_4 x1_4 l2_4 l3_4 x4_4 => rfl, fun x0_11 x1_11 l2_11 l3_11 x4_11 x5_11 => rfl, fun x0_21 x1_21 l2_21 l3_21 x4_21 x5_21 l6_21 x7_21 => rfl, fun x0_27 x1_27 l2_27 l3_27 x4_27 x5_27 l6_27 x7_27 l8_27 x9_27 => rfl, fun x0_31 x1_31 l2_31 l3_31 x4_31 x5_31 l6_31 x7_31 l8_31 x9_31 x10_31 => rfl⟩
  | succ k ih =>
    exact ⟨fun x0_4 x1_4 l2_4 l3_4 x4_4 => by
      have q4 : (fun x0_4 x1_4 l2_4 l3_4 x4_4 => spec_l12Areas.T.run tyt spec_l12Areas.tbl k 4 (spec_l12Areas.S4 x0_4 x1_4 l2_4 l3_4 x4_4)) = spec_l12Areas.l4 k := by funext x0_4 x1_4 l2_4 l3_4 x4_4; exact ih.1 x0_4 x1_4 l2_4 l3_4 x4_4
      have q11 : (fun x0_11 x1_11 l2_11 l3_11 x4_11 x5_11 => spec_l12Areas.T.run tyt spec_l12Areas.tbl k 11 (spec_l12Areas.S11 x0_11 x1_11 l2_11 l3_11 x4_11 x5_11)) = spec_l12Areas.l11 k := by funext x0_11 x1_11 l2_11 l3_11 x4_11 x5_11; exact ih.2.1 x0_11 x1_11 l2_11 l3_11 x4_11 x5_11
      exact (spec_l12Areas.e4 k (spec_l12Areas.T.run tyt spec_l12Areas.tbl k) x0_4 x1_4 l2_4 l3_4 x4_4).trans (by rw [q4, q11]; rfl), fun x0_11 x1_11 l2_11 l3_11 x4_11 x5_11 => by
      have q11 : (fun x0_11 x1_11 l2_11 l3_11 x4_11 x5_11 => spec_l12Areas.T.run tyt spec_l12Areas.tbl k 11 (spec_l12Areas.S11 x0_11 x1_11 l2_11 l3_11 x4_11 x5_11)) = spec_l12Areas.l11 k := by funext x0_11 x1_11 l2_11 l3_11 x4_11 x5_11; exact ih.2.1 x0_11 x1_11 l2_11 l3_11 x4_11 x5_11
      have q21 : (fun x0_21 x1_21 l2_21 l3_21 x4_21 x5_21 l6_21 x7_21 => spec_l12Areas.T.run tyt spec_l12Areas.tbl k 21 (spec_l12Areas.S21 x0_21 x1_21 l2_21 l3_21 x4_21 x5_21 l6_21 x7_21)) = spec_l12Areas.l21 k := by funext x0_21 x1_21 l2_21 l3_21 x4_21 x5_21 l6_21 x7_21; exact ih.2.2.1 x0_21 x1_21 l2_21 l3_21 x4_21 x5_21 l6_21 x7_21
      exact (spec_l12Areas.e11 k (spec_l12Areas.T.run tyt spec_l12Areas.tbl k) x0_11 x1_11 l2_11 l3_11 x4_11 x5_11).trans (by rw [q11, q21]; rfl), fun x0_21 x1_21 l2_21 l3_21 x4_21 x5_21 l6_21 x7_21 => by
      have q11 : (fun x0_11 x1_11 l2_11 l3_11 x4_11 x5_11 => spec_l12Areas.T.run tyt spec_l12Areas.tbl k 11 (spec_l12Areas.S11 x0_11 x1_11 l2_11 l3_11 x4_11 x5_11)) = spec_l12Areas.l11 k := by funext x0_11 x1_11 l2_11 l3_11 x4_11 x5_11; exact ih.2.1 x0_11 x1_11 l2_11 l3_11 x4_11 x5_11
      have q27 : (fun x0_27 x1_27 l2_27 l3_27 x4_27 x5_27 l6_27 x7_27 l8_27 x9_27 => spec_l12Areas.T.run tyt spec_l12Areas.tbl k 27 (spec_l12Areas.S27 x0_27 x1_27 l2_27 l3_27 x4_27 x5_27 l6_27 x7_27 l8_27 x9_27)) = spec_l12Areas.l27 k := by funext x0_27 x1_27 l2_27 l3_27 x4_27 x5_27 l6_27 x7_27 l8_27 x9_27; exact ih.2.2.2.1 x0_27 x1_27 l2_27 l3_27 x4_27 x5_27 l6_27 x7_27 l8_27 x9_27
      exact (spec_l12Areas.e21 k (spec_l12Areas.T.run tyt spec_l12Areas.tbl k) x0_21 x1_21 l2_21 l3_21 x4_21 x5_21 l6_21 x7_21).trans (by rw [q11, q27]; rfl), fun x0_27 x1_27 l2_27 l3_27 x4_27 x5_27 l6_27 x7_27 l8_27 x9_27 => by
      have q21 : (fun x0_21 x1_21 l2_21 l3_21 x4_21 x5_21 l6_21 x7_21 => spec_l12Areas.T.run tyt spec_l12Areas.tbl k 21 (spec_l12Areas.S21 x0_21 x1_21 l2_21 l3_21 x4_21 x5_21 l6_21 x7_21)) = spec_l12Areas.l21 k := by funext x0_21 x1_21 l2_21 l3_21 x4_21 x5_21 l6_21 x7_21; exact ih.2.2.1 x0_21 x1_21 l2_21 l3_21 x4_21 x5_21 l6_21 x7_21
      have q31 : (fun x0_31 x1_31 l2_31 l3_31 x4_31 x5_31 l6_31 x7_31 l8_31 x9_31 x10_31 => spec_l12Areas.T.run tyt spec_l12Areas.tbl k 31 (spec_l12Areas.S31 x0_31 x1_31 l2_31 l3_31 x4_31 x5_31 l6_31 x7_31 l8_31 x9_31 x10_31)) = spec_l12Areas.l31 k := by funext x0_31 x1_31 l2_31 l3_31 x4_31 x5_31 l6_31 x7_31 l8_31 x9_31 x10_31; exact ih.2.2.2.2 x0_31 x1_31 l2_31 l3_31 x4_31 x5_31 l6_31 x7_31 l8_31 x9_31 x10_31
      exact (spec_l12Areas.e27 k (spec_l12Areas.T.run tyt spec_l12Areas.tbl k) x0_27 x1_27 l2_27 l3_27 x4_27 x5_27 l6_27 x7_27 l8_27 x9_27).trans (by rw [q21, q31]; rfl), fun x0_31 x1_31 l2_31 l3_31 x4_31 x5_31 l6_31 x7_31 l8_31 x9_31 x10_31 => by
      have q27 : (fun x0_27 x1_27 l2_27 l3_27 x4_27 x5_27 l6_27 x7_27 l8_27 x9_27 => spec_l12Areas.T.run tyt spec_l12Areas.tbl k 27 (spec_l12Areas.S27 x0_27 x1_27 l2_27 l3_27 x4_27 x5_27 l6_27 x7_27 l8_27 x9_27)) = spec_l12Areas.l27 k := by funext x0_27 x1_27 l2_27 l3_27 x4_27 x5_27 l6_27 x7_27 l8_27 x9_27; exact ih.2.2.2.1 x0_27 x1_27 l2_27 l3_27 x4_27 x5_27 l6_27 x7_27 l8_27 x9_27
      exact (spec_l12Areas.e31 k (spec_l12Areas.T.run tyt spec_l12Areas.tbl k) x0_31 x1_31 l2_31 l3_31 x4_31 x5_31 l6_31 x7_31 l8_31 x9_31 x10_31).trans (by rw [q27]; rfl)⟩
theorem spec_l12Areas.tblok (k : Nat) : TblOk Go.Proofs.Try.prog (spec_l12Areas.tbl k) := TblOk.cons (spec_l12Next.sound k) (TblOk.nil _)
theorem spec_l12Areas.sound (k : Nat) : Sound Go.Proofs.Try.prog 133 (spec_l12Areas.spec k) := by
  have h := fn_ok (F := spec_l12Areas.T) (tbl := spec_l12Areas.tbl) mixed tyok Go.Proofs.Try.func133 (by kernel_rfl) (c0 := bodyOf Go.Proofs.Try.f133) rfl (conv_code _ _ _) rfl rfl spec_l12Areas.ok k (fun j _ => spec_l12Areas.tblok j)
  have q4 : (fun x0_4 x1_4 l2_4 l3_4 x4_4 => spec_l12Areas.T.run tyt spec_l12Areas.tbl k 4 (spec_l12Areas.S4 x0_4 x1_4 l2_4 l3_4 x4_4)) = spec_l12Areas.l4 k := by funext x0_4 x1_4 l2_4 l3_4 x4_4; exact (spec_l12Areas.run k).1 x0_4 x1_4 l2_4 l3_4 x4_4
  have e : spec_l12Areas.spec k = ⟨spec_l12Areas.T.ps, spec_l12Areas.T.rs, spec_l12Areas.T.ev tyt spec_l12Areas.tbl k⟩ := congrArg (FnSpec.mk _ _) (funext fun x => ((spec_l12Areas.e k (spec_l12Areas.T.run tyt spec_l12Areas.tbl k) x.1 x.2.1 x.2.2).trans (by rw [q4]; rfl)).symm)
  rw [e]
  exact h
/-! ### spec_l1Own: function 232 -/
def spec_l1Own.m (k : Nat) (l0 : List Int) : Option (List Int) := ((app 17592186044416 ([] : List (Int)) l0).bind fun l1 => (some l1))
def spec_l1Own.f (k : Nat) (l0 : List Int) : Option (List Int) := spec_l1Own.m k l0
noncomputable def spec_l1Own.spec (k : Nat) : FnSpec := ⟨[.d (.sl (.int .i64)) none], [.d (.sl (.int .i64)) (some 3)], fun x => spec_l1Own.f k x⟩
noncomputable def spec_l1Own.T : FnText := ⟨(conv [] (bodyOf Go.Proofs.Try.f232) 0).1, Go.Proofs.Try.f232.results.toList, 6, [], [.d (.sl (.int .i64)) none], [.d (.sl (.int .i64)) (some 3)]⟩
noncomputable def spec_l1Own.tbl (k : Nat) : Tbl := []
theorem spec_l1Own.e (k : Nat) (o : Nat → St → Option (List Int)) (l0 : List Int) : spec_l1Own.T.main tyt (spec_l1Own.tbl k) o l0 = spec_l1Own.m k l0 := by kernel_rfl
theorem spec_l1Own.ok : spec_l1Own.T.ok = true := by kernel_rfl
theorem spec_l1Own.tblok (k : Nat) : TblOk Go.Proofs.Try.prog (spec_l1Own.tbl k) := TblOk.nil _
theorem spec_l1Own.sound (k : Nat) : Sound Go.Proofs.Try.prog 232 (spec_l1Own.spec k) := by
  have h := fn_ok (F := spec_l1Own.T) (tbl := spec_l1Own.tbl) mixed tyok Go.Proofs.Try.func232 (by kernel_rfl) (c0 := bodyOf Go.Proofs.Try.f232) rfl (conv_code _ _ _) rfl rfl spec_l1Own.ok k (fun j _ => spec_l1Own.tblok j)
  have e : spec_l1Own.spec k = ⟨spec_l1Own.T.ps, spec_l1Own.T.rs, spec_l1Own.T.ev tyt spec_l1Own.tbl k⟩ := congrArg (FnSpec.mk _ _) (funext fun x => ((spec_l1Own.e k (spec_l1Own.T.run tyt spec_l1Own.tbl k) x).trans (by rfl)).symm)
  rw [e]
  exact h
/-! ### spec_l2Own: function 135 -/
def spec_l2Own.m (k : Nat) (a0_0 : Int) (a0_1 : Int) (l0_2 : List Int) : Option (Int × Int × List Int) := ((spec_l1Own.f k l0_2).bind fun r1 => (some (a0_0, a0_1, r1)))
def spec_l2Own.f (k : Nat) (a0_0 : Int) (a0_1 : Int) (l0_2 : List Int) : Option (Int × Int × List Int) := spec_l2Own.m k a0_0 a0_1 l0_2
noncomputable def spec_l2Own.spec (k : Nat) : FnSpec := ⟨[.ag [.d (.int .i64) none, .d (.int .i64) none, .d (.sl (.int .i64)) none]], [.ag [.d (.int .i64) none, .d (.int .i64) none, .d (.sl (.int .i64)) (some 3)]], fun x => spec_l2Own.f k x.1 x.2.1 x.2.2⟩
noncomputable def spec_l2Own.T : FnText := ⟨(conv [] (bodyOf Go.Proofs.Try.f135) 0).1, Go.Proofs.Try.f135.results.toList, 11, [], [.ag [.d (.int .i64) none, .d (.int .i64) none, .d (.sl (.int .i64)) none]], [.ag [.d (.int .i64) none, .d (.int .i64) none, .d (.sl (.int .i64)) (some 3)]]⟩
noncomputable def spec_l2Own.tbl (k : Nat) : Tbl := [(232, spec_l1Own.spec k)]
theorem spec_l2Own.e (k : Nat) (o : Nat → St → Option (Int × Int × List Int)) (a0_0 : Int) (a0_1 : Int) (l0_2 : List Int) : spec_l2Own.T.main tyt (spec_l2Own.tbl k) o (a0_0, a0_1, l0_2) = spec_l2Own.m k a0_0 a0_1 l0_2 := by kernel_rfl
theorem spec_l2Own.ok : spec_l2Own.T.ok = true := by kernel_rfl
theorem spec_l2Own.tblok (k : Nat) : TblOk Go.Proofs.Try.prog (spec_l2Own.tbl k) := TblOk.cons (spec_l1Own.sound k) (TblOk.nil _)
theorem spec_l2Own.sound (k : Nat) : Sound Go.Proofs.Try.prog 135 (spec_l2Own.spec k) := by
  have h := fn_ok (F := spec_l2Own.T) (tbl := spec_l2Own.tbl) mixed tyok Go.Proofs.Try.func135 (by kernel_rfl) (c0 := bodyOf Go.Proofs.Try.f135) rfl (conv_code _ _ _) rfl rfl spec_l2Own.ok k (fun j _ => spec_l2Own.tblok j)
  have e : spec_l2Own.spec k = ⟨spec_l2Own.T.ps, spec_l2Own.T.rs, spec_l2Own.T.ev tyt spec_l2Own.tbl k⟩ := congrArg (FnSpec.mk _ _) (funext fun x => ((spec_l2Own.e k (spec_l2Own.T.run tyt spec_l2Own.tbl k) x.1 x.2.1 x.2.2).trans (by rfl)).symm)
  rw [e]
  exact h
/-! ### spec_FillArea: function 15 -/
def spec_FillArea.b11 (o11 : Int → Int → Int → Int → List Int → List Int → Int → Int → List Int → Int → Option (Int × Int × List Int × Bool)) (k : Nat) (x0_11 : Int) (x1_11 : Int) (x2_11 : Int) (x3_11 : Int) (l4_11 : List Int) (l5_11 : List Int) (x6_11 : Int) (x7_11 : Int) (l8_11 : List Int) (x9_11 : Int) : Option (Int × Int × List Int × Bool) := (if x9_11 < (l5_11.length : Int) then ((chk l5_11.length x9_11).bind fun i6 => (if (l5_11.getD i6 0) = x0_11 then ((chk l8_11.length x9_11).bind fun i7 => (o11 x0_11 x1_11 x2_11 x3_11 l4_11 l5_11 x6_11 x7_11 (l8_11.set i7 x1_11) (w64 (x9_11 + 1)))) else (o11 x0_11 x1_11 x2_11 x3_11 l4_11 l5_11 x6_11 x7_11 l8_11 (w64 (x9_11 + 1))))) else (some (x6_11, x7_11, l8_11, true)))
def spec_FillArea.l11 : Nat → Int → Int → Int → Int → List Int → List Int → Int → Int → List Int → Int → Option (Int × Int × List Int × Bool)
  | 0, _, _, _, _, _, _, _, _, _, _ => none
  | k + 1, x0_11, x1_11, x2_11, x3_11, l4_11, l5_11, x6_11, x7_11, l8_11, x9_11 => spec_FillArea.b11 (spec_FillArea.l11 k) k x0_11 x1_11 x2_11 x3_11 l4_11 l5_11 x6_11 x7_11 l8_11 x9_11
def spec_FillArea.m (o11 : Int → Int → Int → Int → List Int → List Int → Int → Int → List Int → Int → Option (Int × Int × List Int × Bool)) (k : Nat) (a0_0 : Int) (a0_1 : Int) (l0_2 : List Int) (a1 : Int) (a2 : Int) : Option (Int × Int × List Int × Bool) := ((spec_l2Good.f k a0_0 a0_1 l0_2).bind fun r1 => (cond (!r1) (some (0, 0, [], false)) ((spec_l2Color.f k a2).bind fun r2 => (cond (!r2) (some (0, 0, [], false)) ((spec_l12Areas.f k a0_0 a0_1 l0_2).bind fun r3 => ((spec_l1In.f k a1 0 (w64 (r3.2 - 1))).bind fun r4 => (cond (!r4) (some (0, 0, [], false)) ((spec_l2Own.f k a0_0 a0_1 l0_2).bind fun r5 => (o11 a1 a2 0 0 [] r3.1 r5.1 r5.2.1 r5.2.2 0)))))))))
def spec_FillArea.f (k : Nat) (a0_0 : Int) (a0_1 : Int) (l0_2 : List Int) (a1 : Int) (a2 : Int) : Option (Int × Int × List Int × Bool) := spec_FillArea.m (spec_FillArea.l11 k) k a0_0 a0_1 l0_2 a1 a2
noncomputable def spec_FillArea.spec (k : Nat) : FnSpec := ⟨[.ag [.d (.int .i64) none, .d (.int .i64) none, .d (.sl (.int .i64)) none], .d (.int .i64) none, .d (.int .i64) none], [.ag [.d (.int .i64) none, .d (.int .i64) none, .d (.sl (.int .i64)) (some 3)], .d .bool none], fun x => spec_FillArea.f k x.1 x.2.1 x.2.2.1 x.2.2.2.1 x.2.2.2.2⟩
def spec_FillArea.S11 (x0_11 : Int) (x1_11 : Int) (x2_11 : Int) (x3_11 : Int) (l4_11 : List Int) (l5_11 : List Int) (x6_11 : Int) (x7_11 : Int) (l8_11 : List Int) (x9_11 : Int) : St := ⟨[(1, .val (.int .i64) x0_11), (2, .val (.int .i64) x1_11), (6, .ptr 100 0), (8, .ref 101), (10, .ptr 102 0), (11, .val (.int .i64) x9_11)], [(102, some (.box [.val (.int .i64) x6_11, .val (.int .i64) x7_11, .ref 103])), (103, some (.row 3 (.int .i64) l8_11)), (101, some (.row 3 (.int .i64) l5_11)), (100, some (.box [.val (.int .i64) x2_11, .val (.int .i64) x3_11, .val (.sl (.int .i64)) l4_11]))], 1000⟩
noncomputable def spec_FillArea.T : FnText := ⟨(conv [] (bodyOf Go.Proofs.Try.f15) 0).1, Go.Proofs.Try.f15.results.toList, 52, [(11, [(1, .rd (.int .i64)), (2, .rd (.int .i64)), (6, .bx 100 [.rd (.int .i64), .rd (.int .i64), .rd (.sl (.int .i64))]), (8, .own 3 (.int .i64) 101), (10, .bx 102 [.rd (.int .i64), .rd (.int .i64), .own 3 (.int .i64) 103]), (11, .rd (.int .i64))])], [.ag [.d (.int .i64) none, .d (.int .i64) none, .d (.sl (.int .i64)) none], .d (.int .i64) none, .d (.int .i64) none], [.ag [.d (.int .i64) none, .d (.int .i64) none, .d (.sl (.int .i64)) (some 3)], .d .bool none]⟩
noncomputable def spec_FillArea.tbl (k : Nat) : Tbl := [(131, spec_l2Good.spec k), (132, spec_l2Color.spec k), (133, spec_l12Areas.spec k), (134, spec_l1In.spec k), (135, spec_l2Own.spec k)]
theorem spec_FillArea.e11 (k : Nat) (o : Nat → St → Option (Int × Int × List Int × Bool)) (x0_11 : Int) (x1_11 : Int) (x2_11 : Int) (x3_11 : Int) (l4_11 : List Int) (l5_11 : List Int) (x6_11 : Int) (x7_11 : Int) (l8_11 : List Int) (x9_11 : Int) : spec_FillArea.T.step tyt (spec_FillArea.tbl k) o 11 (spec_FillArea.S11 x0_11 x1_11 x2_11 x3_11 l4_11 l5_11 x6_11 x7_11 l8_11 x9_11) = spec_FillArea.b11 (fun x0_11 x1_11 x2_11 x3_11 l4_11 l5_11 x6_11 x7_11 l8_11 x9_11 => o 11 (spec_FillArea.S11 x0_11 x1_11 x2_11 x3_11 l4_11 l5_11 x6_11 x7_11 l8_11 x9_11)) k x0_11 x1_11 x2_11 x3_11 l4_11 l5_11 x6_11 x7_11 l8_11 x9_11 := by kernel_rfl
theorem spec_FillArea.e (k : Nat) (o : Nat → St → Option (Int × Int × List Int × Bool)) (a0_0 : Int) (a0_1 : Int) (l0_2 : List Int) (a1 : Int) (a2 : Int) : spec_FillArea.T.main tyt (spec_FillArea.tbl k) o (a0_0, a0_1, l0_2, a1, a2) = spec_FillArea.m (fun x0_11 x1_11 x2_11 x3_11 l4_11 l5_11 x6_11 x7_11 l8_11 x9_11 => o 11 (spec_FillArea.S11 x0_11 x1_11 x2_11 x3_11 l4_11 l5_11 x6_11 x7_11 l8_11 x9_11)) k a0_0 a0_1 l0_2 a1 a2 := by kernel_rfl
theorem spec_FillArea.ok : spec_FillArea.T.ok = true := by kernel_rfl
theorem spec_FillArea.run (k : Nat) : (∀ (x0_11 : Int) (x1_11 : Int) (x2_11 : Int) (x3_11 : Int) (l4_11 : List Int) (l5_11 : List Int) (x6_11 : Int) (x7_11 : Int) (l8_11 : List Int) (x9_11 : Int), spec_FillArea.T.run tyt spec_FillArea.tbl k 11 (spec_FillArea.S11 x0_11 x1_11 x2_11 x3_11 l4_11 l5_11 x6_11 x7_11 l8_11 x9_11) = spec_FillArea.l11 k x0_11 x1_11 x2_11 x3_11 l4_11 l5_11 x6_11 x7_11 l8_11 x9_11) := by
  induction k with
  | zero => exact fun x0_11 x1_11 x2_11 x3_11 l4_11 l5_11 x6_11 x7_11 l8_11 x9_11 => rfl
  | succ k ih =>
    exact fun x0_11 x1_11 x2_11 x3_11 l4_11 l5_11 x6_11 x7_11 l8_11 x9_11 => by
      have q11 : (fun x0_11 x1_11 x2_11 x3_11 l4_11 l5_11 x6_11 x7_11 l8_11 x9_11 => spec_FillArea.T.run tyt spec_FillArea.tbl k 11 (spec_FillArea.S11 x0_11 x1_11 x2_11 x3_11 l4_11 l5_11 x6_11 x7_11 l8_11 x9_11)) = spec_FillArea.l11 k := by funext x0_11 x1_11 x2_11 x3_11 l4_11 l5_11 x6_11 x7_11 l8_11 x9_11; exact ih x0_11 x1_11 x2_11 x3_11 l4_11 l5_11 x6_11 x7_11 l8_11 x9_11
      exact (spec_FillArea.e11 k (spec_FillArea.T.run tyt spec_FillArea.tbl k) x0_11 x1_11 x2_11 x3_11 l4_11 l5_11 x6_11 x7_11 l8_11 x9_11).trans (by rw [q11]; rfl)
theorem spec_FillArea.tblok (k : Nat) : TblOk Go.Proofs.Try.prog (spec_FillArea.tbl k) := TblOk.cons (spec_l2Good.sound k) (TblOk.cons (spec_l2Color.sound k) (TblOk.cons (spec_l12Areas.sound k) (TblOk.cons (spec_l1In.sound k) (TblOk.cons (spec_l2Own.sound k) (TblOk.nil _)))))
theorem spec_FillArea.sound (k : Nat) : Sound Go.Proofs.Try.prog 15 (spec_FillArea.spec k) := by
  have h := fn_ok (F := spec_FillArea.T) (tbl := spec_FillArea.tbl) mixed tyok Go.Proofs.Try.func15 (by kernel_rfl) (c0 := bodyOf Go.Proofs.Try.f15) rfl (conv_code _ _ _) rfl rfl spec_FillArea.ok k (fun j _ => spec_FillArea.tblok j)
  have q11 : (fun x0_11 x1_11 x2_11 x3_11 l4_11 l5_11 x6_11 x7_11 l8_11 x9_11 => spec_FillArea.T.run tyt spec_FillArea.tbl k 11 (spec_FillArea.S11 x0_11 x1_11 x2_11 x3_11 l4_11 l5_11 x6_11 x7_11 l8_11 x9_11)) = spec_FillArea.l11 k := by funext x0_11 x1_11 x2_11 x3_11 l4_11 l5_11 x6_11 x7_11 l8_11 x9_11; exact (spec_FillArea.run k) x0_11 x1_11 x2_11 x3_11 l4_11 l5_11 x6_11 x7_11 l8_11 x9_11
  have e : spec_FillArea.spec k = ⟨spec_FillArea.T.ps, spec_FillArea.T.rs, spec_FillArea.T.ev tyt spec_FillArea.tbl k⟩ := congrArg (FnSpec.mk _ _) (funext fun x => ((spec_FillArea.e k (spec_FillArea.T.run tyt spec_FillArea.tbl k) x.1 x.2.1 x.2.2.1 x.2.2.2.1 x.2.2.2.2).trans (by rw [q11]; rfl)).symm)
  rw [e]
  exact h
/-! ### impl_in: function 139 -/
def impl_in.m (k : Nat) (a0 : Int) (a1 : Int) (a2 : Int) : Option (Bool) := (if a1 ≤ a0 then (some (decide (a0 ≤ a2))) else (some false))
def impl_in.f (k : Nat) (a0 : Int) (a1 : Int) (a2 : Int) : Option (Bool) := impl_in.m k a0 a1 a2
noncomputable def impl_in.spec (k : Nat) : FnSpec := ⟨[.d (.int .i64) none, .d (.int .i64) none, .d (.int .i64) none], [.d .bool none], fun x => impl_in.f k x.1 x.2.1 x.2.2⟩
noncomputable def impl_in.T : FnText := ⟨(conv [] (bodyOf Go.Proofs.Try.f139) 0).1, Go.Proofs.Try.f139.results.toList, 15, [], [.d (.int .i64) none, .d (.int .i64) none, .d (.int .i64) none], [.d .bool none]⟩
noncomputable def impl_in.tbl (k : Nat) : Tbl := []
theorem impl_in.e (k : Nat) (o : Nat → St → Option (Bool)) (a0 : Int) (a1 : Int) (a2 : Int) : impl_in.T.main tyt (impl_in.tbl k) o (a0, a1, a2) = impl_in.m k a0 a1 a2 := by kernel_rfl
theorem impl_in.ok : impl_in.T.ok = true := by kernel_rfl
theorem impl_in.tblok (k : Nat) : TblOk Go.Proofs.Try.prog (impl_in.tbl k) := TblOk.nil _
theorem impl_in.sound (k : Nat) : Sound Go.Proofs.Try.prog 139 (impl_in.spec k) := by
  have h := fn_ok (F := impl_in.T) (tbl := impl_in.tbl) mixed tyok Go.Proofs.Try.func139 (by kernel_rfl) (c0 := bodyOf Go.Proofs.Try.f139) rfl (conv_code _ _ _) rfl rfl impl_in.ok k (fun j _ => impl_in.tblok j)
  have e : impl_in.spec k = ⟨impl_in.T.ps, impl_in.T.rs, impl_in.T.ev tyt impl_in.tbl k⟩ := congrArg (FnSpec.mk _ _) (funext fun x => ((impl_in.e k (impl_in.T.run tyt impl_in.tbl k) x.1 x.2.1 x.2.2).trans (by rfl)).symm)
  rw [e]
  exact h
/-! ### impl_isSide: function 157 -/
def impl_isSide.m (k : Nat) (a0 : Int) : Option (Bool) := ((impl_in.f k a0 1 8).bind fun r1 => (some r1))
def impl_isSide.f (k : Nat) (a0 : Int) : Option (Bool) := impl_isSide.m k a0
noncomputable def impl_isSide.spec (k : Nat) : FnSpec := ⟨[.d (.int .i64) none], [.d .bool none], fun x => impl_isSide.f k x⟩
noncomputable def impl_isSide.T : FnText := ⟨(conv [] (bodyOf Go.Proofs.Try.f157) 0).1, Go.Proofs.Try.f157.results.toList, 5, [], [.d (.int .i64) none], [.d .bool none]⟩
noncomputable def impl_isSide.tbl (k : Nat) : Tbl := [(139, impl_in.spec k)]
theorem impl_isSide.e (k : Nat) (o : Nat → St → Option (Bool)) (a0 : Int) : impl_isSide.T.main tyt (impl_isSide.tbl k) o a0 = impl_isSide.m k a0 := by kernel_rfl
theorem impl_isSide.ok : impl_isSide.T.ok = true := by kernel_rfl
theorem impl_isSide.tblok (k : Nat) : TblOk Go.Proofs.Try.prog (impl_isSide.tbl k) := TblOk.cons (impl_in.sound k) (TblOk.nil _)
theorem impl_isSide.sound (k : Nat) : Sound Go.Proofs.Try.prog 157 (impl_isSide.spec k) := by
  have h := fn_ok (F := impl_isSide.T) (tbl := impl_isSide.tbl) mixed tyok Go.Proofs.Try.func157 (by kernel_rfl) (c0 := bodyOf Go.Proofs.Try.f157) rfl (conv_code _ _ _) rfl rfl impl_isSide.ok k (fun j _ => impl_isSide.tblok j)
  have e : impl_isSide.spec k = ⟨impl_isSide.T.ps, impl_isSide.T.rs, impl_isSide.T.ev tyt impl_isSide.tbl k⟩ := congrArg (FnSpec.mk _ _) (funext fun x => ((impl_isSide.e k (impl_isSide.T.run tyt impl_isSide.tbl k) x).trans (by rfl)).symm)
  rw [e]
  exact h
/-! ### impl_isColor: function 137 -/
def impl_isColor.m (k : Nat) (a0 : Int) : Option (Bool) := ((impl_in.f k a0 0 5).bind fun r1 => (some r1))
def impl_isColor.f (k : Nat) (a0 : Int) : Option (Bool) := impl_isColor.m k a0
noncomputable def impl_isColor.spec (k : Nat) : FnSpec := ⟨[.d (.int .i64) none], [.d .bool none], fun x => impl_isColor.f k x⟩
noncomputable def impl_isColor.T : FnText := ⟨(conv [] (bodyOf Go.Proofs.Try.f137) 0).1, Go.Proofs.Try.f137.results.toList, 5, [], [.d (.int .i64) none], [.d .bool none]⟩
noncomputable def impl_isColor.tbl (k : Nat) : Tbl := [(139, impl_in.spec k)]
theorem impl_isColor.e (k : Nat) (o : Nat → St → Option (Bool)) (a0 : Int) : impl_isColor.T.main tyt (impl_isColor.tbl k) o a0 = impl_isColor.m k a0 := by kernel_rfl
theorem impl_isColor.ok : impl_isColor.T.ok = true := by kernel_rfl
theorem impl_isColor.tblok (k : Nat) : TblOk Go.Proofs.Try.prog (impl_isColor.tbl k) := TblOk.cons (impl_in.sound k) (TblOk.nil _)
theorem impl_isColor.sound (k : Nat) : Sound Go.Proofs.Try.prog 137 (impl_isColor.spec k) := by
  have h := fn_ok (F := impl_isColor.T) (tbl := impl_isColor.tbl) mixed tyok Go.Proofs.Try.func137 (by kernel_rfl) (c0 := bodyOf Go.Proofs.Try.f137) rfl (conv_code _ _ _) rfl rfl impl_isColor.ok k (fun j _ => impl_isColor.tblok j)
  have e : impl_isColor.spec k = ⟨impl_isColor.T.ps, impl_isColor.T.rs, impl_isColor.T.ev tyt impl_isColor.tbl k⟩ := congrArg (FnSpec.mk _ _) (funext fun x => ((impl_isColor.e k (impl_isColor.T.run tyt impl_isColor.tbl k) x).trans (by rfl)).symm)
  rw [e]
  exact h
/-! ### impl_areAll_int_1__impl_isColor: function 239 -/
def impl_areAll_int_1__impl_isColor.m (k : Nat) (a0 : Int) : Option (Bool) := ((impl_isColor.f k a0).bind fun r1 => (some (!r1)))
def impl_areAll_int_1__impl_isColor.f (k : Nat) (a0 : Int) : Option (Bool) := impl_areAll_int_1__impl_isColor.m k a0
noncomputable def impl_areAll_int_1__impl_isColor.spec (k : Nat) : FnSpec := ⟨[.d (.int .i64) none, .rb [.fv 137 [] []]], [.d .bool none], fun x => impl_areAll_int_1__impl_isColor.f k x⟩
noncomputable def impl_areAll_int_1__impl_isColor.T : FnText := ⟨(conv [] (bodyOf Go.Proofs.Try.f239) 0).1, Go.Proofs.Try.f239.results.toList, 8, [], [.d (.int .i64) none, .rb [.fv 137 [] []]], [.d .bool none]⟩
noncomputable def impl_areAll_int_1__impl_isColor.tbl (k : Nat) : Tbl := [(137, impl_isColor.spec k)]
theorem impl_areAll_int_1__impl_isColor.e (k : Nat) (o : Nat → St → Option (Bool)) (a0 : Int) : impl_areAll_int_1__impl_isColor.T.main tyt (impl_areAll_int_1__impl_isColor.tbl k) o a0 = impl_areAll_int_1__impl_isColor.m k a0 := by kernel_rfl
theorem impl_areAll_int_1__impl_isColor.ok : impl_areAll_int_1__impl_isColor.T.ok = true := by kernel_rfl
theorem impl_areAll_int_1__impl_isColor.tblok (k : Nat) : TblOk Go.Proofs.Try.prog (impl_areAll_int_1__impl_isColor.tbl k) := TblOk.cons (impl_isColor.sound k) (TblOk.nil _)
theorem impl_areAll_int_1__impl_isColor.sound (k : Nat) : Sound Go.Proofs.Try.prog 239 (impl_areAll_int_1__impl_isColor.spec k) := by
  have h := fn_ok (F := impl_areAll_int_1__impl_isColor.T) (tbl := impl_areAll_int_1__impl_isColor.tbl) mixed tyok Go.Proofs.Try.func239 (by kernel_rfl) (c0 := bodyOf Go.Proofs.Try.f239) rfl (conv_code _ _ _) rfl rfl impl_areAll_int_1__impl_isColor.ok k (fun j _ => impl_areAll_int_1__impl_isColor.tblok j)
  have e : impl_areAll_int_1__impl_isColor.spec k = ⟨impl_areAll_int_1__impl_isColor.T.ps, impl_areAll_int_1__impl_isColor.T.rs, impl_areAll_int_1__impl_isColor.T.ev tyt impl_areAll_int_1__impl_isColor.tbl k⟩ := congrArg (FnSpec.mk _ _) (funext fun x => ((impl_areAll_int_1__impl_isColor.e k (impl_areAll_int_1__impl_isColor.T.run tyt impl_areAll_int_1__impl_isColor.tbl k) x).trans (by rfl)).symm)
  rw [e]
  exact h
/-! ### slices_IndexFunc_int_int__impl_areAll_int_1__impl_isColor: function 256 -/
def slices_IndexFunc_int_int__impl_areAll_int_1__impl_isColor.b3 (o3 : List Int → Int → Int → Option (Int)) (k : Nat) (l0_3 : List Int) (x1_3 : Int) (x2_3 : Int) : Option (Int) := (if x2_3 < x1_3 then ((chk l0_3.length x2_3).bind fun i1 => ((impl_areAll_int_1__impl_isColor.f k (l0_3.getD i1 0)).bind fun r2 => (cond r2 (some x2_3) (o3 l0_3 x1_3 (w64 (x2_3 + 1)))))) else (some (-1)))
def slices_IndexFunc_int_int__impl_areAll_int_1__impl_isColor.l3 : Nat → List Int → Int → Int → Option (Int)
  | 0, _, _, _ => none
  | k + 1, l0_3, x1_3, x2_3 => slices_IndexFunc_int_int__impl_areAll_int_1__impl_isColor.b3 (slices_IndexFunc_int_int__impl_areAll_int_1__impl_isColor.l3 k) k l0_3 x1_3 x2_3
def slices_IndexFunc_int_int__impl_areAll_int_1__impl_isColor.m (o3 : List Int → Int → Int → Option (Int)) (k : Nat) (l0 : List Int) : Option (Int) := (o3 l0 (l0.length : Int) 0)
def slices_IndexFunc_int_int__impl_areAll_int_1__impl_isColor.f (k : Nat) (l0 : List Int) : Option (Int) := slices_IndexFunc_int_int__impl_areAll_int_1__impl_isColor.m (slices_IndexFunc_int_int__impl_areAll_int_1__impl_isColor.l3 k) k l0
noncomputable def slices_IndexFunc_int_int__impl_areAll_int_1__impl_isColor.spec (k : Nat) : FnSpec := ⟨[.d (.sl (.int .i64)) none, .fv 239 [] [.rb [.fv 137 [] []]]], [.d (.int .i64) none], fun x => slices_IndexFunc_int_int__impl_areAll_int_1__impl_isColor.f k x⟩
def slices_IndexFunc_int_int__impl_areAll_int_1__impl_isColor.S3 (l0_3 : List Int) (x1_3 : Int) (x2_3 : Int) : St := ⟨[(0, .val (.sl (.int .i64)) l0_3), (1, .fn 239 [] [.cptr [.fn 137 [] []] 0]), (7, .val (.int .i64) x1_3), (8, .val (.int .i64) x2_3)], [], 1000⟩
noncomputable def slices_IndexFunc_int_int__impl_areAll_int_1__impl_isColor.T : FnText := ⟨(conv [] (bodyOf Go.Proofs.Try.f256) 0).1, Go.Proofs.Try.f256.results.toList, 19, [(3, [(0, .rd (.sl (.int .i64))), (1, .as), (7, .rd (.int .i64)), (8, .rd (.int .i64))])], [.d (.sl (.int .i64)) none, .fv 239 [] [.rb [.fv 137 [] []]]], [.d (.int .i64) none]⟩
noncomputable def slices_IndexFunc_int_int__impl_areAll_int_1__impl_isColor.tbl (k : Nat) : Tbl := [(239, impl_areAll_int_1__impl_isColor.spec k)]
theorem slices_IndexFunc_int_int__impl_areAll_int_1__impl_isColor.e3 (k : Nat) (o : Nat → St → Option (Int)) (l0_3 : List Int) (x1_3 : Int) (x2_3 : Int) : slices_IndexFunc_int_int__impl_areAll_int_1__impl_isColor.T.step tyt (slices_IndexFunc_int_int__impl_areAll_int_1__impl_isColor.tbl k) o 3 (slices_IndexFunc_int_int__impl_areAll_int_1__impl_isColor.S3 l0_3 x1_3 x2_3) = slices_IndexFunc_int_int__impl_areAll_int_1__impl_isColor.b3 (fun l0_3 x1_3 x2_3 => o 3 (slices_IndexFunc_int_int__impl_areAll_int_1__impl_isColor.S3 l0_3 x1_3 x2_3)) k l0_3 x1_3 x2_3 := by kernel_rfl
theorem slices_IndexFunc_int_int__impl_areAll_int_1__impl_isColor.e (k : Nat) (o : Nat → St → Option (Int)) (l0 : List Int) : slices_IndexFunc_int_int__impl_areAll_int_1__impl_isColor.T.main tyt (slices_IndexFunc_int_int__impl_areAll_int_1__impl_isColor.tbl k) o l0 = slices_IndexFunc_int_int__impl_areAll_int_1__impl_isColor.m (fun l0_3 x1_3 x2_3 => o 3 (slices_IndexFunc_int_int__impl_areAll_int_1__impl_isColor.S3 l0_3 x1_3 x2_3)) k l0 := by kernel_rfl
theorem slices_IndexFunc_int_int__impl_areAll_int_1__impl_isColor.ok : slices_IndexFunc_int_int__impl_areAll_int_1__impl_isColor.T.ok = true := by kernel_rfl
theorem slices_IndexFunc_int_int__impl_areAll_int_1__impl_isColor.run (k : Nat) : (∀ (l0_3 : List Int) (x1_3 : Int) (x2_3 : Int), slices_IndexFunc_int_int__impl_areAll_int_1__impl_isColor.T.run tyt slices_IndexFunc_int_int__impl_areAll_int_1__impl_isColor.tbl k 3 (slices_IndexFunc_int_int__impl_areAll_int_1__impl_isColor.S3 l0_3 x1_3 x2_3) = slices_IndexFunc_int_int__impl_areAll_int_1__impl_isColor.l3 k l0_3 x1_3 x2_3) := by
  induction k with
  | zero => exact fun l0_3 x1_3 x2_3 => rfl
  | succ k ih =>
    exact fun l0_3 x1_3 x2_3 => by
      have q3 : (fun l0_3 x1_3 x2_3 => slices_IndexFunc_int_int__impl_areAll_int_1__impl_isColor.T.run tyt slices_IndexFunc_int_int__impl_areAll_int_1__impl_isColor.tbl k 3 (slices_IndexFunc_int_int__impl_areAll_int_1__impl_isColor.S3 l0_3 x1_3 x2_3)) = slices_IndexFunc_int_int__impl_areAll_int_1__impl_isColor.l3 k := by funext l0_3 x1_3 x2_3; exact ih l0_3 x1_3 x2_3
      exact (slices_IndexFunc_int_int__impl_areAll_int_1__impl_isColor.e3 k (slices_IndexFunc_int_int__impl_areAll_int_1__impl_isColor.T.run tyt slices_IndexFunc_int_int__impl_areAll_int_1__impl_isColor.tbl k) l0_3 x1_3 x2_3).trans (by rw [q3]; rfl)
theorem slices_IndexFunc_int_int__impl_areAll_int_1__impl_isColor.tblok (k : Nat) : TblOk Go.Proofs.Try.prog (slices_IndexFunc_int_int__impl_areAll_int_1__impl_isColor.tbl k) := TblOk.cons (impl_areAll_int_1__impl_isColor.sound k) (TblOk.nil _)
theorem slices_IndexFunc_int_int__impl_areAll_int_1__impl_isColor.sound (k : Nat) : Sound Go.Proofs.Try.prog 256 (slices_IndexFunc_int_int__impl_areAll_int_1__impl_isColor.spec k) := by
  have h := fn_ok (F := slices_IndexFunc_int_int__impl_areAll_int_1__impl_isColor.T) (tbl := slices_IndexFunc_int_int__impl_areAll_int_1__impl_isColor.tbl) mixed tyok Go.Proofs.Try.func256 (by kernel_rfl) (c0 := bodyOf Go.Proofs.Try.f256) rfl (conv_code _ _ _) rfl rfl slices_IndexFunc_int_int__impl_areAll_int_1__impl_isColor.ok k (fun j _ => slices_IndexFunc_int_int__impl_areAll_int_1__impl_isColor.tblok j)
  have q3 : (fun l0_3 x1_3 x2_3 => slices_IndexFunc_int_int__impl_areAll_int_1__impl_isColor.T.run tyt slices_IndexFunc_int_int__impl_areAll_int_1__impl_isColor.tbl k 3 (slices_IndexFunc_int_int__impl_areAll_int_1__impl_isColor.S3 l0_3 x1_3 x2_3)) = slices_IndexFunc_int_int__impl_areAll_int_1__impl_isColor.l3 k := by funext l0_3 x1_3 x2_3; exact (slices_IndexFunc_int_int__impl_areAll_int_1__impl_isColor.run k) l0_3 x1_3 x2_3
  have e : slices_IndexFunc_int_int__impl_areAll_int_1__impl_isColor.spec k = ⟨slices_IndexFunc_int_int__impl_areAll_int_1__impl_isColor.T.ps, slices_IndexFunc_int_int__impl_areAll_int_1__impl_isColor.T.rs, slices_IndexFunc_int_int__impl_areAll_int_1__impl_isColor.T.ev tyt slices_IndexFunc_int_int__impl_areAll_int_1__impl_isColor.tbl k⟩ := congrArg (FnSpec.mk _ _) (funext fun x => ((slices_IndexFunc_int_int__impl_areAll_int_1__impl_isColor.e k (slices_IndexFunc_int_int__impl_areAll_int_1__impl_isColor.T.run tyt slices_IndexFunc_int_int__impl_areAll_int_1__impl_isColor.tbl k) x).trans (by rw [q3]; rfl)).symm)
  rw [e]
  exact h
/-! ### slices_ContainsFunc_int_int__impl_areAll_int_1__impl_isColor: function 238 -/
def slices_ContainsFunc_int_int__impl_areAll_int_1__impl_isColor.m (k : Nat) (l0 : List Int) : Option (Bool) := ((slices_IndexFunc_int_int__impl_areAll_int_1__impl_isColor.f k l0).bind fun r1 => (some (decide (0 ≤ r1))))
def slices_ContainsFunc_int_int__impl_areAll_int_1__impl_isColor.f (k : Nat) (l0 : List Int) : Option (Bool) := slices_ContainsFunc_int_int__impl_areAll_int_1__impl_isColor.m k l0
noncomputable def slices_ContainsFunc_int_int__impl_areAll_int_1__impl_isColor.spec (k : Nat) : FnSpec := ⟨[.d (.sl (.int .i64)) none, .fv 239 [] [.rb [.fv 137 [] []]]], [.d .bool none], fun x => slices_ContainsFunc_int_int__impl_areAll_int_1__impl_isColor.f k x⟩
noncomputable def slices_ContainsFunc_int_int__impl_areAll_int_1__impl_isColor.T : FnText := ⟨(conv [] (bodyOf Go.Proofs.Try.f238) 0).1, Go.Proofs.Try.f238.results.toList, 9, [], [.d (.sl (.int .i64)) none, .fv 239 [] [.rb [.fv 137 [] []]]], [.d .bool none]⟩
noncomputable def slices_ContainsFunc_int_int__impl_areAll_int_1__impl_isColor.tbl (k : Nat) : Tbl := [(256, slices_IndexFunc_int_int__impl_areAll_int_1__impl_isColor.spec k)]
theorem slices_ContainsFunc_int_int__impl_areAll_int_1__impl_isColor.e (k : Nat) (o : Nat → St → Option (Bool)) (l0 : List Int) : slices_ContainsFunc_int_int__impl_areAll_int_1__impl_isColor.T.main tyt (slices_ContainsFunc_int_int__impl_areAll_int_1__impl_isColor.tbl k) o l0 = slices_ContainsFunc_int_int__impl_areAll_int_1__impl_isColor.m k l0 := by kernel_rfl
theorem slices_ContainsFunc_int_int__impl_areAll_int_1__impl_isColor.ok : slices_ContainsFunc_int_int__impl_areAll_int_1__impl_isColor.T.ok = true := by kernel_rfl
theorem slices_ContainsFunc_int_int__impl_areAll_int_1__impl_isColor.tblok (k : Nat) : TblOk Go.Proofs.Try.prog (slices_ContainsFunc_int_int__impl_areAll_int_1__impl_isColor.tbl k) := TblOk.cons (slices_IndexFunc_int_int__impl_areAll_int_1__impl_isColor.sound k) (TblOk.nil _)
theorem slices_ContainsFunc_int_int__impl_areAll_int_1__impl_isColor.sound (k : Nat) : Sound Go.Proofs.Try.prog 238 (slices_ContainsFunc_int_int__impl_areAll_int_1__impl_isColor.spec k) := by
  have h := fn_ok (F := slices_ContainsFunc_int_int__impl_areAll_int_1__impl_isColor.T) (tbl := slices_ContainsFunc_int_int__impl_areAll_int_1__impl_isColor.tbl) mixed tyok Go.Proofs.Try.func238 (by kernel_rfl) (c0 := bodyOf Go.Proofs.Try.f238) rfl (conv_code _ _ _) rfl rfl slices_ContainsFunc_int_int__impl_areAll_int_1__impl_isColor.ok k (fun j _ => slices_ContainsFunc_int_int__impl_areAll_int_1__impl_isColor.tblok j)
  have e : slices_ContainsFunc_int_int__impl_areAll_int_1__impl_isColor.spec k = ⟨slices_ContainsFunc_int_int__impl_areAll_int_1__impl_isColor.T.ps, slices_ContainsFunc_int_int__impl_areAll_int_1__impl_isColor.T.rs, slices_ContainsFunc_int_int__impl_areAll_int_1__impl_isColor.T.ev tyt slices_ContainsFunc_int_int__impl_areAll_int_1__impl_isColor.tbl k⟩ := congrArg (FnSpec.mk _ _) (funext fun x => ((slices_ContainsFunc_int_int__impl_areAll_int_1__impl_isColor.e k (slices_ContainsFunc_int_int__impl_areAll_int_1__impl_isColor.T.run tyt slices_ContainsFunc_int_int__impl_areAll_int_1__impl_isColor.tbl k) x).trans (by rfl)).symm)
  rw [e]
  exact h
/-! ### impl_areAll_int__impl_isColor: function 158 -/
def impl_areAll_int__impl_isColor.m (k : Nat) (l0 : List Int) : Option (Bool) := ((slices_ContainsFunc_int_int__impl_areAll_int_1__impl_isColor.f k l0).bind fun r1 => (some (!r1)))
def impl_areAll_int__impl_isColor.f (k : Nat) (l0 : List Int) : Option (Bool) := impl_areAll_int__impl_isColor.m k l0
noncomputable def impl_areAll_int__impl_isColor.spec (k : Nat) : FnSpec := ⟨[.d (.sl (.int .i64)) none, .fv 137 [] []], [.d .bool none], fun x => impl_areAll_int__impl_isColor.f k x⟩
noncomputable def impl_areAll_int__impl_isColor.T : FnText := ⟨(conv [] (bodyOf Go.Proofs.Try.f158) 0).1, Go.Proofs.Try.f158.results.toList, 9, [], [.d (.sl (.int .i64)) none, .fv 137 [] []], [.d .bool none]⟩
noncomputable def impl_areAll_int__impl_isColor.tbl (k : Nat) : Tbl := [(238, slices_ContainsFunc_int_int__impl_areAll_int_1__impl_isColor.spec k)]
theorem impl_areAll_int__impl_isColor.e (k : Nat) (o : Nat → St → Option (Bool)) (l0 : List Int) : impl_areAll_int__impl_isColor.T.main tyt (impl_areAll_int__impl_isColor.tbl k) o l0 = impl_areAll_int__impl_isColor.m k l0 := by kernel_rfl
theorem impl_areAll_int__impl_isColor.ok : impl_areAll_int__impl_isColor.T.ok = true := by kernel_rfl
theorem impl_areAll_int__impl_isColor.tblok (k : Nat) : TblOk Go.Proofs.Try.prog (impl_areAll_int__impl_isColor.tbl k) := TblOk.cons (slices_ContainsFunc_int_int__impl_areAll_int_1__impl_isColor.sound k) (TblOk.nil _)
theorem impl_areAll_int__impl_isColor.sound (k : Nat) : Sound Go.Proofs.Try.prog 158 (impl_areAll_int__impl_isColor.spec k) := by
  have h := fn_ok (F := impl_areAll_int__impl_isColor.T) (tbl := impl_areAll_int__impl_isColor.tbl) mixed tyok Go.Proofs.Try.func158 (by kernel_rfl) (c0 := bodyOf Go.Proofs.Try.f158) rfl (conv_code _ _ _) rfl rfl impl_areAll_int__impl_isColor.ok k (fun j _ => impl_areAll_int__impl_isColor.tblok j)
  have e : impl_areAll_int__impl_isColor.spec k = ⟨impl_areAll_int__impl_isColor.T.ps, impl_areAll_int__impl_isColor.T.rs, impl_areAll_int__impl_isColor.T.ev tyt impl_areAll_int__impl_isColor.tbl k⟩ := congrArg (FnSpec.mk _ _) (funext fun x => ((impl_areAll_int__impl_isColor.e k (impl_areAll_int__impl_isColor.T.run tyt impl_areAll_int__impl_isColor.tbl k) x).trans (by rfl)).symm)
  rw [e]
  exact h
/-! ### impl_IsChart: function 39 -/
def impl_IsChart.m (k : Nat) (a0_0 : Int) (a0_1 : Int) (l0_2 : List Int) : Option (Bool) := ((impl_isSide.f k a0_0).bind fun r1 => (cond r1 ((impl_isSide.f k a0_1).bind fun r2 => (cond r2 (if (l0_2.length : Int) = (w64 (a0_0 * a0_1)) then ((impl_areAll_int__impl_isColor.f k l0_2).bind fun r3 => (some r3)) else (some false)) (some false))) (some false)))
def impl_IsChart.f (k : Nat) (a0_0 : Int) (a0_1 : Int) (l0_2 : List Int) : Option (Bool) := impl_IsChart.m k a0_0 a0_1 l0_2
noncomputable def impl_IsChart.spec (k : Nat) : FnSpec := ⟨[.ag [.d (.int .i64) none, .d (.int .i64) none, .d (.sl (.int .i64)) none]], [.d .bool none], fun x => impl_IsChart.f k x.1 x.2.1 x.2.2⟩
noncomputable def impl_IsChart.T : FnText := ⟨(conv [] (bodyOf Go.Proofs.Try.f39) 0).1, Go.Proofs.Try.f39.results.toList, 27, [], [.ag [.d (.int .i64) none, .d (.int .i64) none, .d (.sl (.int .i64)) none]], [.d .bool none]⟩
noncomputable def impl_IsChart.tbl (k : Nat) : Tbl := [(157, impl_isSide.spec k), (158, impl_areAll_int__impl_isColor.spec k)]
theorem impl_IsChart.e (k : Nat) (o : Nat → St → Option (Bool)) (a0_0 : Int) (a0_1 : Int) (l0_2 : List Int) : impl_IsChart.T.main tyt (impl_IsChart.tbl k) o (a0_0, a0_1, l0_2) = impl_IsChart.m k a0_0 a0_1 l0_2 := by kernel_rfl
theorem impl_IsChart.ok : impl_IsChart.T.ok = true := by kernel_rfl
theorem impl_IsChart.tblok (k : Nat) : TblOk Go.Proofs.Try.prog (impl_IsChart.tbl k) := TblOk.cons (impl_isSide.sound k) (TblOk.cons (impl_areAll_int__impl_isColor.sound k) (TblOk.nil _))
theorem impl_IsChart.sound (k : Nat) : Sound Go.Proofs.Try.prog 39 (impl_IsChart.spec k) := by
  have h := fn_ok (F := impl_IsChart.T) (tbl := impl_IsChart.tbl) mixed tyok Go.Proofs.Try.func39 (by kernel_rfl) (c0 := bodyOf Go.Proofs.Try.f39) rfl (conv_code _ _ _) rfl rfl impl_IsChart.ok k (fun j _ => impl_IsChart.tblok j)
  have e : impl_IsChart.spec k = ⟨impl_IsChart.T.ps, impl_IsChart.T.rs, impl_IsChart.T.ev tyt impl_IsChart.tbl k⟩ := congrArg (FnSpec.mk _ _) (funext fun x => ((impl_IsChart.e k (impl_IsChart.T.run tyt impl_IsChart.tbl k) x.1 x.2.1 x.2.2).trans (by rfl)).symm)
  rw [e]
  exact h
/-! ### math_bits_Mul64: function 271 -/
def math_bits_Mul64.m (k : Nat) (a0 : Int) (a1 : Int) : Option (Int × Int) := ((shr .u64 a0 32).bind fun q1 => ((shr .u64 a1 32).bind fun q2 => ((shr .u64 (IntKind.u64.wrap ((band .u64 a0 4294967295) * (band .u64 a1 4294967295))) 32).bind fun q3 => ((shr .u64 (IntKind.u64.wrap ((IntKind.u64.wrap (q1 * (band .u64 a1 4294967295))) + q3)) 32).bind fun q4 => ((shr .u64 (IntKind.u64.wrap ((band .u64 (IntKind.u64.wrap ((IntKind.u64.wrap (q1 * (band .u64 a1 4294967295))) + q3)) 4294967295) + (IntKind.u64.wrap ((band .u64 a0 4294967295) * q2)))) 32).bind fun q5 => (some ((IntKind.u64.wrap ((IntKind.u64.wrap ((IntKind.u64.wrap (q1 * q2)) + q4)) + q5)), (IntKind.u64.wrap (a0 * a1)))))))))
def math_bits_Mul64.f (k : Nat) (a0 : Int) (a1 : Int) : Option (Int × Int) := math_bits_Mul64.m k a0 a1
noncomputable def math_bits_Mul64.spec (k : Nat) : FnSpec := ⟨[.d (.int .u64) none, .d (.int .u64) none], [.d (.int .u64) none, .d (.int .u64) none], fun x => math_bits_Mul64.f k x.1 x.2⟩
noncomputable def math_bits_Mul64.T : FnText := ⟨(conv [] (bodyOf Go.Proofs.Try.f271) 0).1, Go.Proofs.Try.f271.results.toList, 51, [], [.d (.int .u64) none, .d (.int .u64) none], [.d (.int .u64) none, .d (.int .u64) none]⟩
noncomputable def math_bits_Mul64.tbl (k : Nat) : Tbl := []
theorem math_bits_Mul64.e (k : Nat) (o : Nat → St → Option (Int × Int)) (a0 : Int) (a1 : Int) : math_bits_Mul64.T.main tyt (math_bits_Mul64.tbl k) o (a0, a1) = math_bits_Mul64.m k a0 a1 := by kernel_rfl
theorem math_bits_Mul64.ok : math_bits_Mul64.T.ok = true := by kernel_rfl
theorem math_bits_Mul64.tblok (k : Nat) : TblOk Go.Proofs.Try.prog (math_bits_Mul64.tbl k) := TblOk.nil _
theorem math_bits_Mul64.sound (k : Nat) : Sound Go.Proofs.Try.prog 271 (math_bits_Mul64.spec k) := by
  have h := fn_ok (F := math_bits_Mul64.T) (tbl := math_bits_Mul64.tbl) mixed tyok Go.Proofs.Try.func271 (by kernel_rfl) (c0 := bodyOf Go.Proofs.Try.f271) rfl (conv_code _ _ _) rfl rfl math_bits_Mul64.ok k (fun j _ => math_bits_Mul64.tblok j)
  have e : math_bits_Mul64.spec k = ⟨math_bits_Mul64.T.ps, math_bits_Mul64.T.rs, math_bits_Mul64.T.ev tyt math_bits_Mul64.tbl k⟩ := congrArg (FnSpec.mk _ _) (funext fun x => ((math_bits_Mul64.e k (math_bits_Mul64.T.run tyt math_bits_Mul64.tbl k) x.1 x.2).trans (by rfl)).symm)
  rw [e]
  exact h
/-! ### math_bits_Mul: function 254 -/
def math_bits_Mul.m (k : Nat) (a0 : Int) (a1 : Int) : Option (Int × Int) := ((math_bits_Mul64.f k a0 a1).bind fun r1 => (some (r1.1, r1.2)))
def math_bits_Mul.f (k : Nat) (a0 : Int) (a1 : Int) : Option (Int × Int) := math_bits_Mul.m k a0 a1
noncomputable def math_bits_Mul.spec (k : Nat) : FnSpec := ⟨[.d (.int .u64) none, .d (.int .u64) none], [.d (.int .u64) none, .d (.int .u64) none], fun x => math_bits_Mul.f k x.1 x.2⟩
noncomputable def math_bits_Mul.T : FnText := ⟨(conv [] (bodyOf Go.Proofs.Try.f254) 0).1, Go.Proofs.Try.f254.results.toList, 30, [], [.d (.int .u64) none, .d (.int .u64) none], [.d (.int .u64) none, .d (.int .u64) none]⟩
noncomputable def math_bits_Mul.tbl (k : Nat) : Tbl := [(271, math_bits_Mul64.spec k)]
theorem math_bits_Mul.e (k : Nat) (o : Nat → St → Option (Int × Int)) (a0 : Int) (a1 : Int) : math_bits_Mul.T.main tyt (math_bits_Mul.tbl k) o (a0, a1) = math_bits_Mul.m k a0 a1 := by kernel_rfl
theorem math_bits_Mul.ok : math_bits_Mul.T.ok = true := by kernel_rfl
theorem math_bits_Mul.tblok (k : Nat) : TblOk Go.Proofs.Try.prog (math_bits_Mul.tbl k) := TblOk.cons (math_bits_Mul64.sound k) (TblOk.nil _)
theorem math_bits_Mul.sound (k : Nat) : Sound Go.Proofs.Try.prog 254 (math_bits_Mul.spec k) := by
  have h := fn_ok (F := math_bits_Mul.T) (tbl := math_bits_Mul.tbl) mixed tyok Go.Proofs.Try.func254 (by kernel_rfl) (c0 := bodyOf Go.Proofs.Try.f254) rfl (conv_code _ _ _) rfl rfl math_bits_Mul.ok k (fun j _ => math_bits_Mul.tblok j)
  have e : math_bits_Mul.spec k = ⟨math_bits_Mul.T.ps, math_bits_Mul.T.rs, math_bits_Mul.T.ev tyt math_bits_Mul.tbl k⟩ := congrArg (FnSpec.mk _ _) (funext fun x => ((math_bits_Mul.e k (math_bits_Mul.T.run tyt math_bits_Mul.tbl k) x.1 x.2).trans (by rfl)).symm)
  rw [e]
  exact h
/-! ### slices_Repeat_int_int: function 233 -/
def slices_Repeat_int_int.b9 (o9 : List Int → Int → Option (List Int)) (k : Nat) (l0_9 : List Int) (x1_9 : Int) : Option (List Int) := (if x1_9 < (l0_9.length : Int) then ((cut l0_9.length x1_9 (l0_9.length : Int)).bind fun c3 => ((cutTo l0_9.length x1_9).bind fun m5 => (o9 (lay l0_9 c3.1 c3.2 ((l0_9.drop 0).take m5)) (w64 (x1_9 + ((min ((l0_9.drop 0).take m5).length c3.2 : Nat) : Int)))))) else (some l0_9))
def slices_Repeat_int_int.l9 : Nat → List Int → Int → Option (List Int)
  | 0, _, _ => none
  | k + 1, l0_9, x1_9 => slices_Repeat_int_int.b9 (slices_Repeat_int_int.l9 k) k l0_9 x1_9
def slices_Repeat_int_int.m (o9 : List Int → Int → Option (List Int)) (k : Nat) (l0 : List Int) (a1 : Int) : Option (List Int) := (if a1 < 0 then none else ((math_bits_Mul.f k (IntKind.u64.wrap ((l0.length : Int))) (IntKind.u64.wrap (a1))).bind fun r1 => (if 0 < r1.1 then none else (if 9223372036854775807 < r1.2 then none else ((mkl 17592186044416 (w64 (r1.2)) (w64 (r1.2))).bind fun n2 => (o9 (lay (List.replicate n2 (0 : Int)) 0 ((List.replicate n2 (0 : Int)).length) l0) ((min l0.length ((List.replicate n2 (0 : Int)).length) : Nat) : Int)))))))
def slices_Repeat_int_int.f (k : Nat) (l0 : List Int) (a1 : Int) : Option (List Int) := slices_Repeat_int_int.m (slices_Repeat_int_int.l9 k) k l0 a1
noncomputable def slices_Repeat_int_int.spec (k : Nat) : FnSpec := ⟨[.d (.sl (.int .i64)) none, .d (.int .i64) none], [.d (.sl (.int .i64)) (some 3)], fun x => slices_Repeat_int_int.f k x.1 x.2⟩
def slices_Repeat_int_int.S9 (l0_9 : List Int) (x1_9 : Int) : St := ⟨[(7, .ref 100), (8, .val (.int .i64) x1_9)], [(100, some (.row 3 (.int .i64) l0_9))], 1000⟩
noncomputable def slices_Repeat_int_int.T : FnText := ⟨(conv [] (bodyOf Go.Proofs.Try.f233) 0).1, Go.Proofs.Try.f233.results.toList, 48, [(9, [(7, .own 3 (.int .i64) 100), (8, .rd (.int .i64))])], [.d (.sl (.int .i64)) none, .d (.int .i64) none], [.d (.sl (.int .i64)) (some 3)]⟩
noncomputable def slices_Repeat_int_int.tbl (k : Nat) : Tbl := [(254, math_bits_Mul.spec k)]
theorem slices_Repeat_int_int.e9 (k : Nat) (o : Nat → St → Option (List Int)) (l0_9 : List Int) (x1_9 : Int) : slices_Repeat_int_int.T.step tyt (slices_Repeat_int_int.tbl k) o 9 (slices_Repeat_int_int.S9 l0_9 x1_9) = slices_Repeat_int_int.b9 (fun l0_9 x1_9 => o 9 (slices_Repeat_int_int.S9 l0_9 x1_9)) k l0_9 x1_9 := by kernel_rfl
theorem slices_Repeat_int_int.e (k : Nat) (o : Nat → St → Option (List Int)) (l0 : List Int) (a1 : Int) : slices_Repeat_int_int.T.main tyt (slices_Repeat_int_int.tbl k) o (l0, a1) = slices_Repeat_int_int.m (fun l0_9 x1_9 => o 9 (slices_Repeat_int_int.S9 l0_9 x1_9)) k l0 a1 := by kernel_rfl
theorem slices_Repeat_int_int.ok : slices_Repeat_int_int.T.ok = true := by kernel_rfl
theorem slices_Repeat_int_int.run (k : Nat) : (∀ (l0_9 : List Int) (x1_9 : Int), slices_Repeat_int_int.T.run tyt slices_Repeat_int_int.tbl k 9 (slices_Repeat_int_int.S9 l0_9 x1_9) = slices_Repeat_int_int.l9 k l0_9 x1_9) := by
  induction k with
  | zero => exact fun l0_9 x1_9 => rfl
  | succ k ih =>
    exact fun l0_9 x1_9 => by
      have q9 : (fun l0_9 x1_9 => slices_Repeat_int_int.T.run tyt slices_Repeat_int_int.tbl k 9 (slices_Repeat_int_int.S9 l0_9 x1_9)) = slices_Repeat_int_int.l9 k := by funext l0_9 x1_9; exact ih l0_9 x1_9
      exact (slices_Repeat_int_int.e9 k (slices_Repeat_int_int.T.run tyt slices_Repeat_int_int.tbl k) l0_9 x1_9).trans (by rw [q9]; rfl)
theorem slices_Repeat_int_int.tblok (k : Nat) : TblOk Go.Proofs.Try.prog (slices_Repeat_int_int.tbl k) := TblOk.cons (math_bits_Mul.sound k) (TblOk.nil _)
theorem slices_Repeat_int_int.sound (k : Nat) : Sound Go.Proofs.Try.prog 233 (slices_Repeat_int_int.spec k) := by
  have h := fn_ok (F := slices_Repeat_int_int.T) (tbl := slices_Repeat_int_int.tbl) mixed tyok Go.Proofs.Try.func233 (by kernel_rfl) (c0 := bodyOf Go.Proofs.Try.f233) rfl (conv_code _ _ _) rfl rfl slices_Repeat_int_int.ok k (fun j _ => slices_Repeat_int_int.tblok j)
  have q9 : (fun l0_9 x1_9 => slices_Repeat_int_int.T.run tyt slices_Repeat_int_int.tbl k 9 (slices_Repeat_int_int.S9 l0_9 x1_9)) = slices_Repeat_int_int.l9 k := by funext l0_9 x1_9; exact (slices_Repeat_int_int.run k) l0_9 x1_9
  have e : slices_Repeat_int_int.spec k = ⟨slices_Repeat_int_int.T.ps, slices_Repeat_int_int.T.rs, slices_Repeat_int_int.T.ev tyt slices_Repeat_int_int.tbl k⟩ := congrArg (FnSpec.mk _ _) (funext fun x => ((slices_Repeat_int_int.e k (slices_Repeat_int_int.T.run tyt slices_Repeat_int_int.tbl k) x.1 x.2).trans (by rw [q9]; rfl)).symm)
  rw [e]
  exact h
/-! ### impl_Chart_hasPlace: function 170 -/
def impl_Chart_hasPlace.m (k : Nat) (a0_0 : Int) (a0_1 : Int) (l0_2 : List Int) (a1 : Int) (a2 : Int) : Option (Bool) := ((impl_in.f k a1 0 (w64 (a0_1 - 1))).bind fun r1 => (cond r1 ((impl_in.f k a2 0 (w64 (a0_0 - 1))).bind fun r2 => (some r2)) (some false)))
def impl_Chart_hasPlace.f (k : Nat) (a0_0 : Int) (a0_1 : Int) (l0_2 : List Int) (a1 : Int) (a2 : Int) : Option (Bool) := impl_Chart_hasPlace.m k a0_0 a0_1 l0_2 a1 a2
noncomputable def impl_Chart_hasPlace.spec (k : Nat) : FnSpec := ⟨[.ag [.d (.int .i64) none, .d (.int .i64) none, .d (.sl (.int .i64)) none], .d (.int .i64) none, .d (.int .i64) none], [.d .bool none], fun x => impl_Chart_hasPlace.f k x.1 x.2.1 x.2.2.1 x.2.2.2.1 x.2.2.2.2⟩
noncomputable def impl_Chart_hasPlace.T : FnText := ⟨(conv [] (bodyOf Go.Proofs.Try.f170) 0).1, Go.Proofs.Try.f170.results.toList, 19, [], [.ag [.d (.int .i64) none, .d (.int .i64) none, .d (.sl (.int .i64)) none], .d (.int .i64) none, .d (.int .i64) none], [.d .bool none]⟩
noncomputable def impl_Chart_hasPlace.tbl (k : Nat) : Tbl := [(139, impl_in.spec k)]
theorem impl_Chart_hasPlace.e (k : Nat) (o : Nat → St → Option (Bool)) (a0_0 : Int) (a0_1 : Int) (l0_2 : List Int) (a1 : Int) (a2 : Int) : impl_Chart_hasPlace.T.main tyt (impl_Chart_hasPlace.tbl k) o (a0_0, a0_1, l0_2, a1, a2) = impl_Chart_hasPlace.m k a0_0 a0_1 l0_2 a1 a2 := by kernel_rfl
theorem impl_Chart_hasPlace.ok : impl_Chart_hasPlace.T.ok = true := by kernel_rfl
theorem impl_Chart_hasPlace.tblok (k : Nat) : TblOk Go.Proofs.Try.prog (impl_Chart_hasPlace.tbl k) := TblOk.cons (impl_in.sound k) (TblOk.nil _)
theorem impl_Chart_hasPlace.sound (k : Nat) : Sound Go.Proofs.Try.prog 170 (impl_Chart_hasPlace.spec k) := by
  have h := fn_ok (F := impl_Chart_hasPlace.T) (tbl := impl_Chart_hasPlace.tbl) mixed tyok Go.Proofs.Try.func170 (by kernel_rfl) (c0 := bodyOf Go.Proofs.Try.f170) rfl (conv_code _ _ _) rfl rfl impl_Chart_hasPlace.ok k (fun j _ => impl_Chart_hasPlace.tblok j)
  have e : impl_Chart_hasPlace.spec k = ⟨impl_Chart_hasPlace.T.ps, impl_Chart_hasPlace.T.rs, impl_Chart_hasPlace.T.ev tyt impl_Chart_hasPlace.tbl k⟩ := congrArg (FnSpec.mk _ _) (funext fun x => ((impl_Chart_hasPlace.e k (impl_Chart_hasPlace.T.run tyt impl_Chart_hasPlace.tbl k) x.1 x.2.1 x.2.2.1 x.2.2.2.1 x.2.2.2.2).trans (by rfl)).symm)
  rw [e]
  exact h
/-! ### impl_Chart_besides: function 224 -/
def impl_Chart_besides.b5 (o5 : Int → Int → Int → List Int → List Int → Int → Int → (List (Int × Int)) → Int → Int → Option (List Int)) (k : Nat) (x0_5 : Int) (x1_5 : Int) (x2_5 : Int) (l3_5 : List Int) (l4_5 : List Int) (x5_5 : Int) (x6_5 : Int) (l7_5 : List (Int × Int)) (x8_5 : Int) (x9_5 : Int) : Option (List Int) := (if x9_5 < x8_5 then ((chk l7_5.length x9_5).bind fun i3 => ((impl_Chart_hasPlace.f k x1_5 x2_5 l3_5 (w64 (x5_5 + ((l7_5.getD i3 (0, 0)).1))) (w64 (x6_5 + ((l7_5.getD i3 (0, 0)).2)))).bind fun r4 => (cond r4 ((app 17592186044416 l4_5 [(w64 ((w64 (x0_5 + (w64 (((l7_5.getD i3 (0, 0)).1) * x1_5)))) + ((l7_5.getD i3 (0, 0)).2)))]).bind fun l5 => (o5 x0_5 x1_5 x2_5 l3_5 l5 x5_5 x6_5 l7_5 x8_5 (w64 (x9_5 + 1)))) (o5 x0_5 x1_5 x2_5 l3_5 l4_5 x5_5 x6_5 l7_5 x8_5 (w64 (x9_5 + 1)))))) else (some l4_5))
def impl_Chart_besides.l5 : Nat → Int → Int → Int → List Int → List Int → Int → Int → (List (Int × Int)) → Int → Int → Option (List Int)
  | 0, _, _, _, _, _, _, _, _, _, _ => none
  | k + 1, x0_5, x1_5, x2_5, l3_5, l4_5, x5_5, x6_5, l7_5, x8_5, x9_5 => impl_Chart_besides.b5 (impl_Chart_besides.l5 k) k x0_5 x1_5 x2_5 l3_5 l4_5 x5_5 x6_5 l7_5 x8_5 x9_5
def impl_Chart_besides.m (o5 : Int → Int → Int → List Int → List Int → Int → Int → (List (Int × Int)) → Int → Int → Option (List Int)) (k : Nat) (a0_0 : Int) (a0_1 : Int) (l0_2 : List Int) (a1 : Int) : Option (List Int) := ((quo .i64 a1 a0_0).bind fun q1 => ((rem a1 a0_0).bind fun q2 => (o5 a1 a0_0 a0_1 l0_2 ([] : List (Int)) q1 q2 [((-1), 0), (0, (-1)), (0, 1), (1, 0)] ([((-1), 0), (0, (-1)), (0, 1), (1, 0)].length : Int) 0)))
def impl_Chart_besides.f (k : Nat) (a0_0 : Int) (a0_1 : Int) (l0_2 : List Int) (a1 : Int) : Option (List Int) := impl_Chart_besides.m (impl_Chart_besides.l5 k) k a0_0 a0_1 l0_2 a1
noncomputable def impl_Chart_besides.spec (k : Nat) : FnSpec := ⟨[.ag [.d (.int .i64) none, .d (.int .i64) none, .d (.sl (.int .i64)) none], .d (.int .i64) none], [.d (.sl (.int .i64)) (some 3)], fun x => impl_Chart_besides.f k x.1 x.2.1 x.2.2.1 x.2.2.2⟩
def impl_Chart_besides.S5 (x0_5 : Int) (x1_5 : Int) (x2_5 : Int) (l3_5 : List Int) (l4_5 : List Int) (x5_5 : Int) (x6_5 : Int) (l7_5 : List (Int × Int)) (x8_5 : Int) (x9_5 : Int) : St := ⟨[(1, .val (.int .i64) x0_5), (2, .ptr 100 0), (5, .ref 101), (6, .val (.int .i64) x5_5), (7, .val (.int .i64) x6_5), (23, .ref 102), (24, .val (.int .i64) x8_5), (25, .val (.int .i64) x9_5)], [(102, some (.row 77 (.pair (.int .i64) (.int .i64)) l7_5)), (101, some (.row 3 (.int .i64) l4_5)), (100, some (.box [.val (.int .i64) x1_5, .val (.int .i64) x2_5, .val (.sl (.int .i64)) l3_5]))], 1000⟩
noncomputable def impl_Chart_besides.T : FnText := ⟨(conv [] (bodyOf Go.Proofs.Try.f224) 0).1, Go.Proofs.Try.f224.results.toList, 54, [(5, [(1, .rd (.int .i64)), (2, .bx 100 [.rd (.int .i64), .rd (.int .i64), .rd (.sl (.int .i64))]), (5, .own 3 (.int .i64) 101), (6, .rd (.int .i64)), (7, .rd (.int .i64)), (23, .own 77 (.pair (.int .i64) (.int .i64)) 102), (24, .rd (.int .i64)), (25, .rd (.int .i64))])], [.ag [.d (.int .i64) none, .d (.int .i64) none, .d (.sl (.int .i64)) none], .d (.int .i64) none], [.d (.sl (.int .i64)) (some 3)]⟩
noncomputable def impl_Chart_besides.tbl (k : Nat) : Tbl := [(170, impl_Chart_hasPlace.spec k)]
theorem impl_Chart_besides.e5 (k : Nat) (o : Nat → St → Option (List Int)) (x0_5 : Int) (x1_5 : Int) (x2_5 : Int) (l3_5 : List Int) (l4_5 : List Int) (x5_5 : Int) (x6_5 : Int) (l7_5 : List (Int × Int)) (x8_5 : Int) (x9_5 : Int) : impl_Chart_besides.T.step tyt (impl_Chart_besides.tbl k) o 5 (impl_Chart_besides.S5 x0_5 x1_5 x2_5 l3_5 l4_5 x5_5 x6_5 l7_5 x8_5 x9_5) = impl_Chart_besides.b5 (fun x0_5 x1_5 x2_5 l3_5 l4_5 x5_5 x6_5 l7_5 x8_5 x9_5 => o 5 (impl_Chart_besides.S5 x0_5 x1_5 x2_5 l3_5 l4_5 x5_5 x6_5 l7_5 x8_5 x9_5)) k x0_5 x1_5 x2_5 l3_5 l4_5 x5_5 x6_5 l7_5 x8_5 x9_5 := by kernel_rfl
theorem impl_Chart_besides.e (k : Nat) (o : Nat → St → Option (List Int)) (a0_0 : Int) (a0_1 : Int) (l0_2 : List Int) (a1 : Int) : impl_Chart_besides.T.main tyt (impl_Chart_besides.tbl k) o (a0_0, a0_1, l0_2, a1) = impl_Chart_besides.m (fun x0_5 x1_5 x2_5 l3_5 l4_5 x5_5 x6_5 l7_5 x8_5 x9_5 => o 5 (impl_Chart_besides.S5 x0_5 x1_5 x2_5 l3_5 l4_5 x5_5 x6_5 l7_5 x8_5 x9_5)) k a0_0 a0_1 l0_2 a1 := by kernel_rfl
theorem impl_Chart_besides.ok : impl_Chart_besides.T.ok = true := by kernel_rfl
theorem impl_Chart_besides.run (k : Nat) : (∀ (x0_5 : Int) (x1_5 : Int) (x2_5 : Int) (l3_5 : List Int) (l4_5 : List Int) (x5_5 : Int) (x6_5 : Int) (l7_5 : List (Int × Int)) (x8_5 : Int) (x9_5 : Int), impl_Chart_besides.T.run tyt impl_Chart_besides.tbl k 5 (impl_Chart_besides.S5 x0_5 x1_5 x2_5 l3_5 l4_5 x5_5 x6_5 l7_5 x8_5 x9_5) = impl_Chart_besides.l5 k x0_5 x1_5 x2_5 l3_5 l4_5 x5_5 x6_5 l7_5 x8_5 x9_5) := by
  induction k with
  | zero => exact fun x0_5 x1_5 x2_5 l3_5 l4_5 x5_5 x6_5 l7_5 x8_5 x9_5 => rfl
  | succ k ih =>
    exact fun x0_5 x1_5 x2_5 l3_5 l4_5 x5_5 x6_5 l7_5 x8_5 x9_5 => by
      have q5 : (fun x0_5 x1_5 x2_5 l3_5 l4_5 x5_5 x6_5 l7_5 x8_5 x9_5 => impl_Chart_besides.T.run tyt impl_Chart_besides.tbl k 5 (impl_Chart_besides.S5 x0_5 x1_5 x2_5 l3_5 l4_5 x5_5 x6_5 l7_5 x8_5 x9_5)) = impl_Chart_besides.l5 k := by funext x0_5 x1_5 x2_5 l3_5 l4_5 x5_5 x6_5 l7_5 x8_5 x9_5; exact ih x0_5 x1_5 x2_5 l3_5 l4_5 x5_5 x6_5 l7_5 x8_5 x9_5
      exact (impl_Chart_besides.e5 k (impl_Chart_besides.T.run tyt impl_Chart_besides.tbl k) x0_5 x1_5 x2_5 l3_5 l4_5 x5_5 x6_5 l7_5 x8_5 x9_5).trans (by rw [q5]; rfl)
theorem impl_Chart_besides.tblok (k : Nat) : TblOk Go.Proofs.Try.prog (impl_Chart_besides.tbl k) := TblOk.cons (impl_Chart_hasPlace.sound k) (TblOk.nil _)
theorem impl_Chart_besides.sound (k : Nat) : Sound Go.Proofs.Try.prog 224 (impl_Chart_besides.spec k) := by
  have h := fn_ok (F := impl_Chart_besides.T) (tbl := impl_Chart_besides.tbl) mixed tyok Go.Proofs.Try.func224 (by kernel_rfl) (c0 := bodyOf Go.Proofs.Try.f224) rfl (conv_code _ _ _) rfl rfl impl_Chart_besides.ok k (fun j _ => impl_Chart_besides.tblok j)
  have q5 : (fun x0_5 x1_5 x2_5 l3_5 l4_5 x5_5 x6_5 l7_5 x8_5 x9_5 => impl_Chart_besides.T.run tyt impl_Chart_besides.tbl k 5 (impl_Chart_besides.S5 x0_5 x1_5 x2_5 l3_5 l4_5 x5_5 x6_5 l7_5 x8_5 x9_5)) = impl_Chart_besides.l5 k := by funext x0_5 x1_5 x2_5 l3_5 l4_5 x5_5 x6_5 l7_5 x8_5 x9_5; exact (impl_Chart_besides.run k) x0_5 x1_5 x2_5 l3_5 l4_5 x5_5 x6_5 l7_5 x8_5 x9_5
  have e : impl_Chart_besides.spec k = ⟨impl_Chart_besides.T.ps, impl_Chart_besides.T.rs, impl_Chart_besides.T.ev tyt impl_Chart_besides.tbl k⟩ := congrArg (FnSpec.mk _ _) (funext fun x => ((impl_Chart_besides.e k (impl_Chart_besides.T.run tyt impl_Chart_besides.tbl k) x.1 x.2.1 x.2.2.1 x.2.2.2).trans (by rw [q5]; rfl)).symm)
  rw [e]
  exact h
/-! ### impl_Chart_areas: function 138 -/
def impl_Chart_areas.b4 (o4 : Int → Int → List Int → List Int → Int → Int → Int → Option (List Int × Int)) (o15 : Int → Int → List Int → List Int → Int → Int → List Int → Int → Int → Int → Option (List Int × Int)) (k : Nat) (x0_4 : Int) (x1_4 : Int) (l2_4 : List Int) (l3_4 : List Int) (x4_4 : Int) (x5_4 : Int) (x6_4 : Int) : Option (List Int × Int) := (if x6_4 < x5_4 then ((chk l3_4.length x6_4).bind fun i2 => (if 0 ≤ (l3_4.getD i2 0) then (o4 x0_4 x1_4 l2_4 l3_4 x4_4 x5_4 (w64 (x6_4 + 1))) else ((chk l3_4.length x6_4).bind fun i3 => (o15 x0_4 x1_4 l2_4 (l3_4.set i3 x4_4) x4_4 x6_4 [x6_4] 0 x5_4 x6_4)))) else (some (l3_4, x4_4)))
def impl_Chart_areas.b15 (o4 : Int → Int → List Int → List Int → Int → Int → Int → Option (List Int × Int)) (o20 : Int → Int → List Int → List Int → Int → Int → List Int → Int → Int → Int → List Int → Int → Int → Option (List Int × Int)) (k : Nat) (x0_15 : Int) (x1_15 : Int) (l2_15 : List Int) (l3_15 : List Int) (x4_15 : Int) (x5_15 : Int) (l6_15 : List Int) (x7_15 : Int) (x8_15 : Int) (x9_15 : Int) : Option (List Int × Int) := (if x7_15 < (l6_15.length : Int) then ((chk l6_15.length x7_15).bind fun i5 => ((impl_Chart_besides.f k x0_15 x1_15 l2_15 (l6_15.getD i5 0)).bind fun r6 => (o20 x0_15 x1_15 l2_15 l3_15 x4_15 x5_15 l6_15 x7_15 x8_15 x9_15 r6 (r6.length : Int) 0))) else (o4 x0_15 x1_15 l2_15 l3_15 (w64 (x4_15 + 1)) x8_15 (w64 (x9_15 + 1))))
def impl_Chart_areas.b20 (o15 : Int → Int → List Int → List Int → Int → Int → List Int → Int → Int → Int → Option (List Int × Int)) (o25 : Int → Int → List Int → List Int → Int → Int → List Int → Int → Int → Int → Int → List Int → Int → Int → Bool → Option (List Int × Int)) (k : Nat) (x0_20 : Int) (x1_20 : Int) (l2_20 : List Int) (l3_20 : List Int) (x4_20 : Int) (x5_20 : Int) (l6_20 : List Int) (x7_20 : Int) (x8_20 : Int) (x9_20 : Int) (l10_20 : List Int) (x11_20 : Int) (x12_20 : Int) : Option (List Int × Int) := (if x12_20 < x11_20 then ((chk l10_20.length x12_20).bind fun i7 => ((chk l3_20.length (l10_20.getD i7 0)).bind fun i8 => (if (l3_20.getD i8 0) < 0 then ((chk l2_20.length (l10_20.getD i7 0)).bind fun i9 => ((chk l2_20.length x5_20).bind fun i10 => (o25 x0_20 x1_20 l2_20 l3_20 x4_20 x5_20 l6_20 x7_20 (l10_20.getD i7 0) x8_20 x9_20 l10_20 x11_20 x12_20 (decide ((l2_20.getD i9 0) = (l2_20.getD i10 0)))))) else (o25 x0_20 x1_20 l2_20 l3_20 x4_20 x5_20 l6_20 x7_20 (l10_20.getD i7 0) x8_20 x9_20 l10_20 x11_20 x12_20 false)))) else (o15 x0_20 x1_20 l2_20 l3_20 x4_20 x5_20 l6_20 (w64 (x7_20 + 1)) x8_20 x9_20))
def impl_Chart_areas.b25 (o20 : Int → Int → List Int → List Int → Int → Int → List Int → Int → Int → Int → List Int → Int → Int → Option (List Int × Int)) (k : Nat) (x0_25 : Int) (x1_25 : Int) (l2_25 : List Int) (l3_25 : List Int) (x4_25 : Int) (x5_25 : Int) (l6_25 : List Int) (x7_25 : Int) (x8_25 : Int) (x9_25 : Int) (x10_25 : Int) (l11_25 : List Int) (x12_25 : Int) (x13_25 : Int) (x14_25 : Bool) : Option (List Int × Int) := (cond x14_25 ((chk l3_25.length x8_25).bind fun i11 => ((app 17592186044416 l6_25 [x8_25]).bind fun l13 => (o20 x0_25 x1_25 l2_25 (l3_25.set i11 x4_25) x4_25 x5_25 l13 x7_25 x9_25 x10_25 l11_25 x12_25 (w64 (x13_25 + 1))))) (o20 x0_25 x1_25 l2_25 l3_25 x4_25 x5_25 l6_25 x7_25 x9_25 x10_25 l11_25 x12_25 (w64 (x13_25 + 1))))
mutual
def impl_Chart_areas.l4 : Nat → Int → Int → List Int → List Int → Int → Int → Int → Option (List Int × Int)
  | 0, _, _, _, _, _, _, _ => none
  | k + 1, x0_4, x1_4, l2_4, l3_4, x4_4, x5_4, x6_4 => impl_Chart_areas.b4 (impl_Chart_areas.l4 k) (impl_Chart_areas.l15 k) k x0_4 x1_4 l2_4 l3_4 x4_4 x5_4 x6_4
def impl_Chart_areas.l15 : Nat → Int → Int → List Int → List Int → Int → Int → List Int → Int → Int → Int → Option (List Int × Int)
  | 0, _, _, _, _, _, _, _, _, _, _ => none
  | k + 1, x0_15, x1_15, l2_15, l3_15, x4_15, x5_15, l6_15, x7_15, x8_15, x9_15 => impl_Chart_areas.b15 (impl_Chart_areas.l4 k) (impl_Chart_areas.l20 k) k x0_15 x1_15 l2_15 l3_15 x4_15 x5_15 l6_15 x7_15 x8_15 x9_15
def impl_Chart_areas.l20 : Nat → Int → Int → List Int → List Int → Int → Int → List Int → Int → Int → Int → List Int → Int → Int → Option (List Int × Int)
  | 0, _, _, _, _, _, _, _, _, _, _, _, _, _ => none
  | k + 1, x0_20, x1_20, l2_20, l3_20, x4_20, x5_20, l6_20, x7_20, x8_20, x9_20, l10_20, x11_20, x12_20 => impl_Chart_areas.b20 (impl_Chart_areas.l15 k) (impl_Chart_areas.l25 k) k x0_20 x1_20 l2_20 l3_20 x4_20 x5_20 l6_20 x7_20 x8_20 x9_20 l10_20 x11_20 x12_20
def impl_Chart_areas.l25 : Nat → Int → Int → List Int → List Int → Int → Int → List Int → Int → Int → Int → Int → List Int → Int → Int → Bool → Option (List Int × Int)
  | 0, _, _, _, _, _, _, _, _, _, _, _, _, _, _, _ => none
  | k + 1, x0_25, x1_25, l2_25, l3_25, x4_25, x5_25, l6_25, x7_25, x8_25, x9_25, x10_25, l11_25, x12_25, x13_25, x14_25 => impl_Chart_areas.b25 (impl_Chart_areas.l20 k) k x0_25 x1_25 l2_25 l3_25 x4_25 x5_25 l6_25 x7_25 x8_25 x9_25 x10_25 l11_25 x12_25 x13_25 x14_25
end
def impl_Chart_areas.m (o4 : Int → Int → List Int → List Int → Int → Int → Int → Option (List Int × Int)) (k : Nat) (a0_0 : Int) (a0_1 : Int) (l0_2 : List Int) : Option (List Int × Int) := ((slices_Repeat_int_int.f k [(-1)] (l0_2.length : Int)).bind fun r1 => (o4 a0_0 a0_1 l0_2 r1 0 (r1.length : Int) 0))
def impl_Chart_areas.f (k : Nat) (a0_0 : Int) (a0_1 : Int) (l0_2 : List Int) : Option (List Int × Int) := impl_Chart_areas.m (impl_Chart_areas.l4 k) k a0_0 a0_1 l0_2
noncomputable def impl_Chart_areas.spec (k : Nat) : FnSpec := ⟨[.ag [.d (.int .i64) none, .d (.int .i64) none, .d (.sl (.int .i64)) none]], [.d (.sl (.int .i64)) (some 3), .d (.int .i64) none], fun x => impl_Chart_areas.f k x.1 x.2.1 x.2.2⟩
def impl_Chart_areas.S4 (x0_4 : Int) (x1_4 : Int) (l2_4 : List Int) (l3_4 : List Int) (x4_4 : Int) (x5_4 : Int) (x6_4 : Int) : St := ⟨[(1, .ptr 100 0), (4, .ref 101), (5, .val (.int .i64) x4_4), (17, .val (.int .i64) x5_4), (18, .val (.int .i64) x6_4)], [(101, some (.row 3 (.int .i64) l3_4)), (100, some (.box [.val (.int .i64) x0_4, .val (.int .i64) x1_4, .val (.sl (.int .i64)) l2_4]))], 1000⟩
def impl_Chart_areas.S15 (x0_15 : Int) (x1_15 : Int) (l2_15 : List Int) (l3_15 : List Int) (x4_15 : Int) (x5_15 : Int) (l6_15 : List Int) (x7_15 : Int) (x8_15 : Int) (x9_15 : Int) : St := ⟨[(1, .ptr 100 0), (4, .ref 101), (5, .val (.int .i64) x4_15), (6, .val (.int .i64) x5_15), (7, .ref 102), (8, .val (.int .i64) x7_15), (17, .val (.int .i64) x8_15), (18, .val (.int .i64) x9_15)], [(102, some (.row 3 (.int .i64) l6_15)), (101, some (.row 3 (.int .i64) l3_15)), (100, some (.box [.val (.int .i64) x0_15, .val (.int .i64) x1_15, .val (.sl (.int .i64)) l2_15]))], 1000⟩
def impl_Chart_areas.S20 (x0_20 : Int) (x1_20 : Int) (l2_20 : List Int) (l3_20 : List Int) (x4_20 : Int) (x5_20 : Int) (l6_20 : List Int) (x7_20 : Int) (x8_20 : Int) (x9_20 : Int) (l10_20 : List Int) (x11_20 : Int) (x12_20 : Int) : St := ⟨[(1, .ptr 100 0), (4, .ref 101), (5, .val (.int .i64) x4_20), (6, .val (.int .i64) x5_20), (7, .ref 102), (8, .val (.int .i64) x7_20), (17, .val (.int .i64) x8_20), (18, .val (.int .i64) x9_20), (43, .ref 103), (44, .val (.int .i64) x11_20), (45, .val (.int .i64) x12_20)], [(103, some (.row 3 (.int .i64) l10_20)), (102, some (.row 3 (.int .i64) l6_20)), (101, some (.row 3 (.int .i64) l3_20)), (100, some (.box [.val (.int .i64) x0_20, .val (.int .i64) x1_20, .val (.sl (.int .i64)) l2_20]))], 1000⟩
def impl_Chart_areas.S25 (x0_25 : Int) (x1_25 : Int) (l2_25 : List Int) (l3_25 : List Int) (x4_25 : Int) (x5_25 : Int) (l6_25 : List Int) (x7_25 : Int) (x8_25 : Int) (x9_25 : Int) (x10_25 : Int) (l11_25 : List Int) (x12_25 : Int) (x13_25 : Int) (x14_25 : Bool) : St := ⟨[(1, .ptr 100 0), (4, .ref 101), (5, .val (.int .i64) x4_25), (6, .val (.int .i64) x5_25), (7, .ref 102), (8, .val (.int .i64) x7_25), (10, .val (.int .i64) x8_25), (17, .val (.int .i64) x9_25), (18, .val (.int .i64) x10_25), (43, .ref 103), (44, .val (.int .i64) x12_25), (45, .val (.int .i64) x13_25), (66, .val .bool x14_25)], [(103, some (.row 3 (.int .i64) l11_25)), (102, some (.row 3 (.int .i64) l6_25)), (101, some (.row 3 (.int .i64) l3_25)), (100, some (.box [.val (.int .i64) x0_25, .val (.int .i64) x1_25, .val (.sl (.int .i64)) l2_25]))], 1000⟩
noncomputable def impl_Chart_areas.T : FnText := ⟨(conv [25] (bodyOf Go.Proofs.Try.f138) 0).1, Go.Proofs.Try.f138.results.toList, 81, [(4, [(1, .bx 100 [.rd (.int .i64), .rd (.int .i64), .rd (.sl (.int .i64))]), (4, .own 3 (.int .i64) 101), (5, .rd (.int .i64)), (17, .rd (.int .i64)), (18, .rd (.int .i64))]), (15, [(1, .bx 100 [.rd (.int .i64), .rd (.int .i64), .rd (.sl (.int .i64))]), (4, .own 3 (.int .i64) 101), (5, .rd (.int .i64)), (6, .rd (.int .i64)), (7, .own 3 (.int .i64) 102), (8, .rd (.int .i64)), (17, .rd (.int .i64)), (18, .rd (.int .i64))]), (20, [(1, .bx 100 [.rd (.int .i64), .rd (.int .i64), .rd (.sl (.int .i64))]), (4, .own 3 (.int .i64) 101), (5, .rd (.int .i64)), (6, .rd (.int .i64)), (7, .own 3 (.int .i64) 102), (8, .rd (.int .i64)), (17, .rd (.int .i64)), (18, .rd (.int .i64)), (43, .own 3 (.int .i64) 103), (44, .rd (.int .i64)), (45, .rd (.int .i64))]), (25, [(1, .bx 100 [.rd (.int .i64), .rd (.int .i64), .rd (.sl (.int .i64))]), (4, .own 3 (.int .i64) 101), (5, .rd (.int .i64)), (6, .rd (.int .i64)), (7, .own 3 (.int .i64) 102), (8, .rd (.int .i64)), (10, .rd (.int .i64)), (17, .rd (.int .i64)), (18, .rd (.int .i64)), (43, .own 3 (.int .i64) 103), (44, .rd (.int .i64)), (45, .rd (.int .i64)), (66, .rd .bool)])], [.ag [.d (.int .i64) none, .d (.int .i64) none, .d (.sl (.int .i64)) none]], [.d (.sl (.int .i64)) (some 3), .d (.int .i64) none]⟩
noncomputable def impl_Chart_areas.tbl (k : Nat) : Tbl := [(233, slices_Repeat_int_int.spec k), (224, impl_Chart_besides.spec k)]
theorem impl_Chart_areas.e4 (k : Nat) (o : Nat → St → Option (List Int × Int)) (x0_4 : Int) (x1_4 : Int) (l2_4 : List Int) (l3_4 : List Int) (x4_4 : Int) (x5_4 : Int) (x6_4 : Int) : impl_Chart_areas.T.step tyt (impl_Chart_areas.tbl k) o 4 (impl_Chart_areas.S4 x0_4 x1_4 l2_4 l3_4 x4_4 x5_4 x6_4) = impl_Chart_areas.b4 (fun x0_4 x1_4 l2_4 l3_4 x4_4 x5_4 x6_4 => o 4 (impl_Chart_areas.S4 x0_4 x1_4 l2_4 l3_4 x4_4 x5_4 x6_4)) (fun x0_15 x1_15 l2_15 l3_15 x4_15 x5_15 l6_15 x7_15 x8_15 x9_15 => o 15 (impl_Chart_areas.S15 x0_15 x1_15 l2_15 l3_15 x4_15 x5_15 l6_15 x7_15 x8_15 x9_15)) k x0_4 x1_4 l2_4 l3_4 x4_4 x5_4 x6_4 := by kernel_rfl
theorem impl_Chart_areas.e15 (k : Nat) (o : Nat → St → Option (List Int × Int)) (x0_15 : Int) (x1_15 : Int) (l2_15 : List Int) (l3_15 : List Int) (x4_15 : Int) (x5_15 : Int) (l6_15 : List Int) (x7_15 : Int) (x8_15 : Int) (x9_15 : Int) : impl_Chart_areas.T.step tyt (impl_Chart_areas.tbl k) o 15 (impl_Chart_areas.S15 x0_15 x1_15 l2_15 l3_15 x4_15 x5_15 l6_15 x7_15 x8_15 x9_15) = impl_Chart_areas.b15 (fun x0_4 x1_4 l2_4 l3_4 x4_4 x5_4 x6_4 => o 4 (impl_Chart_areas.S4 x0_4 x1_4 l2_4 l3_4 x4_4 x5_4 x6_4)) (fun x0_20 x1_20 l2_20 l3_20 x4_20 x5_20 l6_20 x7_20 x8_20 x9_20 l10_20 x11_20 x12_20 => o 20 (impl_Chart_areas.S20 x0_20 x1_20 l2_20 l3_20 x4_20 x5_20 l6_20 x7_20 x8_20 x9_20 l10_20 x11_20 x12_20)) k x0_15 x1_15 l2_15 l3_15 x4_15 x5_15 l6_15 x7_15 x8_15 x9_15 := by kernel_rfl
theorem impl_Chart_areas.e20 (k : Nat) (o : Nat → St → Option (List Int × Int)) (x0_20 : Int) (x1_20 : Int) (l2_20 : List Int) (l3_20 : List Int) (x4_20 : Int) (x5_20 : Int) (l6_20 : List Int) (x7_20 : Int) (x8_20 : Int) (x9_20 : Int) (l10_20 : List Int) (x11_20 : Int) (x12_20 : Int) : impl_Chart_areas.T.step tyt (impl_Chart_areas.tbl k) o 20 (impl_Chart_areas.S20 x0_20 x1_20 l2_20 l3_20 x4_20 x5_20 l6_20 x7_20 x8_20 x9_20 l10_20 x11_20 x12_20) = impl_Chart_areas.b20 (fun x0_15 x1_15 l2_15 l3_15 x4_15 x5_15 l6_15 x7_15 x8_15 x9_15 => o 15 (impl_Chart_areas.S15 x0_15 x1_15 l2_15 l3_15 x4_15 x5_15 l6_15 x7_15 x8_15 x9_15)) (fun x0_25 x1_25 l2_25 l3_25 x4_25 x5_25 l6_25 x7_25 x8_25 x9_25 x10_25 l11_25 x12_25 x13_25 x14_25 => o 25 (impl_Chart_areas.S25 x0_25 x1_25 l2_25 l3_25 x4_25 x5_25 l6_25 x7_25 x8_25 x9_25 x10_25 l11_25 x12_25 x13_25 x14_25)) k x0_20 x1_20 l2_20 l3_20 x4_20 x5_20 l6_20 x7_20 x8_20 x9_20 l10_20 x11_20 x12_20 := by kernel_rfl
theorem impl_Chart_areas.e25 (k : Nat) (o : Nat → St → Option (List Int × Int)) (x0_25 : Int) (x1_25 : Int) (l2_25 : List Int) (l3_25 : List Int) (x4_25 : Int) (x5_25 : Int) (l6_25 : List Int) (x7_25 : Int) (x8_25 : Int) (x9_25 : Int) (x10_25 : Int) (l11_25 : List Int) (x12_25 : Int) (x13_25 : Int) (x14_25 : Bool) : impl_Chart_areas.T.step tyt (impl_Chart_areas.tbl k) o 25 (impl_Chart_areas.S25 x0_25 x1_25 l2_25 l3_25 x4_25 x5_25 l6_25 x7_25 x8_25 x9_25 x10_25 l11_25 x12_25 x13_25 x14_25) = impl_Chart_areas.b25 (fun x0_20 x1_20 l2_20 l3_20 x4_20 x5_20 l6_20 x7_20 x8_20 x9_20 l10_20 x11_20 x12_20 => o 20 (impl_Chart_areas.S20 x0_20 x1_20 l2_20 l3_20 x4_20 x5_20 l6_20 x7_20 x8_20 x9_20 l10_20 x11_20 x12_20)) k x0_25 x1_25 l2_25 l3_25 x4_25 x5_25 l6_25 x7_25 x8_25 x9_25 x10_25 l11_25 x12_25 x13_25 x14_25 := by kernel_rfl
theorem impl_Chart_areas.e (k : Nat) (o : Nat → St → Option (List Int × Int)) (a0_0 : Int) (a0_1 : Int) (l0_2 : List Int) : impl_Chart_areas.T.main tyt (impl_Chart_areas.tbl k) o (a0_0, a0_1, l0_2) = impl_Chart_areas.m (fun x0_4 x1_4 l2_4 l3_4 x4_4 x5_4 x6_4 => o 4 (impl_Chart_areas.S4 x0_4 x1_4 l2_4 l3_4 x4_4 x5_4 x6_4)) k a0_0 a0_1 l0_2 := by kernel_rfl
theorem impl_Chart_areas.ok : impl_Chart_areas.T.ok = true := by kernel_rfl
theorem impl_Chart_areas.run (k : Nat) : (∀ (x0_4 : Int) (x1_4 : Int) (l2_4 : List Int) (l3_4 : List Int) (x4_4 : Int) (x5_4 : Int) (x6_4 : Int), impl_Chart_areas.T.run tyt impl_Chart_areas.tbl k 4 (impl_Chart_areas.S4 x0_4 x1_4 l2_4 l3_4 x4_4 x5_4 x6_4) = impl_Chart_areas.l4 k x0_4 x1_4 l2_4 l3_4 x4_4 x5_4 x6_4) ∧ (∀ (x0_15 : Int) (x1_15 : Int) (l2_15 : List Int) (l3_15 : List Int) (x4_15 : Int) (x5_15 : Int) (l6_15 : List Int) (x7_15 : Int) (x8_15 : Int) (x9_15 : Int), impl_Chart_areas.T.run tyt impl_Chart_areas.tbl k 15 (impl_Chart_areas.S15 x0_15 x1_15 l2_15 l3_15 x4_15 x5_15 l6_15 x7_15 x8_15 x9_15) = impl_Chart_areas.l15 k x0_15 x1_15 l2_15 l3_15 x4_15 x5_15 l6_15 x7_15 x8_15 x9_15) ∧ (∀ (x0_20 : Int) (x1_20 : Int) (l2_20 : List Int) (l3_20 : List Int) (x4_20 : Int) (x5_20 : Int) (l6_20 : List Int) (x7_20 : Int) (x8_20 : Int) (x9_20 : Int) (l10_20 : List Int) (x11_20 : Int) (x12_20 : Int), impl_Chart_areas.T.run tyt impl_Chart_areas.tbl k 20 (impl_Chart_areas.S20 x0_20 x1_20 l2_20 l3_20 x4_20 x5_20 l6_20 x7_20 x8_20 x9_20 l10_20 x11_20 x12_20) = impl_Chart_areas.l20 k x0_20 x1_20 l2_20 l3_20 x4_20 x5_20 l6_20 x7_20 x8_20 x9_20 l10_20 x11_20 x12_20) ∧ (∀ (x0_25 : Int) (x1_25 : Int) (l2_25 : List Int) (l3_25 : List Int) (x4_25 : Int) (x5_25 : Int) (l6_25 : List Int) (x7_25 : Int) (x8_25 : Int) (x9_25 : Int) (x10_25 : Int) (l11_25 : List Int) (x12_25 : Int) (x13_25 : Int) (x14_25 : Bool), impl_Chart_areas.T.run tyt impl_Chart_areas.tbl k 25 (impl_Chart_areas.S25 x0_25 x1_25 l2_25 l3_25 x4_25 x5_25 l6_25 x7_25 x8_25 x9_25 x10_25 l11_25 x12_25 x13_25 x14_25) = impl_Chart_areas.l25 k x0_25 x1_25 l2_25 l3_25 x4_25 x5_25 l6_25 x7_25 x8_25 x9_25 x10_25 l11_25 x12_25 x13_25 x14_25) := by
  induction k with
  | zero => exact ⟨fun x0_4 x1_4 l2_4 l3_4 x4_4 x5_4 x6_4 => rfl, fun x0_15 x1_15 l2_15 l3_15 x4_15 x5_15 l6_15 x7_15 x8_15 x9_15 => rfl, fun x0_20 x1_20 l2_20 l3_20 x4_20 x5_20 l6_20 x7_20 x8_20 x9_20 l10_20 x11_20 x12_20 => rfl, fun x0_25 x1_25 l2_25 l3_25 x4_25 x5_25 l6_25 x7_25 x8_25 x9_25 x10_25 l11_25 x12_25 x13_25 x14_25 => rfl⟩
  | succ k ih =>
    exact ⟨fun x0_4 x1_4 l2_4 l3_4 x4_4 x5_4 x6_4 => by
      have q4 : (fun x0_4 x1_4 l2_4 l3_4 x4_4 x5_4 x6_4 => impl_Chart_areas.T.run tyt impl_Chart_areas.tbl k 4 (impl_Chart_areas.S4 x0_4 x1_4 l2_4 l3_4 x4_4 x5_4 x6_4)) = impl_Chart_areas.l4 k := by funext x0_4 x1_4 l2_4 l3_4 x4_4 x5_4 x6_4; exact ih.1 x0_4 x1_4 l2_4 l3_4 x4_4 x5_4 x6_4
      have q15 : (fun x0_15 x1_15 l2_15 l3_15 x4_15 x5_15 l6_15 x7_15 x8_15 x9_15 => impl_Chart_areas.T.run tyt impl_Chart_areas.tbl k 15 (impl_Chart_areas.S15 x0_15 x1_15 l2_15 l3_15 x4_15 x5_15 l6_15 x7_15 x8_15 x9_15)) = impl_Chart_areas.l15 k := by funext x0_15 x1_15 l2_15 l3_15 x4_15 x5_15 l6_15 x7_15 x8_15 x9_15; exact ih.2.1 x0_15 x1_15 l2_15 l3_15 x4_15 x5_15 l6_15 x7_15 x8_15 x9_15
      exact (impl_Chart_areas.e4 k (impl_Chart_areas.T.run tyt impl_Chart_areas.tbl k) x0_4 x1_4 l2_4 l3_4 x4_4 x5_4 x6_4).trans (by rw [q4, q15]; rfl), fun x0_15 x1_15 l2_15 l3_15 x4_15 x5_15 l6_15 x7_15 x8_15 x9_15 => by
      have q4 : (fun x0_4 x1_4 l2_4 l3_4 x4_4 x5_4 x6_4 => impl_Chart_areas.T.run tyt impl_Chart_areas.tbl k 4 (impl_Chart_areas.S4 x0_4 x1_4 l2_4 l3_4 x4_4 x5_4 x6_4)) = impl_Chart_areas.l4 k := by funext x0_4 x1_4 l2_4 l3_4 x4_4 x5_4 x6_4; exact ih.1 x0_4 x1_4 l2_4 l3_4 x4_4 x5_4 x6_4
      have q20 : (fun x0_20 x1_20 l2_20 l3_20 x4_20 x5_20 l6_20 x7_20 x8_20 x9_20 l10_20 x11_20 x12_20 => impl_Chart_areas.T.run tyt impl_Chart_areas.tbl k 20 (impl_Chart_areas.S20 x0_20 x1_20 l2_20 l3_20 x4_20 x5_20 l6_20 x7_20 x8_20 x9_20 l10_20 x11_20 x12_20)) = impl_Chart_areas.l20 k := by funext x0_20 x1_20 l2_20 l3_20 x4_20 x5_20 l6_20 x7_20 x8_20 x9_20 l10_20 x11_20 x12_20; exact ih.2.2.1 x0_20 x1_20 l2_20 l3_20 x4_20 x5_20 l6_20 x7_20 x8_20 x9_20 l10_20 x11_20 x12_20
      exact (impl_Chart_areas.e15 k (impl_Chart_areas.T.run tyt impl_Chart_areas.tbl k) x0_15 x1_15 l2_15 l3_15 x4_15 x5_15 l6_15 x7_15 x8_15 x9_15).trans (by rw [q4, q20]; rfl), fun x0_20 x1_20 l2_20 l3_20 x4_20 x5_20 l6_20 x7_20 x8_20 x9_20 l10_20 x11_20 x12_20 => by
      have q15 : (fun x0_15 x1_15 l2_15 l3_15 x4_15 x5_15 l6_15 x7_15 x8_15 x9_15 => impl_Chart_areas.T.run tyt impl_Chart_areas.tbl k 15 (impl_Chart_areas.S15 x0_15 x1_15 l2_15 l3_15 x4_15 x5_15 l6_15 x7_15 x8_15 x9_15)) = impl_Chart_areas.l15 k := by funext x0_15 x1_15 l2_15 l3_15 x4_15 x5_15 l6_15 x7_15 x8_15 x9_15; exact ih.2.1 x0_15 x1_15 l2_15 l3_15 x4_15 x5_15 l6_15 x7_15 x8_15 x9_15
      have q25 : (fun x0_25 x1_25 l2_25 l3_25 x4_25 x5_25 l6_25 x7_25 x8_25 x9_25 x10_25 l11_25 x12_25 x13_25 x14_25 => impl_Chart_areas.T.run tyt impl_Chart_areas.tbl k 25 (impl_Chart_areas.S25 x0_25 x1_25 l2_25 l3_25 x4_25 x5_25 l6_25 x7_25 x8_25 x9_25 x10_25 l11_25 x12_25 x13_25 x14_25)) = impl_Chart_areas.l25 k := by funext x0_25 x1_25 l2_25 l3_25 x4_25 x5_25 l6_25 x7_25 x8_25 x9_25 x10_25 l11_25 x12_25 x13_25 x14_25; exact ih.2.2.2 x0_25 x1_25 l2_25 l3_25 x4_25 x5_25 l6_25 x7_25 x8_25 x9_25 x10_25 l11_25 x12_25 x13_25 x14_25
      exact (impl_Chart_areas.e20 k (impl_Chart_areas.T.run tyt impl_Chart_areas.tbl k) x0_20 x1_20 l2_20 l3_20 x4_20 x5_20 l6_20 x7_20 x8_20 x9_20 l10_20 x11_20 x12_20).trans (by rw [q15, q25]; rfl), fun x0_25 x1_25 l2_25 l3_25 x4_25 x5_25 l6_25 x7_25 x8_25 x9_25 x10_25 l11_25 x12_25 x13_25 x14_25 => by
      have q20 : (fun x0_20 x1_20 l2_20 l3_20 x4_20 x5_20 l6_20 x7_20 x8_20 x9_20 l10_20 x11_20 x12_20 => impl_Chart_areas.T.run tyt impl_Chart_areas.tbl k 20 (impl_Chart_areas.S20 x0_20 x1_20 l2_20 l3_20 x4_20 x5_20 l6_20 x7_20 x8_20 x9_20 l10_20 x11_20 x12_20)) = impl_Chart_areas.l20 k := by funext x0_20 x1_20 l2_20 l3_20 x4_20 x5_20 l6_20 x7_20 x8_20 x9_20 l10_20 x11_20 x12_20; exact ih.2.2.1 x0_20 x1_20 l2_20 l3_20 x4_20 x5_20 l6_20 x7_20 x8_20 x9_20 l10_20 x11_20 x12_20
      exact (impl_Chart_areas.e25 k (impl_Chart_areas.T.run tyt impl_Chart_areas.tbl k) x0_25 x1_25 l2_25 l3_25 x4_25 x5_25 l6_25 x7_25 x8_25 x9_25 x10_25 l11_25 x12_25 x13_25 x14_25).trans (by rw [q20]; rfl)⟩
theorem impl_Chart_areas.tblok (k : Nat) : TblOk Go.Proofs.Try.prog (impl_Chart_areas.tbl k) := TblOk.cons (slices_Repeat_int_int.sound k) (TblOk.cons (impl_Chart_besides.sound k) (TblOk.nil _))
theorem impl_Chart_areas.sound (k : Nat) : Sound Go.Proofs.Try.prog 138 (impl_Chart_areas.spec k) := by
  have h := fn_ok (F := impl_Chart_areas.T) (tbl := impl_Chart_areas.tbl) mixed tyok Go.Proofs.Try.func138 (by kernel_rfl) (c0 := bodyOf Go.Proofs.Try.f138) rfl (conv_code _ _ _) rfl rfl impl_Chart_areas.ok k (fun j _ => impl_Chart_areas.tblok j)
  have q4 : (fun x0_4 x1_4 l2_4 l3_4 x4_4 x5_4 x6_4 => impl_Chart_areas.T.run tyt impl_Chart_areas.tbl k 4 (impl_Chart_areas.S4 x0_4 x1_4 l2_4 l3_4 x4_4 x5_4 x6_4)) = impl_Chart_areas.l4 k := by funext x0_4 x1_4 l2_4 l3_4 x4_4 x5_4 x6_4; exact (impl_Chart_areas.run k).1 x0_4 x1_4 l2_4 l3_4 x4_4 x5_4 x6_4
  have e : impl_Chart_areas.spec k = ⟨impl_Chart_areas.T.ps, impl_Chart_areas.T.rs, impl_Chart_areas.T.ev tyt impl_Chart_areas.tbl k⟩ := congrArg (FnSpec.mk _ _) (funext fun x => ((impl_Chart_areas.e k (impl_Chart_areas.T.run tyt impl_Chart_areas.tbl k) x.1 x.2.1 x.2.2).trans (by rw [q4]; rfl)).symm)
  rw [e]
  exact h
/-! ### slices_Clone_int_int: function 234, by hand -/
def slices_Clone_int_int.f (k : Nat) (l0 : List Int) : Option (List Int) := app 17592186044416 ([] : List Int) l0
noncomputable def slices_Clone_int_int.spec (k : Nat) : FnSpec := ⟨[.d (.sl (.int .i64)) none], [.d (.sl (.int .i64)) (some 3)], fun x => slices_Clone_int_int.f k x⟩
theorem slices_Clone_int_int.sound (k : Nat) : Sound Go.Proofs.Try.prog 234 (slices_Clone_int_int.spec k) := clone_ok (t := 22) (e := 3) (ti := tyt22) (ei := tyt3) (nt := Go.Proofs.Try.f234.ntmps) tyok Go.Proofs.Try.func234 (by kernel_rfl) rfl rfl rfl rfl (by decide) rfl rfl ⟨rfl, rfl, rfl⟩ ⟨rfl, rfl, rfl⟩ ⟨rfl, rfl, rfl⟩ ⟨rfl, rfl, rfl⟩ ⟨rfl, rfl, rfl⟩ ⟨rfl, rfl, rfl⟩ ⟨rfl, rfl, rfl⟩ ⟨rfl, rfl, rfl⟩
/-! ### impl_Chart_copied: function 140 -/
def impl_Chart_copied.m (k : Nat) (a0_0 : Int) (a0_1 : Int) (l0_2 : List Int) : Option (Int × Int × List Int) := ((slices_Clone_int_int.f k l0_2).bind fun r1 => (some (a0_0, a0_1, r1)))
def impl_Chart_copied.f (k : Nat) (a0_0 : Int) (a0_1 : Int) (l0_2 : List Int) : Option (Int × Int × List Int) := impl_Chart_copied.m k a0_0 a0_1 l0_2
noncomputable def impl_Chart_copied.spec (k : Nat) : FnSpec := ⟨[.ag [.d (.int .i64) none, .d (.int .i64) none, .d (.sl (.int .i64)) none]], [.ag [.d (.int .i64) none, .d (.int .i64) none, .d (.sl (.int .i64)) (some 3)]], fun x => impl_Chart_copied.f k x.1 x.2.1 x.2.2⟩
noncomputable def impl_Chart_copied.T : FnText := ⟨(conv [] (bodyOf Go.Proofs.Try.f140) 0).1, Go.Proofs.Try.f140.results.toList, 8, [], [.ag [.d (.int .i64) none, .d (.int .i64) none, .d (.sl (.int .i64)) none]], [.ag [.d (.int .i64) none, .d (.int .i64) none, .d (.sl (.int .i64)) (some 3)]]⟩
noncomputable def impl_Chart_copied.tbl (k : Nat) : Tbl := [(234, slices_Clone_int_int.spec k)]
theorem impl_Chart_copied.e (k : Nat) (o : Nat → St → Option (Int × Int × List Int)) (a0_0 : Int) (a0_1 : Int) (l0_2 : List Int) : impl_Chart_copied.T.main tyt (impl_Chart_copied.tbl k) o (a0_0, a0_1, l0_2) = impl_Chart_copied.m k a0_0 a0_1 l0_2 := by kernel_rfl
theorem impl_Chart_copied.ok : impl_Chart_copied.T.ok = true := by kernel_rfl
theorem impl_Chart_copied.tblok (k : Nat) : TblOk Go.Proofs.Try.prog (impl_Chart_copied.tbl k) := TblOk.cons (slices_Clone_int_int.sound k) (TblOk.nil _)
theorem impl_Chart_copied.sound (k : Nat) : Sound Go.Proofs.Try.prog 140 (impl_Chart_copied.spec k) := by
  have h := fn_ok (F := impl_Chart_copied.T) (tbl := impl_Chart_copied.tbl) mixed tyok Go.Proofs.Try.func140 (by kernel_rfl) (c0 := bodyOf Go.Proofs.Try.f140) rfl (conv_code _ _ _) rfl rfl impl_Chart_copied.ok k (fun j _ => impl_Chart_copied.tblok j)
  have e : impl_Chart_copied.spec k = ⟨impl_Chart_copied.T.ps, impl_Chart_copied.T.rs, impl_Chart_copied.T.ev tyt impl_Chart_copied.tbl k⟩ := congrArg (FnSpec.mk _ _) (funext fun x => ((impl_Chart_copied.e k (impl_Chart_copied.T.run tyt impl_Chart_copied.tbl k) x.1 x.2.1 x.2.2).trans (by rfl)).symm)
  rw [e]
  exact h
/-! ### impl_FillArea: function 17 -/
def impl_FillArea.b11 (o11 : Int → Int → Int → Int → List Int → Int → Int → List Int → List Int → Int → Int → Option (Int × Int × List Int × Bool)) (k : Nat) (x0_11 : Int) (x1_11 : Int) (x2_11 : Int) (x3_11 : Int) (l4_11 : List Int) (x5_11 : Int) (x6_11 : Int) (l7_11 : List Int) (l8_11 : List Int) (x9_11 : Int) (x10_11 : Int) : Option (Int × Int × List Int × Bool) := (if x10_11 < x9_11 then ((chk l8_11.length x10_11).bind fun i6 => (if (l8_11.getD i6 0) = x0_11 then ((chk l7_11.length x10_11).bind fun i7 => (o11 x0_11 x1_11 x2_11 x3_11 l4_11 x5_11 x6_11 (l7_11.set i7 x1_11) l8_11 x9_11 (w64 (x10_11 + 1)))) else (o11 x0_11 x1_11 x2_11 x3_11 l4_11 x5_11 x6_11 l7_11 l8_11 x9_11 (w64 (x10_11 + 1))))) else (some (x5_11, x6_11, l7_11, true)))
def impl_FillArea.l11 : Nat → Int → Int → Int → Int → List Int → Int → Int → List Int → List Int → Int → Int → Option (Int × Int × List Int × Bool)
  | 0, _, _, _, _, _, _, _, _, _, _, _ => none
  | k + 1, x0_11, x1_11, x2_11, x3_11, l4_11, x5_11, x6_11, l7_11, l8_11, x9_11, x10_11 => impl_FillArea.b11 (impl_FillArea.l11 k) k x0_11 x1_11 x2_11 x3_11 l4_11 x5_11 x6_11 l7_11 l8_11 x9_11 x10_11
def impl_FillArea.m (o11 : Int → Int → Int → Int → List Int → Int → Int → List Int → List Int → Int → Int → Option (Int × Int × List Int × Bool)) (k : Nat) (a0_0 : Int) (a0_1 : Int) (l0_2 : List Int) (a1 : Int) (a2 : Int) : Option (Int × Int × List Int × Bool) := ((impl_IsChart.f k a0_0 a0_1 l0_2).bind fun r1 => (cond (!r1) (some (0, 0, [], false)) ((impl_isColor.f k a2).bind fun r2 => (cond (!r2) (some (0, 0, [], false)) ((impl_Chart_areas.f k a0_0 a0_1 l0_2).bind fun r3 => ((impl_in.f k a1 0 (w64 (r3.2 - 1))).bind fun r4 => (cond (!r4) (some (0, 0, [], false)) ((impl_Chart_copied.f k a0_0 a0_1 l0_2).bind fun r5 => (o11 a1 a2 0 0 [] r5.1 r5.2.1 r5.2.2 r3.1 (r3.1.length : Int) 0)))))))))
def impl_FillArea.f (k : Nat) (a0_0 : Int) (a0_1 : Int) (l0_2 : List Int) (a1 : Int) (a2 : Int) : Option (Int × Int × List Int × Bool) := impl_FillArea.m (impl_FillArea.l11 k) k a0_0 a0_1 l0_2 a1 a2
noncomputable def impl_FillArea.spec (k : Nat) : FnSpec := ⟨[.ag [.d (.int .i64) none, .d (.int .i64) none, .d (.sl (.int .i64)) none], .d (.int .i64) none, .d (.int .i64) none], [.ag [.d (.int .i64) none, .d (.int .i64) none, .d (.sl (.int .i64)) (some 3)], .d .bool none], fun x => impl_FillArea.f k x.1 x.2.1 x.2.2.1 x.2.2.2.1 x.2.2.2.2⟩
def impl_FillArea.S11 (x0_11 : Int) (x1_11 : Int) (x2_11 : Int) (x3_11 : Int) (l4_11 : List Int) (x5_11 : Int) (x6_11 : Int) (l7_11 : List Int) (l8_11 : List Int) (x9_11 : Int) (x10_11 : Int) : St := ⟨[(1, .val (.int .i64) x0_11), (2, .val (.int .i64) x1_11), (6, .ptr 100 0), (10, .ptr 101 0), (35, .ref 103), (36, .val (.int .i64) x9_11), (37, .val (.int .i64) x10_11)], [(103, some (.row 3 (.int .i64) l8_11)), (101, some (.box [.val (.int .i64) x5_11, .val (.int .i64) x6_11, .ref 102])), (102, some (.row 3 (.int .i64) l7_11)), (100, some (.box [.val (.int .i64) x2_11, .val (.int .i64) x3_11, .val (.sl (.int .i64)) l4_11]))], 1000⟩
noncomputable def impl_FillArea.T : FnText := ⟨(conv [] (bodyOf Go.Proofs.Try.f17) 0).1, Go.Proofs.Try.f17.results.toList, 52, [(11, [(1, .rd (.int .i64)), (2, .rd (.int .i64)), (6, .bx 100 [.rd (.int .i64), .rd (.int .i64), .rd (.sl (.int .i64))]), (10, .bx 101 [.rd (.int .i64), .rd (.int .i64), .own 3 (.int .i64) 102]), (35, .own 3 (.int .i64) 103), (36, .rd (.int .i64)), (37, .rd (.int .i64))])], [.ag [.d (.int .i64) none, .d (.int .i64) none, .d (.sl (.int .i64)) none], .d (.int .i64) none, .d (.int .i64) none], [.ag [.d (.int .i64) none, .d (.int .i64) none, .d (.sl (.int .i64)) (some 3)], .d .bool none]⟩
noncomputable def impl_FillArea.tbl (k : Nat) : Tbl := [(39, impl_IsChart.spec k), (137, impl_isColor.spec k), (138, impl_Chart_areas.spec k), (139, impl_in.spec k), (140, impl_Chart_copied.spec k)]
theorem impl_FillArea.e11 (k : Nat) (o : Nat → St → Option (Int × Int × List Int × Bool)) (x0_11 : Int) (x1_11 : Int) (x2_11 : Int) (x3_11 : Int) (l4_11 : List Int) (x5_11 : Int) (x6_11 : Int) (l7_11 : List Int) (l8_11 : List Int) (x9_11 : Int) (x10_11 : Int) : impl_FillArea.T.step tyt (impl_FillArea.tbl k) o 11 (impl_FillArea.S11 x0_11 x1_11 x2_11 x3_11 l4_11 x5_11 x6_11 l7_11 l8_11 x9_11 x10_11) = impl_FillArea.b11 (fun x0_11 x1_11 x2_11 x3_11 l4_11 x5_11 x6_11 l7_11 l8_11 x9_11 x10_11 => o 11 (impl_FillArea.S11 x0_11 x1_11 x2_11 x3_11 l4_11 x5_11 x6_11 l7_11 l8_11 x9_11 x10_11)) k x0_11 x1_11 x2_11 x3_11 l4_11 x5_11 x6_11 l7_11 l8_11 x9_11 x10_11 := by kernel_rfl
theorem impl_FillArea.e (k : Nat) (o : Nat → St → Option (Int × Int × List Int × Bool)) (a0_0 : Int) (a0_1 : Int) (l0_2 : List Int) (a1 : Int) (a2 : Int) : impl_FillArea.T.main tyt (impl_FillArea.tbl k) o (a0_0, a0_1, l0_2, a1, a2) = impl_FillArea.m (fun x0_11 x1_11 x2_11 x3_11 l4_11 x5_11 x6_11 l7_11 l8_11 x9_11 x10_11 => o 11 (impl_FillArea.S11 x0_11 x1_11 x2_11 x3_11 l4_11 x5_11 x6_11 l7_11 l8_11 x9_11 x10_11)) k a0_0 a0_1 l0_2 a1 a2 := by kernel_rfl
theorem impl_FillArea.ok : impl_FillArea.T.ok = true := by kernel_rfl
theorem impl_FillArea.run (k : Nat) : (∀ (x0_11 : Int) (x1_11 : Int) (x2_11 : Int) (x3_11 : Int) (l4_11 : List Int) (x5_11 : Int) (x6_11 : Int) (l7_11 : List Int) (l8_11 : List Int) (x9_11 : Int) (x10_11 : Int), impl_FillArea.T.run tyt impl_FillArea.tbl k 11 (impl_FillArea.S11 x0_11 x1_11 x2_11 x3_11 l4_11 x5_11 x6_11 l7_11 l8_11 x9_11 x10_11) = impl_FillArea.l11 k x0_11 x1_11 x2_11 x3_11 l4_11 x5_11 x6_11 l7_11 l8_11 x9_11 x10_11) := by
  induction k with
  | zero => exact fun x0_11 x1_11 x2_11 x3_11 l4_11 x5_11 x6_11 l7_11 l8_11 x9_11 x10_11 => rfl
  | succ k ih =>
    exact fun x0_11 x1_11 x2_11 x3_11 l4_11 x5_11 x6_11 l7_11 l8_11 x9_11 x10_11 => by
      have q11 : (fun x0_11 x1_11 x2_11 x3_11 l4_11 x5_11 x6_11 l7_11 l8_11 x9_11 x10_11 => impl_FillArea.T.run tyt impl_FillArea.tbl k 11 (impl_FillArea.S11 x0_11 x1_11 x2_11 x3_11 l4_11 x5_11 x6_11 l7_11 l8_11 x9_11 x10_11)) = impl_FillArea.l11 k := by funext x0_11 x1_11 x2_11 x3_11 l4_11 x5_11 x6_11 l7_11 l8_11 x9_11 x10_11; exact ih x0_11 x1_11 x2_11 x3_11 l4_11 x5_11 x6_11 l7_11 l8_11 x9_11 x10_11
      exact (impl_FillArea.e11 k (impl_FillArea.T.run tyt impl_FillArea.tbl k) x0_11 x1_11 x2_11 x3_11 l4_11 x5_11 x6_11 l7_11 l8_11 x9_11 x10_11).trans (by rw [q11]; rfl)
theorem impl_FillArea.tblok (k : Nat) : TblOk Go.Proofs.Try.prog (impl_FillArea.tbl k) := TblOk.cons (impl_IsChart.sound k) (TblOk.cons (impl_isColor.sound k) (TblOk.cons (impl_Chart_areas.sound k) (TblOk.cons (impl_in.sound k) (TblOk.cons (impl_Chart_copied.sound k) (TblOk.nil _)))))
theorem impl_FillArea.sound (k : Nat) : Sound Go.Proofs.Try.prog 17 (impl_FillArea.spec k) := by
  have h := fn_ok (F := impl_FillArea.T) (tbl := impl_FillArea.tbl) mixed tyok Go.Proofs.Try.func17 (by kernel_rfl) (c0 := bodyOf Go.Proofs.Try.f17) rfl (conv_code _ _ _) rfl rfl impl_FillArea.ok k (fun j _ => impl_FillArea.tblok j)
  have q11 : (fun x0_11 x1_11 x2_11 x3_11 l4_11 x5_11 x6_11 l7_11 l8_11 x9_11 x10_11 => impl_FillArea.T.run tyt impl_FillArea.tbl k 11 (impl_FillArea.S11 x0_11 x1_11 x2_11 x3_11 l4_11 x5_11 x6_11 l7_11 l8_11 x9_11 x10_11)) = impl_FillArea.l11 k := by funext x0_11 x1_11 x2_11 x3_11 l4_11 x5_11 x6_11 l7_11 l8_11 x9_11 x10_11; exact (impl_FillArea.run k) x0_11 x1_11 x2_11 x3_11 l4_11 x5_11 x6_11 l7_11 l8_11 x9_11 x10_11
  have e : impl_FillArea.spec k = ⟨impl_FillArea.T.ps, impl_FillArea.T.rs, impl_FillArea.T.ev tyt impl_FillArea.tbl k⟩ := congrArg (FnSpec.mk _ _) (funext fun x => ((impl_FillArea.e k (impl_FillArea.T.run tyt impl_FillArea.tbl k) x.1 x.2.1 x.2.2.1 x.2.2.2.1 x.2.2.2.2).trans (by rw [q11]; rfl)).symm)
  rw [e]
  exact h
/-! ### laws_eqIntS: function 141 -/
def laws_eqIntS.b6 (o6 : List Int → List Int → Int → Option (Bool)) (k : Nat) (l0_6 : List Int) (l1_6 : List Int) (x2_6 : Int) : Option (Bool) := (if x2_6 < (l0_6.length : Int) then ((chk l0_6.length x2_6).bind fun i1 => ((chk l1_6.length x2_6).bind fun i2 => (if ¬ (l0_6.getD i1 0) = (l1_6.getD i2 0) then (some false) else (o6 l0_6 l1_6 (w64 (x2_6 + 1)))))) else (some true))
def laws_eqIntS.l6 : Nat → List Int → List Int → Int → Option (Bool)
  | 0, _, _, _ => none
  | k + 1, l0_6, l1_6, x2_6 => laws_eqIntS.b6 (laws_eqIntS.l6 k) k l0_6 l1_6 x2_6
def laws_eqIntS.m (o6 : List Int → List Int → Int → Option (Bool)) (k : Nat) (l0 : List Int) (l1 : List Int) : Option (Bool) := (if ¬ (l0.length : Int) = (l1.length : Int) then (some false) else (o6 l0 l1 0))
def laws_eqIntS.f (k : Nat) (l0 : List Int) (l1 : List Int) : Option (Bool) := laws_eqIntS.m (laws_eqIntS.l6 k) k l0 l1
noncomputable def laws_eqIntS.spec (k : Nat) : FnSpec := ⟨[.d (.sl (.int .i64)) none, .d (.sl (.int .i64)) none], [.d .bool none], fun x => laws_eqIntS.f k x.1 x.2⟩
def laws_eqIntS.S6 (l0_6 : List Int) (l1_6 : List Int) (x2_6 : Int) : St := ⟨[(0, .val (.sl (.int .i64)) l0_6), (1, .val (.sl (.int .i64)) l1_6), (5, .val (.int .i64) x2_6)], [], 1000⟩
noncomputable def laws_eqIntS.T : FnText := ⟨(conv [] (bodyOf Go.Proofs.Try.f141) 0).1, Go.Proofs.Try.f141.results.toList, 26, [(6, [(0, .rd (.sl (.int .i64))), (1, .rd (.sl (.int .i64))), (5, .rd (.int .i64))])], [.d (.sl (.int .i64)) none, .d (.sl (.int .i64)) none], [.d .bool none]⟩
noncomputable def laws_eqIntS.tbl (k : Nat) : Tbl := []
theorem laws_eqIntS.e6 (k : Nat) (o : Nat → St → Option (Bool)) (l0_6 : List Int) (l1_6 : List Int) (x2_6 : Int) : laws_eqIntS.T.step tyt (laws_eqIntS.tbl k) o 6 (laws_eqIntS.S6 l0_6 l1_6 x2_6) = laws_eqIntS.b6 (fun l0_6 l1_6 x2_6 => o 6 (laws_eqIntS.S6 l0_6 l1_6 x2_6)) k l0_6 l1_6 x2_6 := by kernel_rfl
theorem laws_eqIntS.e (k : Nat) (o : Nat → St → Option (Bool)) (l0 : List Int) (l1 : List Int) : laws_eqIntS.T.main tyt (laws_eqIntS.tbl k) o (l0, l1) = laws_eqIntS.m (fun l0_6 l1_6 x2_6 => o 6 (laws_eqIntS.S6 l0_6 l1_6 x2_6)) k l0 l1 := by kernel_rfl
theorem laws_eqIntS.ok : laws_eqIntS.T.ok = true := by kernel_rfl
theorem laws_eqIntS.run (k : Nat) : (∀ (l0_6 : List Int) (l1_6 : List Int) (x2_6 : Int), laws_eqIntS.T.run tyt laws_eqIntS.tbl k 6 (laws_eqIntS.S6 l0_6 l1_6 x2_6) = laws_eqIntS.l6 k l0_6 l1_6 x2_6) := by
  induction k with
  | zero => exact fun l0_6 l1_6 x2_6 => rfl
  | succ k ih =>
    exact fun l0_6 l1_6 x2_6 => by
      have q6 : (fun l0_6 l1_6 x2_6 => laws_eqIntS.T.run tyt laws_eqIntS.tbl k 6 (laws_eqIntS.S6 l0_6 l1_6 x2_6)) = laws_eqIntS.l6 k := by funext l0_6 l1_6 x2_6; exact ih l0_6 l1_6 x2_6
      exact (laws_eqIntS.e6 k (laws_eqIntS.T.run tyt laws_eqIntS.tbl k) l0_6 l1_6 x2_6).trans (by rw [q6]; rfl)
theorem laws_eqIntS.tblok (k : Nat) : TblOk Go.Proofs.Try.prog (laws_eqIntS.tbl k) := TblOk.nil _
theorem laws_eqIntS.sound (k : Nat) : Sound Go.Proofs.Try.prog 141 (laws_eqIntS.spec k) := by
  have h := fn_ok (F := laws_eqIntS.T) (tbl := laws_eqIntS.tbl) mixed tyok Go.Proofs.Try.func141 (by kernel_rfl) (c0 := bodyOf Go.Proofs.Try.f141) rfl (conv_code _ _ _) rfl rfl laws_eqIntS.ok k (fun j _ => laws_eqIntS.tblok j)
  have q6 : (fun l0_6 l1_6 x2_6 => laws_eqIntS.T.run tyt laws_eqIntS.tbl k 6 (laws_eqIntS.S6 l0_6 l1_6 x2_6)) = laws_eqIntS.l6 k := by funext l0_6 l1_6 x2_6; exact (laws_eqIntS.run k) l0_6 l1_6 x2_6
  have e : laws_eqIntS.spec k = ⟨laws_eqIntS.T.ps, laws_eqIntS.T.rs, laws_eqIntS.T.ev tyt laws_eqIntS.tbl k⟩ := congrArg (FnSpec.mk _ _) (funext fun x => ((laws_eqIntS.e k (laws_eqIntS.T.run tyt laws_eqIntS.tbl k) x.1 x.2).trans (by rw [q6]; rfl)).symm)
  rw [e]
  exact h
/-! ### laws_eqChart: function 18 -/
def laws_eqChart.m (k : Nat) (a0_0 : Int) (a0_1 : Int) (l0_2 : List Int) (a1_0 : Int) (a1_1 : Int) (l1_2 : List Int) : Option (Bool) := (if ¬ a0_0 = a1_0 then (some false) else (if ¬ a0_1 = a1_1 then (some false) else ((laws_eqIntS.f k l0_2 l1_2).bind fun r1 => (cond (!r1) (some false) (some true)))))
def laws_eqChart.f (k : Nat) (a0_0 : Int) (a0_1 : Int) (l0_2 : List Int) (a1_0 : Int) (a1_1 : Int) (l1_2 : List Int) : Option (Bool) := laws_eqChart.m k a0_0 a0_1 l0_2 a1_0 a1_1 l1_2
noncomputable def laws_eqChart.spec (k : Nat) : FnSpec := ⟨[.ag [.d (.int .i64) none, .d (.int .i64) none, .d (.sl (.int .i64)) none], .ag [.d (.int .i64) none, .d (.int .i64) none, .d (.sl (.int .i64)) none]], [.d .bool none], fun x => laws_eqChart.f k x.1 x.2.1 x.2.2.1 x.2.2.2.1 x.2.2.2.2.1 x.2.2.2.2.2⟩
noncomputable def laws_eqChart.T : FnText := ⟨(conv [] (bodyOf Go.Proofs.Try.f18) 0).1, Go.Proofs.Try.f18.results.toList, 21, [], [.ag [.d (.int .i64) none, .d (.int .i64) none, .d (.sl (.int .i64)) none], .ag [.d (.int .i64) none, .d (.int .i64) none, .d (.sl (.int .i64)) none]], [.d .bool none]⟩
noncomputable def laws_eqChart.tbl (k : Nat) : Tbl := [(141, laws_eqIntS.spec k)]
theorem laws_eqChart.e (k : Nat) (o : Nat → St → Option (Bool)) (a0_0 : Int) (a0_1 : Int) (l0_2 : List Int) (a1_0 : Int) (a1_1 : Int) (l1_2 : List Int) : laws_eqChart.T.main tyt (laws_eqChart.tbl k) o (a0_0, a0_1, l0_2, a1_0, a1_1, l1_2) = laws_eqChart.m k a0_0 a0_1 l0_2 a1_0 a1_1 l1_2 := by kernel_rfl
theorem laws_eqChart.ok : laws_eqChart.T.ok = true := by kernel_rfl
theorem laws_eqChart.tblok (k : Nat) : TblOk Go.Proofs.Try.prog (laws_eqChart.tbl k) := TblOk.cons (laws_eqIntS.sound k) (TblOk.nil _)
theorem laws_eqChart.sound (k : Nat) : Sound Go.Proofs.Try.prog 18 (laws_eqChart.spec k) := by
  have h := fn_ok (F := laws_eqChart.T) (tbl := laws_eqChart.tbl) mixed tyok Go.Proofs.Try.func18 (by kernel_rfl) (c0 := bodyOf Go.Proofs.Try.f18) rfl (conv_code _ _ _) rfl rfl laws_eqChart.ok k (fun j _ => laws_eqChart.tblok j)
  have e : laws_eqChart.spec k = ⟨laws_eqChart.T.ps, laws_eqChart.T.rs, laws_eqChart.T.ev tyt laws_eqChart.tbl k⟩ := congrArg (FnSpec.mk _ _) (funext fun x => ((laws_eqChart.e k (laws_eqChart.T.run tyt laws_eqChart.tbl k) x.1 x.2.1 x.2.2.1 x.2.2.2.1 x.2.2.2.2.1 x.2.2.2.2.2).trans (by rfl)).symm)
  rw [e]
  exact h
/-! ### laws_markIntS: function 142 -/
def laws_markIntS.b3 (o3 : List Int → Int → Int → Option (Int × List Int)) (k : Nat) (l0_3 : List Int) (x1_3 : Int) (x2_3 : Int) : Option (Int × List Int) := (if x2_3 < (l0_3.length : Int) then ((chk l0_3.length x2_3).bind fun i1 => (o3 (l0_3.set i1 x1_3) (w64 (x1_3 + 1)) (w64 (x2_3 + 1)))) else (some (x1_3, l0_3)))
def laws_markIntS.l3 : Nat → List Int → Int → Int → Option (Int × List Int)
  | 0, _, _, _ => none
  | k + 1, l0_3, x1_3, x2_3 => laws_markIntS.b3 (laws_markIntS.l3 k) k l0_3 x1_3 x2_3
def laws_markIntS.m (o3 : List Int → Int → Int → Option (Int × List Int)) (k : Nat) (l0 : List Int) (a1 : Int) : Option (Int × List Int) := (o3 l0 a1 0)
def laws_markIntS.f (k : Nat) (l0 : List Int) (a1 : Int) : Option (Int × List Int) := laws_markIntS.m (laws_markIntS.l3 k) k l0 a1
noncomputable def laws_markIntS.spec (k : Nat) : FnSpec := ⟨[.io 3 (.int .i64), .d (.int .i64) none], [.d (.int .i64) none], fun x => laws_markIntS.f k x.1 x.2⟩
def laws_markIntS.S3 (l0_3 : List Int) (x1_3 : Int) (x2_3 : Int) : St := ⟨[(0, .ref 0), (1, .val (.int .i64) x1_3), (5, .val (.int .i64) x2_3)], [(0, some (.row 3 (.int .i64) l0_3))], 1000⟩
noncomputable def laws_markIntS.T : FnText := ⟨(conv [] (bodyOf Go.Proofs.Try.f142) 0).1, Go.Proofs.Try.f142.results.toList, 19, [(3, [(0, .own 3 (.int .i64) 0), (1, .rd (.int .i64)), (5, .rd (.int .i64))])], [.io 3 (.int .i64), .d (.int .i64) none], [.d (.int .i64) none]⟩
noncomputable def laws_markIntS.tbl (k : Nat) : Tbl := []
theorem laws_markIntS.e3 (k : Nat) (o : Nat → St → Option (Int × List Int)) (l0_3 : List Int) (x1_3 : Int) (x2_3 : Int) : laws_markIntS.T.step tyt (laws_markIntS.tbl k) o 3 (laws_markIntS.S3 l0_3 x1_3 x2_3) = laws_markIntS.b3 (fun l0_3 x1_3 x2_3 => o 3 (laws_markIntS.S3 l0_3 x1_3 x2_3)) k l0_3 x1_3 x2_3 := by kernel_rfl
theorem laws_markIntS.e (k : Nat) (o : Nat → St → Option (Int × List Int)) (l0 : List Int) (a1 : Int) : laws_markIntS.T.main tyt (laws_markIntS.tbl k) o (l0, a1) = laws_markIntS.m (fun l0_3 x1_3 x2_3 => o 3 (laws_markIntS.S3 l0_3 x1_3 x2_3)) k l0 a1 := by kernel_rfl
theorem laws_markIntS.ok : laws_markIntS.T.ok = true := by kernel_rfl
theorem laws_markIntS.run (k : Nat) : (∀ (l0_3 : List Int) (x1_3 : Int) (x2_3 : Int), laws_markIntS.T.run tyt laws_markIntS.tbl k 3 (laws_markIntS.S3 l0_3 x1_3 x2_3) = laws_markIntS.l3 k l0_3 x1_3 x2_3) := by
  induction k with
  | zero => exact fun l0_3 x1_3 x2_3 => rfl
  | succ k ih =>
    exact fun l0_3 x1_3 x2_3 => by
      have q3 : (fun l0_3 x1_3 x2_3 => laws_markIntS.T.run tyt laws_markIntS.tbl k 3 (laws_markIntS.S3 l0_3 x1_3 x2_3)) = laws_markIntS.l3 k := by funext l0_3 x1_3 x2_3; exact ih l0_3 x1_3 x2_3
      exact (laws_markIntS.e3 k (laws_markIntS.T.run tyt laws_markIntS.tbl k) l0_3 x1_3 x2_3).trans (by rw [q3]; rfl)
theorem laws_markIntS.tblok (k : Nat) : TblOk Go.Proofs.Try.prog (laws_markIntS.tbl k) := TblOk.nil _
theorem laws_markIntS.sound (k : Nat) : Sound Go.Proofs.Try.prog 142 (laws_markIntS.spec k) := by
  have h := fn_ok (F := laws_markIntS.T) (tbl := laws_markIntS.tbl) mixed tyok Go.Proofs.Try.func142 (by kernel_rfl) (c0 := bodyOf Go.Proofs.Try.f142) rfl (conv_code _ _ _) rfl rfl laws_markIntS.ok k (fun j _ => laws_markIntS.tblok j)
  have q3 : (fun l0_3 x1_3 x2_3 => laws_markIntS.T.run tyt laws_markIntS.tbl k 3 (laws_markIntS.S3 l0_3 x1_3 x2_3)) = laws_markIntS.l3 k := by funext l0_3 x1_3 x2_3; exact (laws_markIntS.run k) l0_3 x1_3 x2_3
  have e : laws_markIntS.spec k = ⟨laws_markIntS.T.ps, laws_markIntS.T.rs, laws_markIntS.T.ev tyt laws_markIntS.tbl k⟩ := congrArg (FnSpec.mk _ _) (funext fun x => ((laws_markIntS.e k (laws_markIntS.T.run tyt laws_markIntS.tbl k) x.1 x.2).trans (by rw [q3]; rfl)).symm)
  rw [e]
  exact h
/-! ### laws_markChart: function 19 -/
def laws_markChart.m (k : Nat) (a0_0 : Int) (a0_1 : Int) (l0_2 : List Int) (a1 : Int) : Option (Int × List Int) := ((laws_markIntS.f k l0_2 a1).bind fun r1 => (some (r1.1, r1.2)))
def laws_markChart.f (k : Nat) (a0_0 : Int) (a0_1 : Int) (l0_2 : List Int) (a1 : Int) : Option (Int × List Int) := laws_markChart.m k a0_0 a0_1 l0_2 a1
noncomputable def laws_markChart.spec (k : Nat) : FnSpec := ⟨[.ag [.d (.int .i64) none, .d (.int .i64) none, .io 3 (.int .i64)], .d (.int .i64) none], [.d (.int .i64) none], fun x => laws_markChart.f k x.1 x.2.1 x.2.2.1 x.2.2.2⟩
noncomputable def laws_markChart.T : FnText := ⟨(conv [] (bodyOf Go.Proofs.Try.f19) 0).1, Go.Proofs.Try.f19.results.toList, 10, [], [.ag [.d (.int .i64) none, .d (.int .i64) none, .io 3 (.int .i64)], .d (.int .i64) none], [.d (.int .i64) none]⟩
noncomputable def laws_markChart.tbl (k : Nat) : Tbl := [(142, laws_markIntS.spec k)]
theorem laws_markChart.e (k : Nat) (o : Nat → St → Option (Int × List Int)) (a0_0 : Int) (a0_1 : Int) (l0_2 : List Int) (a1 : Int) : laws_markChart.T.main tyt (laws_markChart.tbl k) o (a0_0, a0_1, l0_2, a1) = laws_markChart.m k a0_0 a0_1 l0_2 a1 := by kernel_rfl
theorem laws_markChart.ok : laws_markChart.T.ok = true := by kernel_rfl
theorem laws_markChart.tblok (k : Nat) : TblOk Go.Proofs.Try.prog (laws_markChart.tbl k) := TblOk.cons (laws_markIntS.sound k) (TblOk.nil _)
theorem laws_markChart.sound (k : Nat) : Sound Go.Proofs.Try.prog 19 (laws_markChart.spec k) := by
  have h := fn_ok (F := laws_markChart.T) (tbl := laws_markChart.tbl) mixed tyok Go.Proofs.Try.func19 (by kernel_rfl) (c0 := bodyOf Go.Proofs.Try.f19) rfl (conv_code _ _ _) rfl rfl laws_markChart.ok k (fun j _ => laws_markChart.tblok j)
  have e : laws_markChart.spec k = ⟨laws_markChart.T.ps, laws_markChart.T.rs, laws_markChart.T.ev tyt laws_markChart.tbl k⟩ := congrArg (FnSpec.mk _ _) (funext fun x => ((laws_markChart.e k (laws_markChart.T.run tyt laws_markChart.tbl k) x.1 x.2.1 x.2.2.1 x.2.2.2).trans (by rfl)).symm)
  rw [e]
  exact h
/-! ### laws_heldIntS: function 143 -/
def laws_heldIntS.b3 (o3 : List Int → Int → Int → Option (Int)) (k : Nat) (l0_3 : List Int) (x1_3 : Int) (x2_3 : Int) : Option (Int) := (if x2_3 < (l0_3.length : Int) then ((chk l0_3.length x2_3).bind fun i1 => (if ¬ (l0_3.getD i1 0) = x1_3 then (some (-1)) else (o3 l0_3 (w64 (x1_3 + 1)) (w64 (x2_3 + 1))))) else (some x1_3))
def laws_heldIntS.l3 : Nat → List Int → Int → Int → Option (Int)
  | 0, _, _, _ => none
  | k + 1, l0_3, x1_3, x2_3 => laws_heldIntS.b3 (laws_heldIntS.l3 k) k l0_3 x1_3 x2_3
def laws_heldIntS.m (o3 : List Int → Int → Int → Option (Int)) (k : Nat) (l0 : List Int) (a1 : Int) : Option (Int) := (o3 l0 a1 0)
def laws_heldIntS.f (k : Nat) (l0 : List Int) (a1 : Int) : Option (Int) := laws_heldIntS.m (laws_heldIntS.l3 k) k l0 a1
noncomputable def laws_heldIntS.spec (k : Nat) : FnSpec := ⟨[.d (.sl (.int .i64)) none, .d (.int .i64) none], [.d (.int .i64) none], fun x => laws_heldIntS.f k x.1 x.2⟩
def laws_heldIntS.S3 (l0_3 : List Int) (x1_3 : Int) (x2_3 : Int) : St := ⟨[(0, .val (.sl (.int .i64)) l0_3), (1, .val (.int .i64) x1_3), (5, .val (.int .i64) x2_3)], [], 1000⟩
noncomputable def laws_heldIntS.T : FnText := ⟨(conv [] (bodyOf Go.Proofs.Try.f143) 0).1, Go.Proofs.Try.f143.results.toList, 21, [(3, [(0, .rd (.sl (.int .i64))), (1, .rd (.int .i64)), (5, .rd (.int .i64))])], [.d (.sl (.int .i64)) none, .d (.int .i64) none], [.d (.int .i64) none]⟩
noncomputable def laws_heldIntS.tbl (k : Nat) : Tbl := []
theorem laws_heldIntS.e3 (k : Nat) (o : Nat → St → Option (Int)) (l0_3 : List Int) (x1_3 : Int) (x2_3 : Int) : laws_heldIntS.T.step tyt (laws_heldIntS.tbl k) o 3 (laws_heldIntS.S3 l0_3 x1_3 x2_3) = laws_heldIntS.b3 (fun l0_3 x1_3 x2_3 => o 3 (laws_heldIntS.S3 l0_3 x1_3 x2_3)) k l0_3 x1_3 x2_3 := by kernel_rfl
theorem laws_heldIntS.e (k : Nat) (o : Nat → St → Option (Int)) (l0 : List Int) (a1 : Int) : laws_heldIntS.T.main tyt (laws_heldIntS.tbl k) o (l0, a1) = laws_heldIntS.m (fun l0_3 x1_3 x2_3 => o 3 (laws_heldIntS.S3 l0_3 x1_3 x2_3)) k l0 a1 := by kernel_rfl
theorem laws_heldIntS.ok : laws_heldIntS.T.ok = true := by kernel_rfl
theorem laws_heldIntS.run (k : Nat) : (∀ (l0_3 : List Int) (x1_3 : Int) (x2_3 : Int), laws_heldIntS.T.run tyt laws_heldIntS.tbl k 3 (laws_heldIntS.S3 l0_3 x1_3 x2_3) = laws_heldIntS.l3 k l0_3 x1_3 x2_3) := by
  induction k with
  | zero => exact fun l0_3 x1_3 x2_3 => rfl
  | succ k ih =>
    exact fun l0_3 x1_3 x2_3 => by
      have q3 : (fun l0_3 x1_3 x2_3 => laws_heldIntS.T.run tyt laws_heldIntS.tbl k 3 (laws_heldIntS.S3 l0_3 x1_3 x2_3)) = laws_heldIntS.l3 k := by funext l0_3 x1_3 x2_3; exact ih l0_3 x1_3 x2_3
      exact (laws_heldIntS.e3 k (laws_heldIntS.T.run tyt laws_heldIntS.tbl k) l0_3 x1_3 x2_3).trans (by rw [q3]; rfl)
theorem laws_heldIntS.tblok (k : Nat) : TblOk Go.Proofs.Try.prog (laws_heldIntS.tbl k) := TblOk.nil _
theorem laws_heldIntS.sound (k : Nat) : Sound Go.Proofs.Try.prog 143 (laws_heldIntS.spec k) := by
  have h := fn_ok (F := laws_heldIntS.T) (tbl := laws_heldIntS.tbl) mixed tyok Go.Proofs.Try.func143 (by kernel_rfl) (c0 := bodyOf Go.Proofs.Try.f143) rfl (conv_code _ _ _) rfl rfl laws_heldIntS.ok k (fun j _ => laws_heldIntS.tblok j)
  have q3 : (fun l0_3 x1_3 x2_3 => laws_heldIntS.T.run tyt laws_heldIntS.tbl k 3 (laws_heldIntS.S3 l0_3 x1_3 x2_3)) = laws_heldIntS.l3 k := by funext l0_3 x1_3 x2_3; exact (laws_heldIntS.run k) l0_3 x1_3 x2_3
  have e : laws_heldIntS.spec k = ⟨laws_heldIntS.T.ps, laws_heldIntS.T.rs, laws_heldIntS.T.ev tyt laws_heldIntS.tbl k⟩ := congrArg (FnSpec.mk _ _) (funext fun x => ((laws_heldIntS.e k (laws_heldIntS.T.run tyt laws_heldIntS.tbl k) x.1 x.2).trans (by rw [q3]; rfl)).symm)
  rw [e]
  exact h
/-! ### laws_heldChart: function 20 -/
def laws_heldChart.m (k : Nat) (a0_0 : Int) (a0_1 : Int) (l0_2 : List Int) (a1 : Int) : Option (Int) := ((laws_heldIntS.f k l0_2 a1).bind fun r1 => (if r1 < 0 then (some (-1)) else (some r1)))
def laws_heldChart.f (k : Nat) (a0_0 : Int) (a0_1 : Int) (l0_2 : List Int) (a1 : Int) : Option (Int) := laws_heldChart.m k a0_0 a0_1 l0_2 a1
noncomputable def laws_heldChart.spec (k : Nat) : FnSpec := ⟨[.ag [.d (.int .i64) none, .d (.int .i64) none, .d (.sl (.int .i64)) none], .d (.int .i64) none], [.d (.int .i64) none], fun x => laws_heldChart.f k x.1 x.2.1 x.2.2.1 x.2.2.2⟩
noncomputable def laws_heldChart.T : FnText := ⟨(conv [] (bodyOf Go.Proofs.Try.f20) 0).1, Go.Proofs.Try.f20.results.toList, 12, [], [.ag [.d (.int .i64) none, .d (.int .i64) none, .d (.sl (.int .i64)) none], .d (.int .i64) none], [.d (.int .i64) none]⟩
noncomputable def laws_heldChart.tbl (k : Nat) : Tbl := [(143, laws_heldIntS.spec k)]
theorem laws_heldChart.e (k : Nat) (o : Nat → St → Option (Int)) (a0_0 : Int) (a0_1 : Int) (l0_2 : List Int) (a1 : Int) : laws_heldChart.T.main tyt (laws_heldChart.tbl k) o (a0_0, a0_1, l0_2, a1) = laws_heldChart.m k a0_0 a0_1 l0_2 a1 := by kernel_rfl
theorem laws_heldChart.ok : laws_heldChart.T.ok = true := by kernel_rfl
theorem laws_heldChart.tblok (k : Nat) : TblOk Go.Proofs.Try.prog (laws_heldChart.tbl k) := TblOk.cons (laws_heldIntS.sound k) (TblOk.nil _)
theorem laws_heldChart.sound (k : Nat) : Sound Go.Proofs.Try.prog 20 (laws_heldChart.spec k) := by
  have h := fn_ok (F := laws_heldChart.T) (tbl := laws_heldChart.tbl) mixed tyok Go.Proofs.Try.func20 (by kernel_rfl) (c0 := bodyOf Go.Proofs.Try.f20) rfl (conv_code _ _ _) rfl rfl laws_heldChart.ok k (fun j _ => laws_heldChart.tblok j)
  have e : laws_heldChart.spec k = ⟨laws_heldChart.T.ps, laws_heldChart.T.rs, laws_heldChart.T.ev tyt laws_heldChart.tbl k⟩ := congrArg (FnSpec.mk _ _) (funext fun x => ((laws_heldChart.e k (laws_heldChart.T.run tyt laws_heldChart.tbl k) x.1 x.2.1 x.2.2.1 x.2.2.2).trans (by rfl)).symm)
  rw [e]
  exact h
/-! ### laws_FnExactFillArea: function 3 -/
def laws_FnExactFillArea.m (k : Nat) (a0_0 : Int) (a0_1 : Int) (l0_2 : List Int) (a1 : Int) (a2 : Int) : Option (Bool) := ((laws_szChart.f k a0_0 a0_1 l0_2 1048576).bind fun r1 => (if r1 < 0 then (some true) else ((laws_toChart.f k a0_0 a0_1 l0_2).bind fun r2 => ((spec_FillArea.f k r2.1 r2.2.1 r2.2.2 a1 a2).bind fun r3 => ((laws_toChart.f k a0_0 a0_1 l0_2).bind fun r4 => ((impl_FillArea.f k r4.1 r4.2.1 r4.2.2 a1 a2).bind fun r5 => ((laws_eqChart.f k r5.1 r5.2.1 r5.2.2.1 r3.1 r3.2.1 r3.2.2.1).bind fun r6 => (cond (!r6) (some false) (if ¬ r5.2.2.2 = r3.2.2.2 then (some false) else ((laws_toChart.f k a0_0 a0_1 l0_2).bind fun r7 => ((laws_eqChart.f k r4.1 r4.2.1 r4.2.2 r7.1 r7.2.1 r7.2.2).bind fun r8 => (cond (!r8) (some false) ((laws_markChart.f k r4.1 r4.2.1 r4.2.2 1).bind fun r9 => (if r9.1 < 0 then (some false) else ((laws_eqChart.f k r5.1 r5.2.1 r5.2.2.1 r3.1 r3.2.1 r3.2.2.1).bind fun r10 => (cond (!r10) (some false) (if ¬ r5.2.2.2 = r3.2.2.2 then (some false) else ((laws_markChart.f k r5.1 r5.2.1 r5.2.2.1 1).bind fun r11 => ((laws_heldChart.f k r5.1 r5.2.1 r11.2 1).bind fun r12 => (if r12 < 0 then (some false) else (if ¬ r12 = r11.1 then (some false) else ((laws_toChart.f k a0_0 a0_1 l0_2).bind fun r13 => ((impl_FillArea.f k r13.1 r13.2.1 r13.2.2 a1 a2).bind fun r14 => ((laws_eqChart.f k r14.1 r14.2.1 r14.2.2.1 r3.1 r3.2.1 r3.2.2.1).bind fun r15 => (cond (!r15) (some false) (if ¬ r14.2.2.2 = r3.2.2.2 then (some false) else ((laws_heldChart.f k r5.1 r5.2.1 r11.2 1).bind fun r16 => (if r16 < 0 then (some false) else (if ¬ r16 = r11.1 then (some false) else (some true))))))))))))))))))))))))))))))
def laws_FnExactFillArea.f (k : Nat) (a0_0 : Int) (a0_1 : Int) (l0_2 : List Int) (a1 : Int) (a2 : Int) : Option (Bool) := laws_FnExactFillArea.m k a0_0 a0_1 l0_2 a1 a2
noncomputable def laws_FnExactFillArea.spec (k : Nat) : FnSpec := ⟨[.ag [.d (.int .i64) none, .d (.int .i64) none, .d (.sl (.int .i64)) none], .d (.int .i64) none, .d (.int .i64) none], [.d .bool none], fun x => laws_FnExactFillArea.f k x.1 x.2.1 x.2.2.1 x.2.2.2.1 x.2.2.2.2⟩
noncomputable def laws_FnExactFillArea.T : FnText := ⟨(conv [] (bodyOf Go.Proofs.Try.f3) 0).1, Go.Proofs.Try.f3.results.toList, 106, [], [.ag [.d (.int .i64) none, .d (.int .i64) none, .d (.sl (.int .i64)) none], .d (.int .i64) none, .d (.int .i64) none], [.d .bool none]⟩
noncomputable def laws_FnExactFillArea.tbl (k : Nat) : Tbl := [(14, laws_szChart.spec k), (16, laws_toChart.spec k), (15, spec_FillArea.spec k), (17, impl_FillArea.spec k), (18, laws_eqChart.spec k), (19, laws_markChart.spec k), (20, laws_heldChart.spec k)]
theorem laws_FnExactFillArea.e (k : Nat) (o : Nat → St → Option (Bool)) (a0_0 : Int) (a0_1 : Int) (l0_2 : List Int) (a1 : Int) (a2 : Int) : laws_FnExactFillArea.T.main tyt (laws_FnExactFillArea.tbl k) o (a0_0, a0_1, l0_2, a1, a2) = laws_FnExactFillArea.m k a0_0 a0_1 l0_2 a1 a2 := by kernel_rfl
theorem laws_FnExactFillArea.ok : laws_FnExactFillArea.T.ok = true := by kernel_rfl
theorem laws_FnExactFillArea.tblok (k : Nat) : TblOk Go.Proofs.Try.prog (laws_FnExactFillArea.tbl k) := TblOk.cons (laws_szChart.sound k) (TblOk.cons (laws_toChart.sound k) (TblOk.cons (spec_FillArea.sound k) (TblOk.cons (impl_FillArea.sound k) (TblOk.cons (laws_eqChart.sound k) (TblOk.cons (laws_markChart.sound k) (TblOk.cons (laws_heldChart.sound k) (TblOk.nil _)))))))
theorem laws_FnExactFillArea.sound (k : Nat) : Sound Go.Proofs.Try.prog 3 (laws_FnExactFillArea.spec k) := by
  have h := fn_ok (F := laws_FnExactFillArea.T) (tbl := laws_FnExactFillArea.tbl) mixed tyok Go.Proofs.Try.func3 (by kernel_rfl) (c0 := bodyOf Go.Proofs.Try.f3) rfl (conv_code _ _ _) rfl rfl laws_FnExactFillArea.ok k (fun j _ => laws_FnExactFillArea.tblok j)
  have e : laws_FnExactFillArea.spec k = ⟨laws_FnExactFillArea.T.ps, laws_FnExactFillArea.T.rs, laws_FnExactFillArea.T.ev tyt laws_FnExactFillArea.tbl k⟩ := congrArg (FnSpec.mk _ _) (funext fun x => ((laws_FnExactFillArea.e k (laws_FnExactFillArea.T.run tyt laws_FnExactFillArea.tbl k) x.1 x.2.1 x.2.2.1 x.2.2.2.1 x.2.2.2.2).trans (by rfl)).symm)
  rw [e]
  exact h

/-- The pure statement. -/
def Pure : Prop := ∀ (a0_0 : Int) (a0_1 : Int) (l0_2 : List Int) (a1 : Int) (a2 : Int), ((Lit.int .i64 a0_0).wf = true) → ((Lit.int .i64 a0_1).wf = true) → (l0_2.length * 8 ≤ 140737488351232) → (∀ y0 ∈ l0_2, (Lit.int .i64 y0).wf = true) → ((Lit.int .i64 a1).wf = true) → ((Lit.int .i64 a2).wf = true) → ∃ k, laws_FnExactFillArea.f k a0_0 a0_1 l0_2 a1 a2 = some true
end Go.Proofs.Ytijmljaemalgmaa.DFnExactFillArea
