-- Printed by this session's own program (wip/deep/drow.py); Lean checks it.
import Derived.Test.YtiacidpjplmgaaaDoorHd
import Derived.Test.YtiacidpjplmgaaaDoorProg
set_option linter.unusedVariables false
set_option maxRecDepth 100000
namespace Go.Proofs.YtiacidpjplmgaaaDoor.DFnExactFormatConsole
open Go Go.Proofs.YtiacidpjplmgaaaDoorD
def tyt3 : TI := ⟨.int .i64, 1, 8, (.int .i64)⟩
def tyt4 : TI := ⟨.bool, 1, 1, .bool⟩
def tyt5 : TI := ⟨.int .u8, 1, 1, (.int .u8)⟩
def tyt9 : TI := ⟨.string, 1, 16, .str⟩
def tyt22 : TI := ⟨.slice 81, 1, 24, (.sl (.pair (.int .i64) (.pair (.int .i64) (.pair (.int .i64) (.pair (.int .i64) (.int .i64))))))⟩
def tyt24 : TI := ⟨.struct #[⟨ "Day", 3, 0, false, "", "", 0⟩, ⟨ "Looms", 3, 1, false, "", "", 8⟩, ⟨ "Carpets", 22, 2, false, "", "", 16⟩, ⟨ "Money", 3, 3, false, "", "", 40⟩], 4, 48, (.pair (.int .i64) (.pair (.int .i64) (.pair (.sl (.pair (.int .i64) (.pair (.int .i64) (.pair (.int .i64) (.pair (.int .i64) (.int .i64)))))) (.int .i64))))⟩
def tyt26 : TI := ⟨.struct #[⟨ "Durable", 9, 0, false, "", "", 0⟩, ⟨ "Pending", 9, 1, false, "", "", 16⟩, ⟨ "Count", 3, 2, false, "", "", 32⟩], 3, 40, (.pair .str (.pair .str (.int .i64)))⟩
def tyt28 : TI := ⟨.struct #[⟨ "Shop", 24, 0, false, "", "", 0⟩, ⟨ "Log", 26, 4, false, "", "", 48⟩], 7, 88, (.pair (.int .i64) (.pair (.int .i64) (.pair (.sl (.pair (.int .i64) (.pair (.int .i64) (.pair (.int .i64) (.pair (.int .i64) (.int .i64)))))) (.pair (.int .i64) (.pair .str (.pair .str (.int .i64)))))))⟩
def tyt31 : TI := ⟨.slice 53, 1, 24, (.sl (.pair (.int .i64) (.pair (.int .i64) (.pair (.int .i64) (.pair (.int .i64) (.int .i64))))))⟩
def tyt33 : TI := ⟨.struct #[⟨ "Day", 3, 0, false, "", "", 0⟩, ⟨ "Looms", 3, 1, false, "", "", 8⟩, ⟨ "Carpets", 31, 2, false, "", "", 16⟩, ⟨ "Money", 3, 3, false, "", "", 40⟩], 4, 48, (.pair (.int .i64) (.pair (.int .i64) (.pair (.sl (.pair (.int .i64) (.pair (.int .i64) (.pair (.int .i64) (.pair (.int .i64) (.int .i64)))))) (.int .i64))))⟩
def tyt34 : TI := ⟨.struct #[⟨ "Durable", 9, 0, false, "", "", 0⟩, ⟨ "Pending", 9, 1, false, "", "", 16⟩, ⟨ "Count", 3, 2, false, "", "", 32⟩], 3, 40, (.pair .str (.pair .str (.int .i64)))⟩
def tyt36 : TI := ⟨.struct #[⟨ "Shop", 33, 0, false, "", "", 0⟩, ⟨ "Log", 34, 4, false, "", "", 48⟩], 7, 88, (.pair (.int .i64) (.pair (.int .i64) (.pair (.sl (.pair (.int .i64) (.pair (.int .i64) (.pair (.int .i64) (.pair (.int .i64) (.int .i64)))))) (.pair (.int .i64) (.pair .str (.pair .str (.int .i64)))))))⟩
def tyt53 : TI := ⟨.struct #[⟨ "Rows", 3, 0, false, "", "", 0⟩, ⟨ "Made", 3, 1, false, "", "", 8⟩, ⟨ "State", 3, 2, false, "", "", 16⟩, ⟨ "Loom", 3, 3, false, "", "", 24⟩, ⟨ "Since", 3, 4, false, "", "", 32⟩], 5, 40, (.pair (.int .i64) (.pair (.int .i64) (.pair (.int .i64) (.pair (.int .i64) (.int .i64)))))⟩
def tyt55 : TI := ⟨.slice 5, 1, 24, (.sl (.int .u8))⟩
def tyt70 : TI := ⟨.slice 91, 1, 24, (.sl (.pair .str .str))⟩
def tyt74 : TI := ⟨.slice 9, 1, 24, (.sl .str)⟩
def tyt75 : TI := ⟨.array 5 9, 5, 80, (.pair .str (.pair .str (.pair .str (.pair .str .str))))⟩
def tyt81 : TI := ⟨.struct #[⟨ "Rows", 3, 0, false, "", "", 0⟩, ⟨ "Made", 3, 1, false, "", "", 8⟩, ⟨ "State", 3, 2, false, "", "", 16⟩, ⟨ "Loom", 3, 3, false, "", "", 24⟩, ⟨ "Since", 3, 4, false, "", "", 32⟩], 5, 40, (.pair (.int .i64) (.pair (.int .i64) (.pair (.int .i64) (.pair (.int .i64) (.int .i64)))))⟩
def tyt83 : TI := ⟨.slice 3, 1, 24, (.sl (.int .i64))⟩
def tyt91 : TI := ⟨.struct #[⟨ "Command", 9, 0, false, "", "", 0⟩, ⟨ "Reply", 9, 1, false, "", "", 16⟩], 2, 32, (.pair .str .str)⟩
def tyt127 : TI := ⟨.func #[5] #[4] false, 1, 8, .fn⟩
def tyt : TT := [(3, tyt3), (4, tyt4), (5, tyt5), (9, tyt9), (22, tyt22), (24, tyt24), (26, tyt26), (28, tyt28), (31, tyt31), (33, tyt33), (34, tyt34), (36, tyt36), (53, tyt53), (55, tyt55), (70, tyt70), (74, tyt74), (75, tyt75), (81, tyt81), (83, tyt83), (91, tyt91), (127, tyt127)]
theorem mixed : Go.Proofs.Tryd.prog.follows .mixedOrders = true := by kernel_rfl
theorem tok3 : TOk1 Go.Proofs.Tryd.prog 3 (tyt3) := TOk1.of (by kernel_rfl) (by kernel_rfl) (by kernel_rfl) (by kernel_rfl) (by kernel_rfl) (by kernel_rfl) (by kernel_rfl) (fun h => nomatch (show false = true from h)) (fun h => nomatch (show false = true from h))
theorem tok4 : TOk1 Go.Proofs.Tryd.prog 4 (tyt4) := TOk1.of (by kernel_rfl) (by kernel_rfl) (by kernel_rfl) (by kernel_rfl) (by kernel_rfl) (by kernel_rfl) (by kernel_rfl) (fun h => nomatch (show false = true from h)) (fun h => nomatch (show false = true from h))
theorem tok5 : TOk1 Go.Proofs.Tryd.prog 5 (tyt5) := TOk1.of (by kernel_rfl) (by kernel_rfl) (by kernel_rfl) (by kernel_rfl) (by kernel_rfl) (by kernel_rfl) (by kernel_rfl) (fun h => nomatch (show false = true from h)) (fun h => nomatch (show false = true from h))
theorem tok9 : TOk1 Go.Proofs.Tryd.prog 9 (tyt9) := TOk1.of (by kernel_rfl) (by kernel_rfl) (by kernel_rfl) (by kernel_rfl) (by kernel_rfl) (by kernel_rfl) (by kernel_rfl) (fun h => nomatch (show false = true from h)) (fun h => nomatch (show false = true from h))
theorem tok22 : TOk1 Go.Proofs.Tryd.prog 22 (tyt22) := TOk1.of (by kernel_rfl) (by kernel_rfl) (by kernel_rfl) (by kernel_rfl) (by kernel_rfl) (by kernel_rfl) (by kernel_rfl) (fun h => nomatch (show false = true from h)) (fun h => nomatch (show false = true from h))
theorem tok24 : TOk1 Go.Proofs.Tryd.prog 24 (tyt24) := TOk1.of (by kernel_rfl) (by kernel_rfl) (by kernel_rfl) (by kernel_rfl) (by kernel_rfl) (by kernel_rfl) (by kernel_rfl) (fun _ => by kernel_rfl) (fun h => nomatch (show false = true from h))
theorem tok26 : TOk1 Go.Proofs.Tryd.prog 26 (tyt26) := TOk1.of (by kernel_rfl) (by kernel_rfl) (by kernel_rfl) (by kernel_rfl) (by kernel_rfl) (by kernel_rfl) (by kernel_rfl) (fun _ => by kernel_rfl) (fun _ => ⟨by kernel_rfl, by kernel_rfl, by kernel_rfl⟩)
theorem tok28 : TOk1 Go.Proofs.Tryd.prog 28 (tyt28) := TOk1.of (by kernel_rfl) (by kernel_rfl) (by kernel_rfl) (by kernel_rfl) (by kernel_rfl) (by kernel_rfl) (by kernel_rfl) (fun _ => by kernel_rfl) (fun h => nomatch (show false = true from h))
theorem tok31 : TOk1 Go.Proofs.Tryd.prog 31 (tyt31) := TOk1.of (by kernel_rfl) (by kernel_rfl) (by kernel_rfl) (by kernel_rfl) (by kernel_rfl) (by kernel_rfl) (by kernel_rfl) (fun h => nomatch (show false = true from h)) (fun h => nomatch (show false = true from h))
theorem tok33 : TOk1 Go.Proofs.Tryd.prog 33 (tyt33) := TOk1.of (by kernel_rfl) (by kernel_rfl) (by kernel_rfl) (by kernel_rfl) (by kernel_rfl) (by kernel_rfl) (by kernel_rfl) (fun _ => by kernel_rfl) (fun h => nomatch (show false = true from h))
theorem tok34 : TOk1 Go.Proofs.Tryd.prog 34 (tyt34) := TOk1.of (by kernel_rfl) (by kernel_rfl) (by kernel_rfl) (by kernel_rfl) (by kernel_rfl) (by kernel_rfl) (by kernel_rfl) (fun _ => by kernel_rfl) (fun _ => ⟨by kernel_rfl, by kernel_rfl, by kernel_rfl⟩)
theorem tok36 : TOk1 Go.Proofs.Tryd.prog 36 (tyt36) := TOk1.of (by kernel_rfl) (by kernel_rfl) (by kernel_rfl) (by kernel_rfl) (by kernel_rfl) (by kernel_rfl) (by kernel_rfl) (fun _ => by kernel_rfl) (fun h => nomatch (show false = true from h))
theorem tok53 : TOk1 Go.Proofs.Tryd.prog 53 (tyt53) := TOk1.of (by kernel_rfl) (by kernel_rfl) (by kernel_rfl) (by kernel_rfl) (by kernel_rfl) (by kernel_rfl) (by kernel_rfl) (fun _ => by kernel_rfl) (fun _ => ⟨by kernel_rfl, by kernel_rfl, by kernel_rfl⟩)
theorem tok55 : TOk1 Go.Proofs.Tryd.prog 55 (tyt55) := TOk1.of (by kernel_rfl) (by kernel_rfl) (by kernel_rfl) (by kernel_rfl) (by kernel_rfl) (by kernel_rfl) (by kernel_rfl) (fun h => nomatch (show false = true from h)) (fun h => nomatch (show false = true from h))
theorem tok70 : TOk1 Go.Proofs.Tryd.prog 70 (tyt70) := TOk1.of (by kernel_rfl) (by kernel_rfl) (by kernel_rfl) (by kernel_rfl) (by kernel_rfl) (by kernel_rfl) (by kernel_rfl) (fun h => nomatch (show false = true from h)) (fun h => nomatch (show false = true from h))
theorem tok74 : TOk1 Go.Proofs.Tryd.prog 74 (tyt74) := TOk1.of (by kernel_rfl) (by kernel_rfl) (by kernel_rfl) (by kernel_rfl) (by kernel_rfl) (by kernel_rfl) (by kernel_rfl) (fun h => nomatch (show false = true from h)) (fun h => nomatch (show false = true from h))
theorem tok75 : TOk1 Go.Proofs.Tryd.prog 75 (tyt75) := TOk1.of (by kernel_rfl) (by kernel_rfl) (by kernel_rfl) (by kernel_rfl) (by kernel_rfl) (by kernel_rfl) (by kernel_rfl) (fun _ => by kernel_rfl) (fun _ => ⟨by kernel_rfl, by kernel_rfl, by kernel_rfl⟩)
theorem tok81 : TOk1 Go.Proofs.Tryd.prog 81 (tyt81) := TOk1.of (by kernel_rfl) (by kernel_rfl) (by kernel_rfl) (by kernel_rfl) (by kernel_rfl) (by kernel_rfl) (by kernel_rfl) (fun _ => by kernel_rfl) (fun _ => ⟨by kernel_rfl, by kernel_rfl, by kernel_rfl⟩)
theorem tok83 : TOk1 Go.Proofs.Tryd.prog 83 (tyt83) := TOk1.of (by kernel_rfl) (by kernel_rfl) (by kernel_rfl) (by kernel_rfl) (by kernel_rfl) (by kernel_rfl) (by kernel_rfl) (fun h => nomatch (show false = true from h)) (fun h => nomatch (show false = true from h))
theorem tok91 : TOk1 Go.Proofs.Tryd.prog 91 (tyt91) := TOk1.of (by kernel_rfl) (by kernel_rfl) (by kernel_rfl) (by kernel_rfl) (by kernel_rfl) (by kernel_rfl) (by kernel_rfl) (fun _ => by kernel_rfl) (fun _ => ⟨by kernel_rfl, by kernel_rfl, by kernel_rfl⟩)
theorem tok127 : TOk1 Go.Proofs.Tryd.prog 127 (tyt127) := TOk1.of (by kernel_rfl) (by kernel_rfl) (by kernel_rfl) (by kernel_rfl) (by kernel_rfl) (by kernel_rfl) (by kernel_rfl) (fun h => nomatch (show false = true from h)) (fun h => nomatch (show false = true from h))
theorem tyok : TOk Go.Proofs.Tryd.prog tyt := TOk.cons tok3 (TOk.cons tok4 (TOk.cons tok5 (TOk.cons tok9 (TOk.cons tok22 (TOk.cons tok24 (TOk.cons tok26 (TOk.cons tok28 (TOk.cons tok31 (TOk.cons tok33 (TOk.cons tok34 (TOk.cons tok36 (TOk.cons tok53 (TOk.cons tok55 (TOk.cons tok70 (TOk.cons tok74 (TOk.cons tok75 (TOk.cons tok81 (TOk.cons tok83 (TOk.cons tok91 (TOk.cons tok127 (TOk.nil _)))))))))))))))))))))
namespace laws_szCarpetS
/-! ### laws_szCarpetS: function 27 -/
def m (k : Nat) (l0 : List (Int × Int × Int × Int × Int)) (a1 : Int) : Option (Int) := (if (w64 (a1 - (l0.length : Int))) < 0 then (some (-1)) else (some (w64 (a1 - (l0.length : Int)))))
def f (k : Nat) (l0 : List (Int × Int × Int × Int × Int)) (a1 : Int) : Option (Int) := m k l0 a1
noncomputable def spec (k : Nat) : FnSpec := ⟨[.d (.sl (.pair (.int .i64) (.pair (.int .i64) (.pair (.int .i64) (.pair (.int .i64) (.int .i64)))))) none, .d (.int .i64) none], [.d (.int .i64) none], fun x => f k x.1 x.2⟩
noncomputable def T : FnText := ⟨(conv [] (bodyOf Tryd.f27) 0).1, Tryd.f27.results.toList, 12, [], [.d (.sl (.pair (.int .i64) (.pair (.int .i64) (.pair (.int .i64) (.pair (.int .i64) (.int .i64)))))) none, .d (.int .i64) none], [.d (.int .i64) none]⟩
noncomputable def tbl (k : Nat) : Tbl := []
theorem e (k : Nat) (o : Nat → St → Option (Int)) (l0 : List (Int × Int × Int × Int × Int)) (a1 : Int) : T.main tyt (tbl k) o (l0, a1) = m k l0 a1 := by kernel_rfl
theorem ok : T.ok = true := by kernel_rfl
theorem tblok (k : Nat) : TblOk Tryd.prog (tbl k) := TblOk.nil _
theorem sound (k : Nat) : Sound Tryd.prog 27 (spec k) := by
  have h := fn_ok (F := T) (tbl := tbl) mixed tyok Tryd.func27 (by kernel_rfl) (c0 := bodyOf Tryd.f27) rfl (conv_code _ _ _) rfl rfl ok k (fun j _ => tblok j)
  have e : spec k = ⟨T.ps, T.rs, T.ev tyt tbl k⟩ := congrArg (FnSpec.mk _ _) (funext fun x => ((e k (T.run tyt tbl k) x.1 x.2).trans (by rfl)).symm)
  rw [e]
  exact h
end laws_szCarpetS

namespace laws_szShop
/-! ### laws_szShop: function 12 -/
def m (k : Nat) (a0_0 a0_1 : Int) (l0_2 : List (Int × Int × Int × Int × Int)) (a0_3 a1 : Int) : Option (Int) := ((laws_szCarpetS.f k l0_2 a1).bind fun r1 => (if r1 < 0 then (some (-1)) else (some r1)))
def f (k : Nat) (a0_0 a0_1 : Int) (l0_2 : List (Int × Int × Int × Int × Int)) (a0_3 a1 : Int) : Option (Int) := m k a0_0 a0_1 l0_2 a0_3 a1
noncomputable def spec (k : Nat) : FnSpec := ⟨[.ag [.d (.int .i64) none, .d (.int .i64) none, .d (.sl (.pair (.int .i64) (.pair (.int .i64) (.pair (.int .i64) (.pair (.int .i64) (.int .i64)))))) none, .d (.int .i64) none], .d (.int .i64) none], [.d (.int .i64) none], fun x => f k x.1 x.2.1 x.2.2.1 x.2.2.2.1 x.2.2.2.2⟩
noncomputable def T : FnText := ⟨(conv [] (bodyOf Tryd.f12) 0).1, Tryd.f12.results.toList, 12, [], [.ag [.d (.int .i64) none, .d (.int .i64) none, .d (.sl (.pair (.int .i64) (.pair (.int .i64) (.pair (.int .i64) (.pair (.int .i64) (.int .i64)))))) none, .d (.int .i64) none], .d (.int .i64) none], [.d (.int .i64) none]⟩
noncomputable def tbl (k : Nat) : Tbl := [(27, laws_szCarpetS.spec k)]
theorem e (k : Nat) (o : Nat → St → Option (Int)) (a0_0 a0_1 : Int) (l0_2 : List (Int × Int × Int × Int × Int)) (a0_3 a1 : Int) : T.main tyt (tbl k) o (a0_0, a0_1, l0_2, a0_3, a1) = m k a0_0 a0_1 l0_2 a0_3 a1 := by kernel_rfl
theorem ok : T.ok = true := by kernel_rfl
theorem tblok (k : Nat) : TblOk Tryd.prog (tbl k) := TblOk.cons (laws_szCarpetS.sound k) (TblOk.nil _)
theorem sound (k : Nat) : Sound Tryd.prog 12 (spec k) := by
  have h := fn_ok (F := T) (tbl := tbl) mixed tyok Tryd.func12 (by kernel_rfl) (c0 := bodyOf Tryd.f12) rfl (conv_code _ _ _) rfl rfl ok k (fun j _ => tblok j)
  have e : spec k = ⟨T.ps, T.rs, T.ev tyt tbl k⟩ := congrArg (FnSpec.mk _ _) (funext fun x => ((e k (T.run tyt tbl k) x.1 x.2.1 x.2.2.1 x.2.2.2.1 x.2.2.2.2).trans (by rfl)).symm)
  rw [e]
  exact h
end laws_szShop

namespace laws_szLog
/-! ### laws_szLog: function 13 -/
def m (k : Nat) (a0_0 a0_1 : ByteArray) (a0_2 a1 : Int) : Option (Int) := (if (w64 (a1 - (a0_0.size : Int))) < 0 then (some (-1)) else (if (w64 ((w64 (a1 - (a0_0.size : Int))) - (a0_1.size : Int))) < 0 then (some (-1)) else (some (w64 ((w64 (a1 - (a0_0.size : Int))) - (a0_1.size : Int))))))
def f (k : Nat) (a0_0 a0_1 : ByteArray) (a0_2 a1 : Int) : Option (Int) := m k a0_0 a0_1 a0_2 a1
noncomputable def spec (k : Nat) : FnSpec := ⟨[.ag [.d .str none, .d .str none, .d (.int .i64) none], .d (.int .i64) none], [.d (.int .i64) none], fun x => f k x.1 x.2.1 x.2.2.1 x.2.2.2⟩
noncomputable def T : FnText := ⟨(conv [] (bodyOf Tryd.f13) 0).1, Tryd.f13.results.toList, 20, [], [.ag [.d .str none, .d .str none, .d (.int .i64) none], .d (.int .i64) none], [.d (.int .i64) none]⟩
noncomputable def tbl (k : Nat) : Tbl := []
theorem e (k : Nat) (o : Nat → St → Option (Int)) (a0_0 a0_1 : ByteArray) (a0_2 a1 : Int) : T.main tyt (tbl k) o (a0_0, a0_1, a0_2, a1) = m k a0_0 a0_1 a0_2 a1 := by kernel_rfl
theorem ok : T.ok = true := by kernel_rfl
theorem tblok (k : Nat) : TblOk Tryd.prog (tbl k) := TblOk.nil _
theorem sound (k : Nat) : Sound Tryd.prog 13 (spec k) := by
  have h := fn_ok (F := T) (tbl := tbl) mixed tyok Tryd.func13 (by kernel_rfl) (c0 := bodyOf Tryd.f13) rfl (conv_code _ _ _) rfl rfl ok k (fun j _ => tblok j)
  have e : spec k = ⟨T.ps, T.rs, T.ev tyt tbl k⟩ := congrArg (FnSpec.mk _ _) (funext fun x => ((e k (T.run tyt tbl k) x.1 x.2.1 x.2.2.1 x.2.2.2).trans (by rfl)).symm)
  rw [e]
  exact h
end laws_szLog

namespace laws_szConsole
/-! ### laws_szConsole: function 5 -/
def m (k : Nat) (a0_0 a0_1 : Int) (l0_2 : List (Int × Int × Int × Int × Int)) (a0_3 : Int) (a0_4 a0_5 : ByteArray) (a0_6 a1 : Int) : Option (Int) := ((laws_szShop.f k a0_0 a0_1 l0_2 a0_3 a1).bind fun r1 => (if r1 < 0 then (some (-1)) else ((laws_szLog.f k a0_4 a0_5 a0_6 r1).bind fun r2 => (if r2 < 0 then (some (-1)) else (some r2)))))
def f (k : Nat) (a0_0 a0_1 : Int) (l0_2 : List (Int × Int × Int × Int × Int)) (a0_3 : Int) (a0_4 a0_5 : ByteArray) (a0_6 a1 : Int) : Option (Int) := m k a0_0 a0_1 l0_2 a0_3 a0_4 a0_5 a0_6 a1
noncomputable def spec (k : Nat) : FnSpec := ⟨[.ag [.d (.int .i64) none, .d (.int .i64) none, .d (.sl (.pair (.int .i64) (.pair (.int .i64) (.pair (.int .i64) (.pair (.int .i64) (.int .i64)))))) none, .d (.int .i64) none, .d .str none, .d .str none, .d (.int .i64) none], .d (.int .i64) none], [.d (.int .i64) none], fun x => f k x.1 x.2.1 x.2.2.1 x.2.2.2.1 x.2.2.2.2.1 x.2.2.2.2.2.1 x.2.2.2.2.2.2.1 x.2.2.2.2.2.2.2⟩
noncomputable def T : FnText := ⟨(conv [] (bodyOf Tryd.f5) 0).1, Tryd.f5.results.toList, 18, [], [.ag [.d (.int .i64) none, .d (.int .i64) none, .d (.sl (.pair (.int .i64) (.pair (.int .i64) (.pair (.int .i64) (.pair (.int .i64) (.int .i64)))))) none, .d (.int .i64) none, .d .str none, .d .str none, .d (.int .i64) none], .d (.int .i64) none], [.d (.int .i64) none]⟩
noncomputable def tbl (k : Nat) : Tbl := [(12, laws_szShop.spec k), (13, laws_szLog.spec k)]
theorem e (k : Nat) (o : Nat → St → Option (Int)) (a0_0 a0_1 : Int) (l0_2 : List (Int × Int × Int × Int × Int)) (a0_3 : Int) (a0_4 a0_5 : ByteArray) (a0_6 a1 : Int) : T.main tyt (tbl k) o (a0_0, a0_1, l0_2, a0_3, a0_4, a0_5, a0_6, a1) = m k a0_0 a0_1 l0_2 a0_3 a0_4 a0_5 a0_6 a1 := by kernel_rfl
theorem ok : T.ok = true := by kernel_rfl
theorem tblok (k : Nat) : TblOk Tryd.prog (tbl k) := TblOk.cons (laws_szShop.sound k) (TblOk.cons (laws_szLog.sound k) (TblOk.nil _))
theorem sound (k : Nat) : Sound Tryd.prog 5 (spec k) := by
  have h := fn_ok (F := T) (tbl := tbl) mixed tyok Tryd.func5 (by kernel_rfl) (c0 := bodyOf Tryd.f5) rfl (conv_code _ _ _) rfl rfl ok k (fun j _ => tblok j)
  have e : spec k = ⟨T.ps, T.rs, T.ev tyt tbl k⟩ := congrArg (FnSpec.mk _ _) (funext fun x => ((e k (T.run tyt tbl k) x.1 x.2.1 x.2.2.1 x.2.2.2.1 x.2.2.2.2.1 x.2.2.2.2.2.1 x.2.2.2.2.2.2.1 x.2.2.2.2.2.2.2).trans (by rfl)).symm)
  rw [e]
  exact h
end laws_szConsole

namespace laws_toCarpet
/-! ### laws_toCarpet: function 43 -/
def m (k : Nat) (a0_0 a0_1 a0_2 a0_3 a0_4 : Int) : Option (Int × Int × Int × Int × Int) := (some (a0_0, a0_1, a0_2, a0_3, a0_4))
def f (k : Nat) (a0_0 a0_1 a0_2 a0_3 a0_4 : Int) : Option (Int × Int × Int × Int × Int) := m k a0_0 a0_1 a0_2 a0_3 a0_4
noncomputable def spec (k : Nat) : FnSpec := ⟨[.ag [.d (.int .i64) none, .d (.int .i64) none, .d (.int .i64) none, .d (.int .i64) none, .d (.int .i64) none]], [.ag [.d (.int .i64) none, .d (.int .i64) none, .d (.int .i64) none, .d (.int .i64) none, .d (.int .i64) none]], fun x => f k x.1 x.2.1 x.2.2.1 x.2.2.2.1 x.2.2.2.2⟩
noncomputable def T : FnText := ⟨(conv [] (bodyOf Tryd.f43) 0).1, Tryd.f43.results.toList, 20, [], [.ag [.d (.int .i64) none, .d (.int .i64) none, .d (.int .i64) none, .d (.int .i64) none, .d (.int .i64) none]], [.ag [.d (.int .i64) none, .d (.int .i64) none, .d (.int .i64) none, .d (.int .i64) none, .d (.int .i64) none]]⟩
noncomputable def tbl (k : Nat) : Tbl := []
theorem e (k : Nat) (o : Nat → St → Option (Int × Int × Int × Int × Int)) (a0_0 a0_1 a0_2 a0_3 a0_4 : Int) : T.main tyt (tbl k) o (a0_0, a0_1, a0_2, a0_3, a0_4) = m k a0_0 a0_1 a0_2 a0_3 a0_4 := by kernel_rfl
theorem ok : T.ok = true := by kernel_rfl
theorem tblok (k : Nat) : TblOk Tryd.prog (tbl k) := TblOk.nil _
theorem sound (k : Nat) : Sound Tryd.prog 43 (spec k) := by
  have h := fn_ok (F := T) (tbl := tbl) mixed tyok Tryd.func43 (by kernel_rfl) (c0 := bodyOf Tryd.f43) rfl (conv_code _ _ _) rfl rfl ok k (fun j _ => tblok j)
  have e : spec k = ⟨T.ps, T.rs, T.ev tyt tbl k⟩ := congrArg (FnSpec.mk _ _) (funext fun x => ((e k (T.run tyt tbl k) x.1 x.2.1 x.2.2.1 x.2.2.2.1 x.2.2.2.2).trans (by rfl)).symm)
  rw [e]
  exact h
end laws_toCarpet

namespace laws_toCarpetS
/-! ### laws_toCarpetS: function 30 -/
def b4 (o4 : (List (Int × Int × Int × Int × Int)) → (List (Int × Int × Int × Int × Int)) → Int → Option (List (Int × Int × Int × Int × Int))) (k : Nat) (l0_4 l1_4 : List (Int × Int × Int × Int × Int)) (x2_4 : Int) : Option (List (Int × Int × Int × Int × Int)) := (if x2_4 < (l0_4.length : Int) then ((chk l0_4.length x2_4).bind fun i2 => ((laws_toCarpet.f k ((l0_4.getD i2 (0, 0, 0, 0, 0)).1) (((l0_4.getD i2 (0, 0, 0, 0, 0)).2).1) ((((l0_4.getD i2 (0, 0, 0, 0, 0)).2).2).1) (((((l0_4.getD i2 (0, 0, 0, 0, 0)).2).2).2).1) (((((l0_4.getD i2 (0, 0, 0, 0, 0)).2).2).2).2)).bind fun r3 => ((chk l1_4.length x2_4).bind fun i4 => (o4 l0_4 (upd l1_4 i4 (0, 0, 0, 0, 0) fun e5 => (r3.1, r3.2.1, r3.2.2.1, r3.2.2.2.1, r3.2.2.2.2)) (w64 (x2_4 + 1)))))) else (some l1_4))
def l4 : Nat → (List (Int × Int × Int × Int × Int)) → (List (Int × Int × Int × Int × Int)) → Int → Option (List (Int × Int × Int × Int × Int))
  | 0, _, _, _ => none
  | k + 1, l0_4, l1_4, x2_4 => b4 (laws_toCarpetS.l4 k) k l0_4 l1_4 x2_4
def m (o4 : (List (Int × Int × Int × Int × Int)) → (List (Int × Int × Int × Int × Int)) → Int → Option (List (Int × Int × Int × Int × Int))) (k : Nat) (l0 : List (Int × Int × Int × Int × Int)) : Option (List (Int × Int × Int × Int × Int)) := ((mkl 3518437208883 (l0.length : Int) (l0.length : Int)).bind fun n1 => (o4 l0 (List.replicate n1 ((0, 0, 0, 0, 0) : Int × Int × Int × Int × Int)) 0))
def f (k : Nat) (l0 : List (Int × Int × Int × Int × Int)) : Option (List (Int × Int × Int × Int × Int)) := m (laws_toCarpetS.l4 k) k l0
noncomputable def spec (k : Nat) : FnSpec := ⟨[.d (.sl (.pair (.int .i64) (.pair (.int .i64) (.pair (.int .i64) (.pair (.int .i64) (.int .i64)))))) none], [.d (.sl (.pair (.int .i64) (.pair (.int .i64) (.pair (.int .i64) (.pair (.int .i64) (.int .i64)))))) (some 53)], fun x => f k x⟩
def S4 (l0_4 l1_4 : List (Int × Int × Int × Int × Int)) (x2_4 : Int) : St := ⟨[(0, .val (.sl (.pair (.int .i64) (.pair (.int .i64) (.pair (.int .i64) (.pair (.int .i64) (.int .i64)))))) l0_4), (3, .ref 100), (4, .val (.int .i64) x2_4)], [(100, some (.row 53 (.pair (.int .i64) (.pair (.int .i64) (.pair (.int .i64) (.pair (.int .i64) (.int .i64))))) l1_4))], 1000⟩
noncomputable def T : FnText := ⟨(conv [] (bodyOf Tryd.f30) 0).1, Tryd.f30.results.toList, 23, [(4, [(0, .rd (.sl (.pair (.int .i64) (.pair (.int .i64) (.pair (.int .i64) (.pair (.int .i64) (.int .i64))))))), (3, .own 53 (.pair (.int .i64) (.pair (.int .i64) (.pair (.int .i64) (.pair (.int .i64) (.int .i64))))) 100), (4, .rd (.int .i64))])], [.d (.sl (.pair (.int .i64) (.pair (.int .i64) (.pair (.int .i64) (.pair (.int .i64) (.int .i64)))))) none], [.d (.sl (.pair (.int .i64) (.pair (.int .i64) (.pair (.int .i64) (.pair (.int .i64) (.int .i64)))))) (some 53)]⟩
noncomputable def tbl (k : Nat) : Tbl := [(43, laws_toCarpet.spec k)]
theorem e4 (k : Nat) (o : Nat → St → Option (List (Int × Int × Int × Int × Int))) (l0_4 l1_4 : List (Int × Int × Int × Int × Int)) (x2_4 : Int) : T.step tyt (tbl k) o 4 (S4 l0_4 l1_4 x2_4) = b4 (fun l0_4 l1_4 x2_4 => o 4 (S4 l0_4 l1_4 x2_4)) k l0_4 l1_4 x2_4 := by kernel_rfl
theorem e (k : Nat) (o : Nat → St → Option (List (Int × Int × Int × Int × Int))) (l0 : List (Int × Int × Int × Int × Int)) : T.main tyt (tbl k) o l0 = m (fun l0_4 l1_4 x2_4 => o 4 (S4 l0_4 l1_4 x2_4)) k l0 := by kernel_rfl
theorem ok : T.ok = true := by kernel_rfl
theorem run (k : Nat) : (∀ (l0_4 l1_4 : List (Int × Int × Int × Int × Int)) (x2_4 : Int), T.run tyt tbl k 4 (S4 l0_4 l1_4 x2_4) = laws_toCarpetS.l4 k l0_4 l1_4 x2_4) := by
  induction k with
  | zero => exact fun l0_4 l1_4 x2_4 => rfl
  | succ k ih =>
    exact fun l0_4 l1_4 x2_4 => by
      have q4 : (fun l0_4 l1_4 x2_4 => T.run tyt tbl k 4 (S4 l0_4 l1_4 x2_4)) = laws_toCarpetS.l4 k := by funext l0_4 l1_4 x2_4; exact ih l0_4 l1_4 x2_4
      exact (e4 k (T.run tyt tbl k) l0_4 l1_4 x2_4).trans (by rw [q4]; rfl)
theorem tblok (k : Nat) : TblOk Tryd.prog (tbl k) := TblOk.cons (laws_toCarpet.sound k) (TblOk.nil _)
theorem sound (k : Nat) : Sound Tryd.prog 30 (spec k) := by
  have h := fn_ok (F := T) (tbl := tbl) mixed tyok Tryd.func30 (by kernel_rfl) (c0 := bodyOf Tryd.f30) rfl (conv_code _ _ _) rfl rfl ok k (fun j _ => tblok j)
  have q4 : (fun l0_4 l1_4 x2_4 => T.run tyt tbl k 4 (S4 l0_4 l1_4 x2_4)) = laws_toCarpetS.l4 k := by funext l0_4 l1_4 x2_4; exact (run k) l0_4 l1_4 x2_4
  have e : spec k = ⟨T.ps, T.rs, T.ev tyt tbl k⟩ := congrArg (FnSpec.mk _ _) (funext fun x => ((e k (T.run tyt tbl k) x).trans (by rw [q4]; rfl)).symm)
  rw [e]
  exact h
end laws_toCarpetS

namespace laws_toShop
/-! ### laws_toShop: function 15 -/
def m (k : Nat) (a0_0 a0_1 : Int) (l0_2 : List (Int × Int × Int × Int × Int)) (a0_3 : Int) : Option (Int × Int × List (Int × Int × Int × Int × Int) × Int) := ((laws_toCarpetS.f k l0_2).bind fun r1 => (some (a0_0, a0_1, r1, a0_3)))
def f (k : Nat) (a0_0 a0_1 : Int) (l0_2 : List (Int × Int × Int × Int × Int)) (a0_3 : Int) : Option (Int × Int × List (Int × Int × Int × Int × Int) × Int) := m k a0_0 a0_1 l0_2 a0_3
noncomputable def spec (k : Nat) : FnSpec := ⟨[.ag [.d (.int .i64) none, .d (.int .i64) none, .d (.sl (.pair (.int .i64) (.pair (.int .i64) (.pair (.int .i64) (.pair (.int .i64) (.int .i64)))))) none, .d (.int .i64) none]], [.ag [.d (.int .i64) none, .d (.int .i64) none, .d (.sl (.pair (.int .i64) (.pair (.int .i64) (.pair (.int .i64) (.pair (.int .i64) (.int .i64)))))) (some 53), .d (.int .i64) none]], fun x => f k x.1 x.2.1 x.2.2.1 x.2.2.2⟩
noncomputable def T : FnText := ⟨(conv [] (bodyOf Tryd.f15) 0).1, Tryd.f15.results.toList, 18, [], [.ag [.d (.int .i64) none, .d (.int .i64) none, .d (.sl (.pair (.int .i64) (.pair (.int .i64) (.pair (.int .i64) (.pair (.int .i64) (.int .i64)))))) none, .d (.int .i64) none]], [.ag [.d (.int .i64) none, .d (.int .i64) none, .d (.sl (.pair (.int .i64) (.pair (.int .i64) (.pair (.int .i64) (.pair (.int .i64) (.int .i64)))))) (some 53), .d (.int .i64) none]]⟩
noncomputable def tbl (k : Nat) : Tbl := [(30, laws_toCarpetS.spec k)]
theorem e (k : Nat) (o : Nat → St → Option (Int × Int × List (Int × Int × Int × Int × Int) × Int)) (a0_0 a0_1 : Int) (l0_2 : List (Int × Int × Int × Int × Int)) (a0_3 : Int) : T.main tyt (tbl k) o (a0_0, a0_1, l0_2, a0_3) = m k a0_0 a0_1 l0_2 a0_3 := by kernel_rfl
theorem ok : T.ok = true := by kernel_rfl
theorem tblok (k : Nat) : TblOk Tryd.prog (tbl k) := TblOk.cons (laws_toCarpetS.sound k) (TblOk.nil _)
theorem sound (k : Nat) : Sound Tryd.prog 15 (spec k) := by
  have h := fn_ok (F := T) (tbl := tbl) mixed tyok Tryd.func15 (by kernel_rfl) (c0 := bodyOf Tryd.f15) rfl (conv_code _ _ _) rfl rfl ok k (fun j _ => tblok j)
  have e : spec k = ⟨T.ps, T.rs, T.ev tyt tbl k⟩ := congrArg (FnSpec.mk _ _) (funext fun x => ((e k (T.run tyt tbl k) x.1 x.2.1 x.2.2.1 x.2.2.2).trans (by rfl)).symm)
  rw [e]
  exact h
end laws_toShop

namespace laws_toLog
/-! ### laws_toLog: function 16 -/
def m (k : Nat) (a0_0 a0_1 : ByteArray) (a0_2 : Int) : Option (ByteArray × ByteArray × Int) := (some (a0_0, a0_1, a0_2))
def f (k : Nat) (a0_0 a0_1 : ByteArray) (a0_2 : Int) : Option (ByteArray × ByteArray × Int) := m k a0_0 a0_1 a0_2
noncomputable def spec (k : Nat) : FnSpec := ⟨[.ag [.d .str none, .d .str none, .d (.int .i64) none]], [.ag [.d .str none, .d .str none, .d (.int .i64) none]], fun x => f k x.1 x.2.1 x.2.2⟩
noncomputable def T : FnText := ⟨(conv [] (bodyOf Tryd.f16) 0).1, Tryd.f16.results.toList, 14, [], [.ag [.d .str none, .d .str none, .d (.int .i64) none]], [.ag [.d .str none, .d .str none, .d (.int .i64) none]]⟩
noncomputable def tbl (k : Nat) : Tbl := []
theorem e (k : Nat) (o : Nat → St → Option (ByteArray × ByteArray × Int)) (a0_0 a0_1 : ByteArray) (a0_2 : Int) : T.main tyt (tbl k) o (a0_0, a0_1, a0_2) = m k a0_0 a0_1 a0_2 := by kernel_rfl
theorem ok : T.ok = true := by kernel_rfl
theorem tblok (k : Nat) : TblOk Tryd.prog (tbl k) := TblOk.nil _
theorem sound (k : Nat) : Sound Tryd.prog 16 (spec k) := by
  have h := fn_ok (F := T) (tbl := tbl) mixed tyok Tryd.func16 (by kernel_rfl) (c0 := bodyOf Tryd.f16) rfl (conv_code _ _ _) rfl rfl ok k (fun j _ => tblok j)
  have e : spec k = ⟨T.ps, T.rs, T.ev tyt tbl k⟩ := congrArg (FnSpec.mk _ _) (funext fun x => ((e k (T.run tyt tbl k) x.1 x.2.1 x.2.2).trans (by rfl)).symm)
  rw [e]
  exact h
end laws_toLog

namespace laws_toConsole
/-! ### laws_toConsole: function 7 -/
def m (k : Nat) (a0_0 a0_1 : Int) (l0_2 : List (Int × Int × Int × Int × Int)) (a0_3 : Int) (a0_4 a0_5 : ByteArray) (a0_6 : Int) : Option (Int × Int × List (Int × Int × Int × Int × Int) × Int × ByteArray × ByteArray × Int) := ((laws_toShop.f k a0_0 a0_1 l0_2 a0_3).bind fun r1 => ((laws_toLog.f k a0_4 a0_5 a0_6).bind fun r2 => (some (r1.1, r1.2.1, r1.2.2.1, r1.2.2.2, r2.1, r2.2.1, r2.2.2))))
def f (k : Nat) (a0_0 a0_1 : Int) (l0_2 : List (Int × Int × Int × Int × Int)) (a0_3 : Int) (a0_4 a0_5 : ByteArray) (a0_6 : Int) : Option (Int × Int × List (Int × Int × Int × Int × Int) × Int × ByteArray × ByteArray × Int) := m k a0_0 a0_1 l0_2 a0_3 a0_4 a0_5 a0_6
noncomputable def spec (k : Nat) : FnSpec := ⟨[.ag [.d (.int .i64) none, .d (.int .i64) none, .d (.sl (.pair (.int .i64) (.pair (.int .i64) (.pair (.int .i64) (.pair (.int .i64) (.int .i64)))))) none, .d (.int .i64) none, .d .str none, .d .str none, .d (.int .i64) none]], [.ag [.d (.int .i64) none, .d (.int .i64) none, .d (.sl (.pair (.int .i64) (.pair (.int .i64) (.pair (.int .i64) (.pair (.int .i64) (.int .i64)))))) (some 53), .d (.int .i64) none, .d .str none, .d .str none, .d (.int .i64) none]], fun x => f k x.1 x.2.1 x.2.2.1 x.2.2.2.1 x.2.2.2.2.1 x.2.2.2.2.2.1 x.2.2.2.2.2.2⟩
noncomputable def T : FnText := ⟨(conv [] (bodyOf Tryd.f7) 0).1, Tryd.f7.results.toList, 13, [], [.ag [.d (.int .i64) none, .d (.int .i64) none, .d (.sl (.pair (.int .i64) (.pair (.int .i64) (.pair (.int .i64) (.pair (.int .i64) (.int .i64)))))) none, .d (.int .i64) none, .d .str none, .d .str none, .d (.int .i64) none]], [.ag [.d (.int .i64) none, .d (.int .i64) none, .d (.sl (.pair (.int .i64) (.pair (.int .i64) (.pair (.int .i64) (.pair (.int .i64) (.int .i64)))))) (some 53), .d (.int .i64) none, .d .str none, .d .str none, .d (.int .i64) none]]⟩
noncomputable def tbl (k : Nat) : Tbl := [(15, laws_toShop.spec k), (16, laws_toLog.spec k)]
theorem e (k : Nat) (o : Nat → St → Option (Int × Int × List (Int × Int × Int × Int × Int) × Int × ByteArray × ByteArray × Int)) (a0_0 a0_1 : Int) (l0_2 : List (Int × Int × Int × Int × Int)) (a0_3 : Int) (a0_4 a0_5 : ByteArray) (a0_6 : Int) : T.main tyt (tbl k) o (a0_0, a0_1, l0_2, a0_3, a0_4, a0_5, a0_6) = m k a0_0 a0_1 l0_2 a0_3 a0_4 a0_5 a0_6 := by kernel_rfl
theorem ok : T.ok = true := by kernel_rfl
theorem tblok (k : Nat) : TblOk Tryd.prog (tbl k) := TblOk.cons (laws_toShop.sound k) (TblOk.cons (laws_toLog.sound k) (TblOk.nil _))
theorem sound (k : Nat) : Sound Tryd.prog 7 (spec k) := by
  have h := fn_ok (F := T) (tbl := tbl) mixed tyok Tryd.func7 (by kernel_rfl) (c0 := bodyOf Tryd.f7) rfl (conv_code _ _ _) rfl rfl ok k (fun j _ => tblok j)
  have e : spec k = ⟨T.ps, T.rs, T.ev tyt tbl k⟩ := congrArg (FnSpec.mk _ _) (funext fun x => ((e k (T.run tyt tbl k) x.1 x.2.1 x.2.2.1 x.2.2.2.1 x.2.2.2.2.1 x.2.2.2.2.2.1 x.2.2.2.2.2.2).trans (by rfl)).symm)
  rw [e]
  exact h
end laws_toConsole

namespace spec_l1In
/-! ### spec_l1In: function 40 -/
def m (k : Nat) (a0 a1 a2 : Int) : Option (Bool) := (if a1 ≤ a0 then (some (decide (a0 ≤ a2))) else (some false))
def f (k : Nat) (a0 a1 a2 : Int) : Option (Bool) := m k a0 a1 a2
noncomputable def spec (k : Nat) : FnSpec := ⟨[.d (.int .i64) none, .d (.int .i64) none, .d (.int .i64) none], [.d .bool none], fun x => f k x.1 x.2.1 x.2.2⟩
noncomputable def T : FnText := ⟨(conv [] (bodyOf Tryd.f40) 0).1, Tryd.f40.results.toList, 15, [], [.d (.int .i64) none, .d (.int .i64) none, .d (.int .i64) none], [.d .bool none]⟩
noncomputable def tbl (k : Nat) : Tbl := []
theorem e (k : Nat) (o : Nat → St → Option (Bool)) (a0 a1 a2 : Int) : T.main tyt (tbl k) o (a0, a1, a2) = m k a0 a1 a2 := by kernel_rfl
theorem ok : T.ok = true := by kernel_rfl
theorem tblok (k : Nat) : TblOk Tryd.prog (tbl k) := TblOk.nil _
theorem sound (k : Nat) : Sound Tryd.prog 40 (spec k) := by
  have h := fn_ok (F := T) (tbl := tbl) mixed tyok Tryd.func40 (by kernel_rfl) (c0 := bodyOf Tryd.f40) rfl (conv_code _ _ _) rfl rfl ok k (fun j _ => tblok j)
  have e : spec k = ⟨T.ps, T.rs, T.ev tyt tbl k⟩ := congrArg (FnSpec.mk _ _) (funext fun x => ((e k (T.run tyt tbl k) x.1 x.2.1 x.2.2).trans (by rfl)).symm)
  rw [e]
  exact h
end spec_l1In

namespace spec_l2Day
/-! ### spec_l2Day: function 39 -/
def m (k : Nat) (a0 : Int) : Option (Bool) := ((spec_l1In.f k a0 0 4000).bind fun r1 => (some r1))
def f (k : Nat) (a0 : Int) : Option (Bool) := m k a0
noncomputable def spec (k : Nat) : FnSpec := ⟨[.d (.int .i64) none], [.d .bool none], fun x => f k x⟩
noncomputable def T : FnText := ⟨(conv [] (bodyOf Tryd.f39) 0).1, Tryd.f39.results.toList, 5, [], [.d (.int .i64) none], [.d .bool none]⟩
noncomputable def tbl (k : Nat) : Tbl := [(40, spec_l1In.spec k)]
theorem e (k : Nat) (o : Nat → St → Option (Bool)) (a0 : Int) : T.main tyt (tbl k) o a0 = m k a0 := by kernel_rfl
theorem ok : T.ok = true := by kernel_rfl
theorem tblok (k : Nat) : TblOk Tryd.prog (tbl k) := TblOk.cons (spec_l1In.sound k) (TblOk.nil _)
theorem sound (k : Nat) : Sound Tryd.prog 39 (spec k) := by
  have h := fn_ok (F := T) (tbl := tbl) mixed tyok Tryd.func39 (by kernel_rfl) (c0 := bodyOf Tryd.f39) rfl (conv_code _ _ _) rfl rfl ok k (fun j _ => tblok j)
  have e : spec k = ⟨T.ps, T.rs, T.ev tyt tbl k⟩ := congrArg (FnSpec.mk _ _) (funext fun x => ((e k (T.run tyt tbl k) x).trans (by rfl)).symm)
  rw [e]
  exact h
end spec_l2Day

namespace spec_l25Carpet
/-! ### spec_l25Carpet: function 41 -/
def m (k : Nat) (a0_0 a0_1 : Int) (l0_2 : List (Int × Int × Int × Int × Int)) (a0_3 a1_0 a1_1 a1_2 a1_3 a1_4 : Int) : Option (Bool) := ((spec_l1In.f k a1_0 1 500).bind fun r1 => (cond (!r1) (some false) ((spec_l1In.f k a1_1 0 a1_0).bind fun r2 => (cond (!r2) (some false) ((spec_l1In.f k a1_2 0 4).bind fun r3 => (cond (!r3) (some false) ((spec_l1In.f k a1_4 0 a0_0).bind fun r4 => (cond (!r4) (some false) (if a1_2 = 1 then ((spec_l1In.f k a1_3 1 a0_1).bind fun r5 => (some r5)) else (if a1_2 = 0 then (if a1_3 = 0 then (some (decide (a1_1 = 0))) else (some false)) else (if a1_3 = 0 then (some (decide (a1_1 = a1_0))) else (some false))))))))))))
def f (k : Nat) (a0_0 a0_1 : Int) (l0_2 : List (Int × Int × Int × Int × Int)) (a0_3 a1_0 a1_1 a1_2 a1_3 a1_4 : Int) : Option (Bool) := m k a0_0 a0_1 l0_2 a0_3 a1_0 a1_1 a1_2 a1_3 a1_4
noncomputable def spec (k : Nat) : FnSpec := ⟨[.ag [.d (.int .i64) none, .d (.int .i64) none, .d (.sl (.pair (.int .i64) (.pair (.int .i64) (.pair (.int .i64) (.pair (.int .i64) (.int .i64)))))) none, .d (.int .i64) none], .ag [.d (.int .i64) none, .d (.int .i64) none, .d (.int .i64) none, .d (.int .i64) none, .d (.int .i64) none]], [.d .bool none], fun x => f k x.1 x.2.1 x.2.2.1 x.2.2.2.1 x.2.2.2.2.1 x.2.2.2.2.2.1 x.2.2.2.2.2.2.1 x.2.2.2.2.2.2.2.1 x.2.2.2.2.2.2.2.2⟩
noncomputable def T : FnText := ⟨(conv [] (bodyOf Tryd.f41) 0).1, Tryd.f41.results.toList, 60, [], [.ag [.d (.int .i64) none, .d (.int .i64) none, .d (.sl (.pair (.int .i64) (.pair (.int .i64) (.pair (.int .i64) (.pair (.int .i64) (.int .i64)))))) none, .d (.int .i64) none], .ag [.d (.int .i64) none, .d (.int .i64) none, .d (.int .i64) none, .d (.int .i64) none, .d (.int .i64) none]], [.d .bool none]⟩
noncomputable def tbl (k : Nat) : Tbl := [(40, spec_l1In.spec k)]
theorem e (k : Nat) (o : Nat → St → Option (Bool)) (a0_0 a0_1 : Int) (l0_2 : List (Int × Int × Int × Int × Int)) (a0_3 a1_0 a1_1 a1_2 a1_3 a1_4 : Int) : T.main tyt (tbl k) o (a0_0, a0_1, l0_2, a0_3, a1_0, a1_1, a1_2, a1_3, a1_4) = m k a0_0 a0_1 l0_2 a0_3 a1_0 a1_1 a1_2 a1_3 a1_4 := by kernel_rfl
theorem ok : T.ok = true := by kernel_rfl
theorem tblok (k : Nat) : TblOk Tryd.prog (tbl k) := TblOk.cons (spec_l1In.sound k) (TblOk.nil _)
theorem sound (k : Nat) : Sound Tryd.prog 41 (spec k) := by
  have h := fn_ok (F := T) (tbl := tbl) mixed tyok Tryd.func41 (by kernel_rfl) (c0 := bodyOf Tryd.f41) rfl (conv_code _ _ _) rfl rfl ok k (fun j _ => tblok j)
  have e : spec k = ⟨T.ps, T.rs, T.ev tyt tbl k⟩ := congrArg (FnSpec.mk _ _) (funext fun x => ((e k (T.run tyt tbl k) x.1 x.2.1 x.2.2.1 x.2.2.2.1 x.2.2.2.2.1 x.2.2.2.2.2.1 x.2.2.2.2.2.2.1 x.2.2.2.2.2.2.2.1 x.2.2.2.2.2.2.2.2).trans (by rfl)).symm)
  rw [e]
  exact h
end spec_l25Carpet

namespace spec_l25Good
/-! ### spec_l25Good: function 28 -/
def b6 (o14 : Int → Int → (List (Int × Int × Int × Int × Int)) → Int → Int → Int → Option (Bool)) (k : Nat) (x0_6 x1_6 : Int) (l2_6 : List (Int × Int × Int × Int × Int)) (x3_6 x4_6 : Int) : Option (Bool) := (if x4_6 < (l2_6.length : Int) then ((chk l2_6.length x4_6).bind fun i4 => ((spec_l25Carpet.f k x0_6 x1_6 l2_6 x3_6 ((l2_6.getD i4 (0, 0, 0, 0, 0)).1) (((l2_6.getD i4 (0, 0, 0, 0, 0)).2).1) ((((l2_6.getD i4 (0, 0, 0, 0, 0)).2).2).1) (((((l2_6.getD i4 (0, 0, 0, 0, 0)).2).2).2).1) (((((l2_6.getD i4 (0, 0, 0, 0, 0)).2).2).2).2)).bind fun r5 => (cond (!r5) (some false) (o14 x0_6 x1_6 l2_6 x3_6 x4_6 0)))) else (some true))
def b14 (o6 : Int → Int → (List (Int × Int × Int × Int × Int)) → Int → Int → Option (Bool)) (o14 : Int → Int → (List (Int × Int × Int × Int × Int)) → Int → Int → Int → Option (Bool)) (k : Nat) (x0_14 x1_14 : Int) (l2_14 : List (Int × Int × Int × Int × Int)) (x3_14 x4_14 x5_14 : Int) : Option (Bool) := (if x5_14 < x4_14 then ((chk l2_14.length x4_14).bind fun i6 => (if 0 < (((((l2_14.getD i6 (0, 0, 0, 0, 0)).2).2).2).1) then ((chk l2_14.length x5_14).bind fun i7 => ((chk l2_14.length x4_14).bind fun i8 => (if (((((l2_14.getD i7 (0, 0, 0, 0, 0)).2).2).2).1) = (((((l2_14.getD i8 (0, 0, 0, 0, 0)).2).2).2).1) then (some false) else (o14 x0_14 x1_14 l2_14 x3_14 x4_14 (w64 (x5_14 + 1)))))) else (o14 x0_14 x1_14 l2_14 x3_14 x4_14 (w64 (x5_14 + 1))))) else (o6 x0_14 x1_14 l2_14 x3_14 (w64 (x4_14 + 1))))
mutual
def l6 : Nat → Int → Int → (List (Int × Int × Int × Int × Int)) → Int → Int → Option (Bool)
  | 0, _, _, _, _, _ => none
  | k + 1, x0_6, x1_6, l2_6, x3_6, x4_6 => b6 (spec_l25Good.l14 k) k x0_6 x1_6 l2_6 x3_6 x4_6
def l14 : Nat → Int → Int → (List (Int × Int × Int × Int × Int)) → Int → Int → Int → Option (Bool)
  | 0, _, _, _, _, _, _ => none
  | k + 1, x0_14, x1_14, l2_14, x3_14, x4_14, x5_14 => b14 (spec_l25Good.l6 k) (spec_l25Good.l14 k) k x0_14 x1_14 l2_14 x3_14 x4_14 x5_14
end
def m (o6 : Int → Int → (List (Int × Int × Int × Int × Int)) → Int → Int → Option (Bool)) (k : Nat) (a0_0 a0_1 : Int) (l0_2 : List (Int × Int × Int × Int × Int)) (a0_3 : Int) : Option (Bool) := ((spec_l2Day.f k a0_0).bind fun r1 => (cond (!r1) (some false) ((spec_l1In.f k a0_1 1 4).bind fun r2 => (cond (!r2) (some false) ((spec_l1In.f k a0_3 0 1000000).bind fun r3 => (cond (!r3) (some false) (if 8 < (l0_2.length : Int) then (some false) else (o6 a0_0 a0_1 l0_2 a0_3 0))))))))
def f (k : Nat) (a0_0 a0_1 : Int) (l0_2 : List (Int × Int × Int × Int × Int)) (a0_3 : Int) : Option (Bool) := m (spec_l25Good.l6 k) k a0_0 a0_1 l0_2 a0_3
noncomputable def spec (k : Nat) : FnSpec := ⟨[.ag [.d (.int .i64) none, .d (.int .i64) none, .d (.sl (.pair (.int .i64) (.pair (.int .i64) (.pair (.int .i64) (.pair (.int .i64) (.int .i64)))))) none, .d (.int .i64) none]], [.d .bool none], fun x => f k x.1 x.2.1 x.2.2.1 x.2.2.2⟩
def S6 (x0_6 x1_6 : Int) (l2_6 : List (Int × Int × Int × Int × Int)) (x3_6 x4_6 : Int) : St := ⟨[(1, .ptr 100 0), (3, .val (.int .i64) x4_6)], [(100, some (.box [.val (.int .i64) x0_6, .val (.int .i64) x1_6, .val (.sl (.pair (.int .i64) (.pair (.int .i64) (.pair (.int .i64) (.pair (.int .i64) (.int .i64)))))) l2_6, .val (.int .i64) x3_6]))], 1000⟩
def S14 (x0_14 x1_14 : Int) (l2_14 : List (Int × Int × Int × Int × Int)) (x3_14 x4_14 x5_14 : Int) : St := ⟨[(1, .ptr 100 0), (3, .val (.int .i64) x4_14), (4, .val (.int .i64) x5_14)], [(100, some (.box [.val (.int .i64) x0_14, .val (.int .i64) x1_14, .val (.sl (.pair (.int .i64) (.pair (.int .i64) (.pair (.int .i64) (.pair (.int .i64) (.int .i64)))))) l2_14, .val (.int .i64) x3_14]))], 1000⟩
noncomputable def T : FnText := ⟨(conv [] (bodyOf Tryd.f28) 0).1, Tryd.f28.results.toList, 69, [(6, [(1, .bx 100 [.rd (.int .i64), .rd (.int .i64), .rd (.sl (.pair (.int .i64) (.pair (.int .i64) (.pair (.int .i64) (.pair (.int .i64) (.int .i64)))))), .rd (.int .i64)]), (3, .rd (.int .i64))]), (14, [(1, .bx 100 [.rd (.int .i64), .rd (.int .i64), .rd (.sl (.pair (.int .i64) (.pair (.int .i64) (.pair (.int .i64) (.pair (.int .i64) (.int .i64)))))), .rd (.int .i64)]), (3, .rd (.int .i64)), (4, .rd (.int .i64))])], [.ag [.d (.int .i64) none, .d (.int .i64) none, .d (.sl (.pair (.int .i64) (.pair (.int .i64) (.pair (.int .i64) (.pair (.int .i64) (.int .i64)))))) none, .d (.int .i64) none]], [.d .bool none]⟩
noncomputable def tbl (k : Nat) : Tbl := [(39, spec_l2Day.spec k), (40, spec_l1In.spec k), (41, spec_l25Carpet.spec k)]
theorem e6 (k : Nat) (o : Nat → St → Option (Bool)) (x0_6 x1_6 : Int) (l2_6 : List (Int × Int × Int × Int × Int)) (x3_6 x4_6 : Int) : T.step tyt (tbl k) o 6 (S6 x0_6 x1_6 l2_6 x3_6 x4_6) = b6 (fun x0_14 x1_14 l2_14 x3_14 x4_14 x5_14 => o 14 (S14 x0_14 x1_14 l2_14 x3_14 x4_14 x5_14)) k x0_6 x1_6 l2_6 x3_6 x4_6 := by kernel_rfl
theorem e14 (k : Nat) (o : Nat → St → Option (Bool)) (x0_14 x1_14 : Int) (l2_14 : List (Int × Int × Int × Int × Int)) (x3_14 x4_14 x5_14 : Int) : T.step tyt (tbl k) o 14 (S14 x0_14 x1_14 l2_14 x3_14 x4_14 x5_14) = b14 (fun x0_6 x1_6 l2_6 x3_6 x4_6 => o 6 (S6 x0_6 x1_6 l2_6 x3_6 x4_6)) (fun x0_14 x1_14 l2_14 x3_14 x4_14 x5_14 => o 14 (S14 x0_14 x1_14 l2_14 x3_14 x4_14 x5_14)) k x0_14 x1_14 l2_14 x3_14 x4_14 x5_14 := by kernel_rfl
theorem e (k : Nat) (o : Nat → St → Option (Bool)) (a0_0 a0_1 : Int) (l0_2 : List (Int × Int × Int × Int × Int)) (a0_3 : Int) : T.main tyt (tbl k) o (a0_0, a0_1, l0_2, a0_3) = m (fun x0_6 x1_6 l2_6 x3_6 x4_6 => o 6 (S6 x0_6 x1_6 l2_6 x3_6 x4_6)) k a0_0 a0_1 l0_2 a0_3 := by kernel_rfl
theorem ok : T.ok = true := by kernel_rfl
theorem run (k : Nat) : (∀ (x0_6 x1_6 : Int) (l2_6 : List (Int × Int × Int × Int × Int)) (x3_6 x4_6 : Int), T.run tyt tbl k 6 (S6 x0_6 x1_6 l2_6 x3_6 x4_6) = spec_l25Good.l6 k x0_6 x1_6 l2_6 x3_6 x4_6) ∧ (∀ (x0_14 x1_14 : Int) (l2_14 : List (Int × Int × Int × Int × Int)) (x3_14 x4_14 x5_14 : Int), T.run tyt tbl k 14 (S14 x0_14 x1_14 l2_14 x3_14 x4_14 x5_14) = spec_l25Good.l14 k x0_14 x1_14 l2_14 x3_14 x4_14 x5_14) := by
  induction k with
  | zero => exact ⟨fun x0_6 x1_6 l2_6 x3_6 x4_6 => rfl, fun x0_14 x1_14 l2_14 x3_14 x4_14 x5_14 => rfl⟩
  | succ k ih =>
    exact ⟨fun x0_6 x1_6 l2_6 x3_6 x4_6 => by
      have q14 : (fun x0_14 x1_14 l2_14 x3_14 x4_14 x5_14 => T.run tyt tbl k 14 (S14 x0_14 x1_14 l2_14 x3_14 x4_14 x5_14)) = spec_l25Good.l14 k := by funext x0_14 x1_14 l2_14 x3_14 x4_14 x5_14; exact ih.2 x0_14 x1_14 l2_14 x3_14 x4_14 x5_14
      exact (e6 k (T.run tyt tbl k) x0_6 x1_6 l2_6 x3_6 x4_6).trans (by rw [q14]; rfl), fun x0_14 x1_14 l2_14 x3_14 x4_14 x5_14 => by
      have q6 : (fun x0_6 x1_6 l2_6 x3_6 x4_6 => T.run tyt tbl k 6 (S6 x0_6 x1_6 l2_6 x3_6 x4_6)) = spec_l25Good.l6 k := by funext x0_6 x1_6 l2_6 x3_6 x4_6; exact ih.1 x0_6 x1_6 l2_6 x3_6 x4_6
      have q14 : (fun x0_14 x1_14 l2_14 x3_14 x4_14 x5_14 => T.run tyt tbl k 14 (S14 x0_14 x1_14 l2_14 x3_14 x4_14 x5_14)) = spec_l25Good.l14 k := by funext x0_14 x1_14 l2_14 x3_14 x4_14 x5_14; exact ih.2 x0_14 x1_14 l2_14 x3_14 x4_14 x5_14
      exact (e14 k (T.run tyt tbl k) x0_14 x1_14 l2_14 x3_14 x4_14 x5_14).trans (by rw [q6, q14]; rfl)⟩
theorem tblok (k : Nat) : TblOk Tryd.prog (tbl k) := TblOk.cons (spec_l2Day.sound k) (TblOk.cons (spec_l1In.sound k) (TblOk.cons (spec_l25Carpet.sound k) (TblOk.nil _)))
theorem sound (k : Nat) : Sound Tryd.prog 28 (spec k) := by
  have h := fn_ok (F := T) (tbl := tbl) mixed tyok Tryd.func28 (by kernel_rfl) (c0 := bodyOf Tryd.f28) rfl (conv_code _ _ _) rfl rfl ok k (fun j _ => tblok j)
  have q6 : (fun x0_6 x1_6 l2_6 x3_6 x4_6 => T.run tyt tbl k 6 (S6 x0_6 x1_6 l2_6 x3_6 x4_6)) = spec_l25Good.l6 k := by funext x0_6 x1_6 l2_6 x3_6 x4_6; exact (run k).1 x0_6 x1_6 l2_6 x3_6 x4_6
  have e : spec k = ⟨T.ps, T.rs, T.ev tyt tbl k⟩ := congrArg (FnSpec.mk _ _) (funext fun x => ((e k (T.run tyt tbl k) x.1 x.2.1 x.2.2.1 x.2.2.2).trans (by rw [q6]; rfl)).symm)
  rw [e]
  exact h
end spec_l25Good

namespace spec_l1Split
/-! ### spec_l1Split: function 50 -/
def b5 (o5 : ByteArray → Int → List ByteArray → Int → Int → Option (List ByteArray)) (k : Nat) (x0_5 : ByteArray) (x1_5 : Int) (l2_5 : List ByteArray) (x3_5 x4_5 : Int) : Option (List ByteArray) := (if x4_5 < (x0_5.size : Int) then ((chk x0_5.size x4_5).bind fun i1 => (if (byteAt x0_5 i1) = x1_5 then ((cut x0_5.size x3_5 x4_5).bind fun c2 => ((app 8796093022208 l2_5 [(x0_5.extract c2.1 (c2.1 + c2.2))]).bind fun l3 => (o5 x0_5 x1_5 l3 (w64 (x4_5 + 1)) (w64 (x4_5 + 1))))) else (o5 x0_5 x1_5 l2_5 x3_5 (w64 (x4_5 + 1))))) else ((cut x0_5.size x3_5 (x0_5.size : Int)).bind fun c4 => ((app 8796093022208 l2_5 [(x0_5.extract c4.1 (c4.1 + c4.2))]).bind fun l5 => (some l5))))
def l5 : Nat → ByteArray → Int → List ByteArray → Int → Int → Option (List ByteArray)
  | 0, _, _, _, _, _ => none
  | k + 1, x0_5, x1_5, l2_5, x3_5, x4_5 => b5 (spec_l1Split.l5 k) k x0_5 x1_5 l2_5 x3_5 x4_5
def m (o5 : ByteArray → Int → List ByteArray → Int → Int → Option (List ByteArray)) (k : Nat) (a0 : ByteArray) (a1 : Int) : Option (List ByteArray) := (o5 a0 a1 ([] : List (ByteArray)) 0 0)
def f (k : Nat) (a0 : ByteArray) (a1 : Int) : Option (List ByteArray) := m (spec_l1Split.l5 k) k a0 a1
noncomputable def spec (k : Nat) : FnSpec := ⟨[.d .str none, .d (.int .u8) none], [.d (.sl .str) (some 9)], fun x => f k x.1 x.2⟩
def S5 (x0_5 : ByteArray) (x1_5 : Int) (l2_5 : List ByteArray) (x3_5 x4_5 : Int) : St := ⟨[(0, .val .str x0_5), (1, .val (.int .u8) x1_5), (5, .ref 100), (6, .val (.int .i64) x3_5), (7, .val (.int .i64) x4_5)], [(100, some (.row 9 .str l2_5))], 1000⟩
noncomputable def T : FnText := ⟨(conv [] (bodyOf Tryd.f50) 0).1, Tryd.f50.results.toList, 35, [(5, [(0, .rd .str), (1, .rd (.int .u8)), (5, .own 9 .str 100), (6, .rd (.int .i64)), (7, .rd (.int .i64))])], [.d .str none, .d (.int .u8) none], [.d (.sl .str) (some 9)]⟩
noncomputable def tbl (k : Nat) : Tbl := []
theorem e5 (k : Nat) (o : Nat → St → Option (List ByteArray)) (x0_5 : ByteArray) (x1_5 : Int) (l2_5 : List ByteArray) (x3_5 x4_5 : Int) : T.step tyt (tbl k) o 5 (S5 x0_5 x1_5 l2_5 x3_5 x4_5) = b5 (fun x0_5 x1_5 l2_5 x3_5 x4_5 => o 5 (S5 x0_5 x1_5 l2_5 x3_5 x4_5)) k x0_5 x1_5 l2_5 x3_5 x4_5 := by kernel_rfl
theorem e (k : Nat) (o : Nat → St → Option (List ByteArray)) (a0 : ByteArray) (a1 : Int) : T.main tyt (tbl k) o (a0, a1) = m (fun x0_5 x1_5 l2_5 x3_5 x4_5 => o 5 (S5 x0_5 x1_5 l2_5 x3_5 x4_5)) k a0 a1 := by kernel_rfl
theorem ok : T.ok = true := by kernel_rfl
theorem run (k : Nat) : (∀ (x0_5 : ByteArray) (x1_5 : Int) (l2_5 : List ByteArray) (x3_5 x4_5 : Int), T.run tyt tbl k 5 (S5 x0_5 x1_5 l2_5 x3_5 x4_5) = spec_l1Split.l5 k x0_5 x1_5 l2_5 x3_5 x4_5) := by
  induction k with
  | zero => exact fun x0_5 x1_5 l2_5 x3_5 x4_5 => rfl
  | succ k ih =>
    exact fun x0_5 x1_5 l2_5 x3_5 x4_5 => by
      have q5 : (fun x0_5 x1_5 l2_5 x3_5 x4_5 => T.run tyt tbl k 5 (S5 x0_5 x1_5 l2_5 x3_5 x4_5)) = spec_l1Split.l5 k := by funext x0_5 x1_5 l2_5 x3_5 x4_5; exact ih x0_5 x1_5 l2_5 x3_5 x4_5
      exact (e5 k (T.run tyt tbl k) x0_5 x1_5 l2_5 x3_5 x4_5).trans (by rw [q5]; rfl)
theorem tblok (k : Nat) : TblOk Tryd.prog (tbl k) := TblOk.nil _
theorem sound (k : Nat) : Sound Tryd.prog 50 (spec k) := by
  have h := fn_ok (F := T) (tbl := tbl) mixed tyok Tryd.func50 (by kernel_rfl) (c0 := bodyOf Tryd.f50) rfl (conv_code _ _ _) rfl rfl ok k (fun j _ => tblok j)
  have q5 : (fun x0_5 x1_5 l2_5 x3_5 x4_5 => T.run tyt tbl k 5 (S5 x0_5 x1_5 l2_5 x3_5 x4_5)) = spec_l1Split.l5 k := by funext x0_5 x1_5 l2_5 x3_5 x4_5; exact (run k) x0_5 x1_5 l2_5 x3_5 x4_5
  have e : spec k = ⟨T.ps, T.rs, T.ev tyt tbl k⟩ := congrArg (FnSpec.mk _ _) (funext fun x => ((e k (T.run tyt tbl k) x.1 x.2).trans (by rw [q5]; rfl)).symm)
  rw [e]
  exact h
end spec_l1Split

namespace spec_l1Num
/-! ### spec_l1Num: function 21, that calls itself -/
def m (self : Int → Option (ByteArray)) (k : Nat) (a0 : Int) : Option (ByteArray) := (if a0 < 0 then ((self (w64 (0 - a0))).bind fun r1 => ((catS (⟨#[45]⟩ : ByteArray) r1).bind fun s2 => (some s2))) else (if a0 < 10 then ((cut ((⟨#[48, 49, 50, 51, 52, 53, 54, 55, 56, 57]⟩ : ByteArray).size) a0 (w64 (a0 + 1))).bind fun c3 => (some ((⟨#[48, 49, 50, 51, 52, 53, 54, 55, 56, 57]⟩ : ByteArray).extract c3.1 (c3.1 + c3.2)))) else ((quo .i64 a0 10).bind fun q4 => ((self q4).bind fun r5 => ((rem a0 10).bind fun q6 => ((rem a0 10).bind fun q7 => ((cut ((⟨#[48, 49, 50, 51, 52, 53, 54, 55, 56, 57]⟩ : ByteArray).size) q6 (w64 (q7 + 1))).bind fun c8 => ((catS r5 ((⟨#[48, 49, 50, 51, 52, 53, 54, 55, 56, 57]⟩ : ByteArray).extract c8.1 (c8.1 + c8.2))).bind fun s9 => (some s9)))))))))
def f : Nat → Int → Option (ByteArray)
  | 0, _ => none
  | k + 1, a0 => m (f k) (k + 1) a0
noncomputable def spec (k : Nat) : FnSpec := ⟨[.d (.int .i64) none], [.d .str none], fun x => f k x⟩
noncomputable def T : FnText := ⟨(conv [] (bodyOf Tryd.f21) 0).1, Tryd.f21.results.toList, 25, [], [.d (.int .i64) none], [.d .str none]⟩
noncomputable def tbl (k0 k : Nat) : Tbl := [(21, spec k0)]
theorem e (k0 k : Nat) (o : Nat → St → Option (ByteArray)) (a0 : Int) : T.main tyt (tbl k0 k) o a0 = m (f k0) k a0 := by kernel_rfl
theorem ok : T.ok = true := by kernel_rfl
theorem tblok (k0 k : Nat) (hs : Sound Tryd.prog 21 (spec k0)) : TblOk Tryd.prog (tbl k0 k) := TblOk.cons hs (TblOk.nil _)
theorem sound (k : Nat) : Sound Tryd.prog 21 (spec k) := by
  induction k with
  | zero => exact ⟨fun args w => enters_fn Tryd.func21 (by kernel_rfl) rfl args w, fun x r hx => nomatch (show none = some r from hx)⟩
  | succ k0 ih =>
  have h := fn_ok (F := T) (tbl := tbl k0) mixed tyok Tryd.func21 (by kernel_rfl) (c0 := bodyOf Tryd.f21) rfl (conv_code _ _ _) rfl rfl ok (k0 + 1) (fun j _ => tblok k0 j ih)
  have e : spec (k0 + 1) = ⟨T.ps, T.rs, T.ev tyt (tbl k0) (k0 + 1)⟩ := congrArg (FnSpec.mk _ _) (funext fun x => ((e k0 (k0 + 1) (T.run tyt (tbl k0) (k0 + 1)) x).trans (by rfl)).symm)
  rw [e]
  exact h
end spec_l1Num

namespace spec_l27Plain
/-! ### spec_l27Plain: function 64 -/
def b3 (o3 : ByteArray → Int → Int → Option (Bool)) (k : Nat) (x0_3 : ByteArray) (x1_3 x2_3 : Int) : Option (Bool) := (if x2_3 < (x0_3.size : Int) then ((chk x0_3.size x2_3).bind fun i1 => ((spec_l1In.f k (w64 ((byteAt x0_3 i1))) 32 126).bind fun r2 => (cond (!r2) (some false) ((chk x0_3.size x2_3).bind fun i3 => (if (byteAt x0_3 i3) = 35 then (some false) else (o3 x0_3 x1_3 (w64 (x2_3 + 1)))))))) else (some (decide ((x0_3.size : Int) ≤ x1_3))))
def l3 : Nat → ByteArray → Int → Int → Option (Bool)
  | 0, _, _, _ => none
  | k + 1, x0_3, x1_3, x2_3 => b3 (spec_l27Plain.l3 k) k x0_3 x1_3 x2_3
def m (o3 : ByteArray → Int → Int → Option (Bool)) (k : Nat) (a0 : ByteArray) (a1 : Int) : Option (Bool) := (o3 a0 a1 0)
def f (k : Nat) (a0 : ByteArray) (a1 : Int) : Option (Bool) := m (spec_l27Plain.l3 k) k a0 a1
noncomputable def spec (k : Nat) : FnSpec := ⟨[.d .str none, .d (.int .i64) none], [.d .bool none], fun x => f k x.1 x.2⟩
def S3 (x0_3 : ByteArray) (x1_3 x2_3 : Int) : St := ⟨[(0, .val .str x0_3), (1, .val (.int .i64) x1_3), (5, .val (.int .i64) x2_3)], [], 1000⟩
noncomputable def T : FnText := ⟨(conv [] (bodyOf Tryd.f64) 0).1, Tryd.f64.results.toList, 28, [(3, [(0, .rd .str), (1, .rd (.int .i64)), (5, .rd (.int .i64))])], [.d .str none, .d (.int .i64) none], [.d .bool none]⟩
noncomputable def tbl (k : Nat) : Tbl := [(40, spec_l1In.spec k)]
theorem e3 (k : Nat) (o : Nat → St → Option (Bool)) (x0_3 : ByteArray) (x1_3 x2_3 : Int) : T.step tyt (tbl k) o 3 (S3 x0_3 x1_3 x2_3) = b3 (fun x0_3 x1_3 x2_3 => o 3 (S3 x0_3 x1_3 x2_3)) k x0_3 x1_3 x2_3 := by kernel_rfl
theorem e (k : Nat) (o : Nat → St → Option (Bool)) (a0 : ByteArray) (a1 : Int) : T.main tyt (tbl k) o (a0, a1) = m (fun x0_3 x1_3 x2_3 => o 3 (S3 x0_3 x1_3 x2_3)) k a0 a1 := by kernel_rfl
theorem ok : T.ok = true := by kernel_rfl
theorem run (k : Nat) : (∀ (x0_3 : ByteArray) (x1_3 x2_3 : Int), T.run tyt tbl k 3 (S3 x0_3 x1_3 x2_3) = spec_l27Plain.l3 k x0_3 x1_3 x2_3) := by
  induction k with
  | zero => exact fun x0_3 x1_3 x2_3 => rfl
  | succ k ih =>
    exact fun x0_3 x1_3 x2_3 => by
      have q3 : (fun x0_3 x1_3 x2_3 => T.run tyt tbl k 3 (S3 x0_3 x1_3 x2_3)) = spec_l27Plain.l3 k := by funext x0_3 x1_3 x2_3; exact ih x0_3 x1_3 x2_3
      exact (e3 k (T.run tyt tbl k) x0_3 x1_3 x2_3).trans (by rw [q3]; rfl)
theorem tblok (k : Nat) : TblOk Tryd.prog (tbl k) := TblOk.cons (spec_l1In.sound k) (TblOk.nil _)
theorem sound (k : Nat) : Sound Tryd.prog 64 (spec k) := by
  have h := fn_ok (F := T) (tbl := tbl) mixed tyok Tryd.func64 (by kernel_rfl) (c0 := bodyOf Tryd.f64) rfl (conv_code _ _ _) rfl rfl ok k (fun j _ => tblok j)
  have q3 : (fun x0_3 x1_3 x2_3 => T.run tyt tbl k 3 (S3 x0_3 x1_3 x2_3)) = spec_l27Plain.l3 k := by funext x0_3 x1_3 x2_3; exact (run k) x0_3 x1_3 x2_3
  have e : spec k = ⟨T.ps, T.rs, T.ev tyt tbl k⟩ := congrArg (FnSpec.mk _ _) (funext fun x => ((e k (T.run tyt tbl k) x.1 x.2).trans (by rw [q3]; rfl)).symm)
  rw [e]
  exact h
end spec_l27Plain

namespace spec_l1Stands
/-! ### spec_l1Stands: function 65 -/
def b3 (o3 : ByteArray → Int → Int → Option (Bool)) (k : Nat) (x0_3 : ByteArray) (x1_3 x2_3 : Int) : Option (Bool) := (if x2_3 < (x0_3.size : Int) then ((chk x0_3.size x2_3).bind fun i1 => (if (byteAt x0_3 i1) = x1_3 then (some true) else (o3 x0_3 x1_3 (w64 (x2_3 + 1))))) else (some false))
def l3 : Nat → ByteArray → Int → Int → Option (Bool)
  | 0, _, _, _ => none
  | k + 1, x0_3, x1_3, x2_3 => b3 (spec_l1Stands.l3 k) k x0_3 x1_3 x2_3
def m (o3 : ByteArray → Int → Int → Option (Bool)) (k : Nat) (a0 : ByteArray) (a1 : Int) : Option (Bool) := (o3 a0 a1 0)
def f (k : Nat) (a0 : ByteArray) (a1 : Int) : Option (Bool) := m (spec_l1Stands.l3 k) k a0 a1
noncomputable def spec (k : Nat) : FnSpec := ⟨[.d .str none, .d (.int .u8) none], [.d .bool none], fun x => f k x.1 x.2⟩
def S3 (x0_3 : ByteArray) (x1_3 x2_3 : Int) : St := ⟨[(0, .val .str x0_3), (1, .val (.int .u8) x1_3), (5, .val (.int .i64) x2_3)], [], 1000⟩
noncomputable def T : FnText := ⟨(conv [] (bodyOf Tryd.f65) 0).1, Tryd.f65.results.toList, 17, [(3, [(0, .rd .str), (1, .rd (.int .u8)), (5, .rd (.int .i64))])], [.d .str none, .d (.int .u8) none], [.d .bool none]⟩
noncomputable def tbl (k : Nat) : Tbl := []
theorem e3 (k : Nat) (o : Nat → St → Option (Bool)) (x0_3 : ByteArray) (x1_3 x2_3 : Int) : T.step tyt (tbl k) o 3 (S3 x0_3 x1_3 x2_3) = b3 (fun x0_3 x1_3 x2_3 => o 3 (S3 x0_3 x1_3 x2_3)) k x0_3 x1_3 x2_3 := by kernel_rfl
theorem e (k : Nat) (o : Nat → St → Option (Bool)) (a0 : ByteArray) (a1 : Int) : T.main tyt (tbl k) o (a0, a1) = m (fun x0_3 x1_3 x2_3 => o 3 (S3 x0_3 x1_3 x2_3)) k a0 a1 := by kernel_rfl
theorem ok : T.ok = true := by kernel_rfl
theorem run (k : Nat) : (∀ (x0_3 : ByteArray) (x1_3 x2_3 : Int), T.run tyt tbl k 3 (S3 x0_3 x1_3 x2_3) = spec_l1Stands.l3 k x0_3 x1_3 x2_3) := by
  induction k with
  | zero => exact fun x0_3 x1_3 x2_3 => rfl
  | succ k ih =>
    exact fun x0_3 x1_3 x2_3 => by
      have q3 : (fun x0_3 x1_3 x2_3 => T.run tyt tbl k 3 (S3 x0_3 x1_3 x2_3)) = spec_l1Stands.l3 k := by funext x0_3 x1_3 x2_3; exact ih x0_3 x1_3 x2_3
      exact (e3 k (T.run tyt tbl k) x0_3 x1_3 x2_3).trans (by rw [q3]; rfl)
theorem tblok (k : Nat) : TblOk Tryd.prog (tbl k) := TblOk.nil _
theorem sound (k : Nat) : Sound Tryd.prog 65 (spec k) := by
  have h := fn_ok (F := T) (tbl := tbl) mixed tyok Tryd.func65 (by kernel_rfl) (c0 := bodyOf Tryd.f65) rfl (conv_code _ _ _) rfl rfl ok k (fun j _ => tblok j)
  have q3 : (fun x0_3 x1_3 x2_3 => T.run tyt tbl k 3 (S3 x0_3 x1_3 x2_3)) = spec_l1Stands.l3 k := by funext x0_3 x1_3 x2_3; exact (run k) x0_3 x1_3 x2_3
  have e : spec k = ⟨T.ps, T.rs, T.ev tyt tbl k⟩ := congrArg (FnSpec.mk _ _) (funext fun x => ((e k (T.run tyt tbl k) x.1 x.2).trans (by rw [q3]; rfl)).symm)
  rw [e]
  exact h
end spec_l1Stands

namespace spec_l27Good
/-! ### spec_l27Good: function 54 -/
def m (k : Nat) (a0_0 a0_1 : ByteArray) : Option (Bool) := (if ¬ a0_0 = (⟨#[]⟩ : ByteArray) then ((spec_l27Plain.f k a0_0 160).bind fun r1 => (cond r1 ((spec_l1Stands.f k a0_0 64).bind fun r2 => (cond (!r2) ((spec_l27Plain.f k a0_1 200).bind fun r3 => (some r3)) (some false))) (some false))) else (some false))
def f (k : Nat) (a0_0 a0_1 : ByteArray) : Option (Bool) := m k a0_0 a0_1
noncomputable def spec (k : Nat) : FnSpec := ⟨[.ag [.d .str none, .d .str none]], [.d .bool none], fun x => f k x.1 x.2⟩
noncomputable def T : FnText := ⟨(conv [] (bodyOf Tryd.f54) 0).1, Tryd.f54.results.toList, 22, [], [.ag [.d .str none, .d .str none]], [.d .bool none]⟩
noncomputable def tbl (k : Nat) : Tbl := [(64, spec_l27Plain.spec k), (65, spec_l1Stands.spec k)]
theorem e (k : Nat) (o : Nat → St → Option (Bool)) (a0_0 a0_1 : ByteArray) : T.main tyt (tbl k) o (a0_0, a0_1) = m k a0_0 a0_1 := by kernel_rfl
theorem ok : T.ok = true := by kernel_rfl
theorem tblok (k : Nat) : TblOk Tryd.prog (tbl k) := TblOk.cons (spec_l27Plain.sound k) (TblOk.cons (spec_l1Stands.sound k) (TblOk.nil _))
theorem sound (k : Nat) : Sound Tryd.prog 54 (spec k) := by
  have h := fn_ok (F := T) (tbl := tbl) mixed tyok Tryd.func54 (by kernel_rfl) (c0 := bodyOf Tryd.f54) rfl (conv_code _ _ _) rfl rfl ok k (fun j _ => tblok j)
  have e : spec k = ⟨T.ps, T.rs, T.ev tyt tbl k⟩ := congrArg (FnSpec.mk _ _) (funext fun x => ((e k (T.run tyt tbl k) x.1 x.2).trans (by rfl)).symm)
  rw [e]
  exact h
end spec_l27Good

namespace spec_l1Sum
/-! ### spec_l1Sum: function 76 -/
def b4 (o4 : ByteArray → Int → Int → Option (Int)) (k : Nat) (x0_4 : ByteArray) (x1_4 x2_4 : Int) : Option (Int) := (if x2_4 < (x0_4.size : Int) then ((chk x0_4.size x2_4).bind fun i1 => ((rem (w64 ((w64 ((w64 (41 * x1_4)) + (w64 ((byteAt x0_4 i1))))) + 1)) 999979).bind fun q2 => (o4 x0_4 q2 (w64 (x2_4 + 1))))) else (some x1_4))
def l4 : Nat → ByteArray → Int → Int → Option (Int)
  | 0, _, _, _ => none
  | k + 1, x0_4, x1_4, x2_4 => b4 (spec_l1Sum.l4 k) k x0_4 x1_4 x2_4
def m (o4 : ByteArray → Int → Int → Option (Int)) (k : Nat) (a0 : ByteArray) : Option (Int) := (o4 a0 7 0)
def f (k : Nat) (a0 : ByteArray) : Option (Int) := m (spec_l1Sum.l4 k) k a0
noncomputable def spec (k : Nat) : FnSpec := ⟨[.d .str none], [.d (.int .i64) none], fun x => f k x⟩
def S4 (x0_4 : ByteArray) (x1_4 x2_4 : Int) : St := ⟨[(0, .val .str x0_4), (3, .val (.int .i64) x1_4), (4, .val (.int .i64) x2_4)], [], 1000⟩
noncomputable def T : FnText := ⟨(conv [] (bodyOf Tryd.f76) 0).1, Tryd.f76.results.toList, 21, [(4, [(0, .rd .str), (3, .rd (.int .i64)), (4, .rd (.int .i64))])], [.d .str none], [.d (.int .i64) none]⟩
noncomputable def tbl (k : Nat) : Tbl := []
theorem e4 (k : Nat) (o : Nat → St → Option (Int)) (x0_4 : ByteArray) (x1_4 x2_4 : Int) : T.step tyt (tbl k) o 4 (S4 x0_4 x1_4 x2_4) = b4 (fun x0_4 x1_4 x2_4 => o 4 (S4 x0_4 x1_4 x2_4)) k x0_4 x1_4 x2_4 := by kernel_rfl
theorem e (k : Nat) (o : Nat → St → Option (Int)) (a0 : ByteArray) : T.main tyt (tbl k) o a0 = m (fun x0_4 x1_4 x2_4 => o 4 (S4 x0_4 x1_4 x2_4)) k a0 := by kernel_rfl
theorem ok : T.ok = true := by kernel_rfl
theorem run (k : Nat) : (∀ (x0_4 : ByteArray) (x1_4 x2_4 : Int), T.run tyt tbl k 4 (S4 x0_4 x1_4 x2_4) = spec_l1Sum.l4 k x0_4 x1_4 x2_4) := by
  induction k with
  | zero => exact fun x0_4 x1_4 x2_4 => rfl
  | succ k ih =>
    exact fun x0_4 x1_4 x2_4 => by
      have q4 : (fun x0_4 x1_4 x2_4 => T.run tyt tbl k 4 (S4 x0_4 x1_4 x2_4)) = spec_l1Sum.l4 k := by funext x0_4 x1_4 x2_4; exact ih x0_4 x1_4 x2_4
      exact (e4 k (T.run tyt tbl k) x0_4 x1_4 x2_4).trans (by rw [q4]; rfl)
theorem tblok (k : Nat) : TblOk Tryd.prog (tbl k) := TblOk.nil _
theorem sound (k : Nat) : Sound Tryd.prog 76 (spec k) := by
  have h := fn_ok (F := T) (tbl := tbl) mixed tyok Tryd.func76 (by kernel_rfl) (c0 := bodyOf Tryd.f76) rfl (conv_code _ _ _) rfl rfl ok k (fun j _ => tblok j)
  have q4 : (fun x0_4 x1_4 x2_4 => T.run tyt tbl k 4 (S4 x0_4 x1_4 x2_4)) = spec_l1Sum.l4 k := by funext x0_4 x1_4 x2_4; exact (run k) x0_4 x1_4 x2_4
  have e : spec k = ⟨T.ps, T.rs, T.ev tyt tbl k⟩ := congrArg (FnSpec.mk _ _) (funext fun x => ((e k (T.run tyt tbl k) x).trans (by rw [q4]; rfl)).symm)
  rw [e]
  exact h
end spec_l1Sum

namespace spec_l1Seal
/-! ### spec_l1Seal: function 66 -/
def m (k : Nat) (a0 : ByteArray) : Option (ByteArray) := ((catS a0 (⟨#[35]⟩ : ByteArray)).bind fun s1 => ((spec_l1Sum.f k a0).bind fun r2 => ((spec_l1Num.f k r2).bind fun r3 => ((catS s1 r3).bind fun s4 => (some s4)))))
def f (k : Nat) (a0 : ByteArray) : Option (ByteArray) := m k a0
noncomputable def spec (k : Nat) : FnSpec := ⟨[.d .str none], [.d .str none], fun x => f k x⟩
noncomputable def T : FnText := ⟨(conv [] (bodyOf Tryd.f66) 0).1, Tryd.f66.results.toList, 9, [], [.d .str none], [.d .str none]⟩
noncomputable def tbl (k : Nat) : Tbl := [(76, spec_l1Sum.spec k), (21, spec_l1Num.spec k)]
theorem e (k : Nat) (o : Nat → St → Option (ByteArray)) (a0 : ByteArray) : T.main tyt (tbl k) o a0 = m k a0 := by kernel_rfl
theorem ok : T.ok = true := by kernel_rfl
theorem tblok (k : Nat) : TblOk Tryd.prog (tbl k) := TblOk.cons (spec_l1Sum.sound k) (TblOk.cons (spec_l1Num.sound k) (TblOk.nil _))
theorem sound (k : Nat) : Sound Tryd.prog 66 (spec k) := by
  have h := fn_ok (F := T) (tbl := tbl) mixed tyok Tryd.func66 (by kernel_rfl) (c0 := bodyOf Tryd.f66) rfl (conv_code _ _ _) rfl rfl ok k (fun j _ => tblok j)
  have e : spec k = ⟨T.ps, T.rs, T.ev tyt tbl k⟩ := congrArg (FnSpec.mk _ _) (funext fun x => ((e k (T.run tyt tbl k) x).trans (by rfl)).symm)
  rw [e]
  exact h
end spec_l1Seal

namespace spec_l27Line
/-! ### spec_l27Line: function 55 -/
def m (k : Nat) (a0 : Int) (a1_0 a1_1 : ByteArray) : Option (ByteArray) := ((spec_l1Num.f k a0).bind fun r1 => ((catS r1 (⟨#[32]⟩ : ByteArray)).bind fun s2 => ((catS s2 a1_0).bind fun s3 => ((catS s3 (⟨#[64]⟩ : ByteArray)).bind fun s4 => ((catS s4 a1_1).bind fun s5 => ((spec_l1Seal.f k s5).bind fun r6 => ((catS r6 (⟨#[10]⟩ : ByteArray)).bind fun s7 => (some s7))))))))
def f (k : Nat) (a0 : Int) (a1_0 a1_1 : ByteArray) : Option (ByteArray) := m k a0 a1_0 a1_1
noncomputable def spec (k : Nat) : FnSpec := ⟨[.d (.int .i64) none, .ag [.d .str none, .d .str none]], [.d .str none], fun x => f k x.1 x.2.1 x.2.2⟩
noncomputable def T : FnText := ⟨(conv [] (bodyOf Tryd.f55) 0).1, Tryd.f55.results.toList, 17, [], [.d (.int .i64) none, .ag [.d .str none, .d .str none]], [.d .str none]⟩
noncomputable def tbl (k : Nat) : Tbl := [(21, spec_l1Num.spec k), (66, spec_l1Seal.spec k)]
theorem e (k : Nat) (o : Nat → St → Option (ByteArray)) (a0 : Int) (a1_0 a1_1 : ByteArray) : T.main tyt (tbl k) o (a0, a1_0, a1_1) = m k a0 a1_0 a1_1 := by kernel_rfl
theorem ok : T.ok = true := by kernel_rfl
theorem tblok (k : Nat) : TblOk Tryd.prog (tbl k) := TblOk.cons (spec_l1Num.sound k) (TblOk.cons (spec_l1Seal.sound k) (TblOk.nil _))
theorem sound (k : Nat) : Sound Tryd.prog 55 (spec k) := by
  have h := fn_ok (F := T) (tbl := tbl) mixed tyok Tryd.func55 (by kernel_rfl) (c0 := bodyOf Tryd.f55) rfl (conv_code _ _ _) rfl rfl ok k (fun j _ => tblok j)
  have e : spec k = ⟨T.ps, T.rs, T.ev tyt tbl k⟩ := congrArg (FnSpec.mk _ _) (funext fun x => ((e k (T.run tyt tbl k) x.1 x.2.1 x.2.2).trans (by rfl)).symm)
  rw [e]
  exact h
end spec_l27Line

namespace spec_l27Read
/-! ### spec_l27Read: function 51 -/
def m (k : Nat) (a0 : ByteArray) (a1 : Int) : Option (ByteArray × ByteArray × Bool) := ((spec_l1Num.f k a1).bind fun r1 => ((catS r1 (⟨#[32]⟩ : ByteArray)).bind fun s2 => ((spec_l1Split.f k a0 35).bind fun r3 => ((chk r3.length 0).bind fun i4 => (if ((r3.getD i4 ByteArray.empty).size : Int) < (s2.size : Int) then (some (ByteArray.empty, ByteArray.empty, false)) else ((cutTo ((r3.getD i4 ByteArray.empty).size) (s2.size : Int)).bind fun m6 => (if ¬ ((r3.getD i4 ByteArray.empty).extract 0 m6) = s2 then (some (ByteArray.empty, ByteArray.empty, false)) else ((cut ((r3.getD i4 ByteArray.empty).size) (s2.size : Int) ((r3.getD i4 ByteArray.empty).size : Int)).bind fun c7 => ((spec_l1Split.f k ((r3.getD i4 ByteArray.empty).extract c7.1 (c7.1 + c7.2)) 64).bind fun r8 => ((chk r8.length 0).bind fun i9 => (if ((r8.getD i9 ByteArray.empty).size : Int) = (((r3.getD i4 ByteArray.empty).extract c7.1 (c7.1 + c7.2)).size : Int) then (some (ByteArray.empty, ByteArray.empty, false)) else ((cut (((r3.getD i4 ByteArray.empty).extract c7.1 (c7.1 + c7.2)).size) (w64 (((r8.getD i9 ByteArray.empty).size : Int) + 1)) (((r3.getD i4 ByteArray.empty).extract c7.1 (c7.1 + c7.2)).size : Int)).bind fun c10 => ((spec_l27Good.f k (r8.getD i9 ByteArray.empty) (((r3.getD i4 ByteArray.empty).extract c7.1 (c7.1 + c7.2)).extract c10.1 (c10.1 + c10.2))).bind fun r11 => (cond r11 ((spec_l27Line.f k a1 (r8.getD i9 ByteArray.empty) (((r3.getD i4 ByteArray.empty).extract c7.1 (c7.1 + c7.2)).extract c10.1 (c10.1 + c10.2))).bind fun r12 => ((catS a0 (⟨#[10]⟩ : ByteArray)).bind fun s13 => (some ((r8.getD i9 ByteArray.empty), (((r3.getD i4 ByteArray.empty).extract c7.1 (c7.1 + c7.2)).extract c10.1 (c10.1 + c10.2)), (decide (r12 = s13)))))) (some ((r8.getD i9 ByteArray.empty), (((r3.getD i4 ByteArray.empty).extract c7.1 (c7.1 + c7.2)).extract c10.1 (c10.1 + c10.2)), false))))))))))))))))
def f (k : Nat) (a0 : ByteArray) (a1 : Int) : Option (ByteArray × ByteArray × Bool) := m k a0 a1
noncomputable def spec (k : Nat) : FnSpec := ⟨[.d .str none, .d (.int .i64) none], [.ag [.d .str none, .d .str none], .d .bool none], fun x => f k x.1 x.2⟩
noncomputable def T : FnText := ⟨(conv [] (bodyOf Tryd.f51) 0).1, Tryd.f51.results.toList, 64, [], [.d .str none, .d (.int .i64) none], [.ag [.d .str none, .d .str none], .d .bool none]⟩
noncomputable def tbl (k : Nat) : Tbl := [(21, spec_l1Num.spec k), (50, spec_l1Split.spec k), (54, spec_l27Good.spec k), (55, spec_l27Line.spec k)]
theorem e (k : Nat) (o : Nat → St → Option (ByteArray × ByteArray × Bool)) (a0 : ByteArray) (a1 : Int) : T.main tyt (tbl k) o (a0, a1) = m k a0 a1 := by kernel_rfl
theorem ok : T.ok = true := by kernel_rfl
theorem tblok (k : Nat) : TblOk Tryd.prog (tbl k) := TblOk.cons (spec_l1Num.sound k) (TblOk.cons (spec_l1Split.sound k) (TblOk.cons (spec_l27Good.sound k) (TblOk.cons (spec_l27Line.sound k) (TblOk.nil _))))
theorem sound (k : Nat) : Sound Tryd.prog 51 (spec k) := by
  have h := fn_ok (F := T) (tbl := tbl) mixed tyok Tryd.func51 (by kernel_rfl) (c0 := bodyOf Tryd.f51) rfl (conv_code _ _ _) rfl rfl ok k (fun j _ => tblok j)
  have e : spec k = ⟨T.ps, T.rs, T.ev tyt tbl k⟩ := congrArg (FnSpec.mk _ _) (funext fun x => ((e k (T.run tyt tbl k) x.1 x.2).trans (by rfl)).symm)
  rw [e]
  exact h
end spec_l27Read

namespace spec_l27Open
/-! ### spec_l27Open: function 42 -/
def b4 (o4 : ByteArray → (List (ByteArray × ByteArray)) → Int → Option (List (ByteArray × ByteArray) × Int)) (k : Nat) (x0_4 : ByteArray) (l1_4 : List (ByteArray × ByteArray)) (x2_4 : Int) : Option (List (ByteArray × ByteArray) × Int) := (if x2_4 < (x0_4.size : Int) then (if (l1_4.length : Int) < 60 then ((cut x0_4.size x2_4 (x0_4.size : Int)).bind fun c1 => ((spec_l1Split.f k (x0_4.extract c1.1 (c1.1 + c1.2)) 10).bind fun r2 => ((chk r2.length 0).bind fun i3 => ((spec_l27Read.f k (r2.getD i3 ByteArray.empty) (l1_4.length : Int)).bind fun r4 => (if (r2.length : Int) < 2 then (some (l1_4, x2_4)) else (cond (!r4.2.2) (some (l1_4, x2_4)) ((app 4398046511104 l1_4 [(r4.1, r4.2.1)]).bind fun l5 => ((chk r2.length 0).bind fun i6 => (o4 x0_4 l5 (w64 ((w64 (x2_4 + ((r2.getD i6 ByteArray.empty).size : Int))) + 1))))))))))) else (some (l1_4, x2_4))) else (some (l1_4, x2_4)))
def l4 : Nat → ByteArray → (List (ByteArray × ByteArray)) → Int → Option (List (ByteArray × ByteArray) × Int)
  | 0, _, _, _ => none
  | k + 1, x0_4, l1_4, x2_4 => b4 (spec_l27Open.l4 k) k x0_4 l1_4 x2_4
def m (o4 : ByteArray → (List (ByteArray × ByteArray)) → Int → Option (List (ByteArray × ByteArray) × Int)) (k : Nat) (a0 : ByteArray) : Option (List (ByteArray × ByteArray) × Int) := (o4 a0 ([] : List (ByteArray × ByteArray)) 0)
def f (k : Nat) (a0 : ByteArray) : Option (List (ByteArray × ByteArray) × Int) := m (spec_l27Open.l4 k) k a0
noncomputable def spec (k : Nat) : FnSpec := ⟨[.d .str none], [.d (.sl (.pair .str .str)) (some 91), .d (.int .i64) none], fun x => f k x⟩
def S4 (x0_4 : ByteArray) (l1_4 : List (ByteArray × ByteArray)) (x2_4 : Int) : St := ⟨[(0, .val .str x0_4), (4, .ref 100), (5, .val (.int .i64) x2_4)], [(100, some (.row 91 (.pair .str .str) l1_4))], 1000⟩
noncomputable def T : FnText := ⟨(conv [] (bodyOf Tryd.f42) 0).1, Tryd.f42.results.toList, 52, [(4, [(0, .rd .str), (4, .own 91 (.pair .str .str) 100), (5, .rd (.int .i64))])], [.d .str none], [.d (.sl (.pair .str .str)) (some 91), .d (.int .i64) none]⟩
noncomputable def tbl (k : Nat) : Tbl := [(50, spec_l1Split.spec k), (51, spec_l27Read.spec k)]
theorem e4 (k : Nat) (o : Nat → St → Option (List (ByteArray × ByteArray) × Int)) (x0_4 : ByteArray) (l1_4 : List (ByteArray × ByteArray)) (x2_4 : Int) : T.step tyt (tbl k) o 4 (S4 x0_4 l1_4 x2_4) = b4 (fun x0_4 l1_4 x2_4 => o 4 (S4 x0_4 l1_4 x2_4)) k x0_4 l1_4 x2_4 := by kernel_rfl
theorem e (k : Nat) (o : Nat → St → Option (List (ByteArray × ByteArray) × Int)) (a0 : ByteArray) : T.main tyt (tbl k) o a0 = m (fun x0_4 l1_4 x2_4 => o 4 (S4 x0_4 l1_4 x2_4)) k a0 := by kernel_rfl
theorem ok : T.ok = true := by kernel_rfl
theorem run (k : Nat) : (∀ (x0_4 : ByteArray) (l1_4 : List (ByteArray × ByteArray)) (x2_4 : Int), T.run tyt tbl k 4 (S4 x0_4 l1_4 x2_4) = spec_l27Open.l4 k x0_4 l1_4 x2_4) := by
  induction k with
  | zero => exact fun x0_4 l1_4 x2_4 => rfl
  | succ k ih =>
    exact fun x0_4 l1_4 x2_4 => by
      have q4 : (fun x0_4 l1_4 x2_4 => T.run tyt tbl k 4 (S4 x0_4 l1_4 x2_4)) = spec_l27Open.l4 k := by funext x0_4 l1_4 x2_4; exact ih x0_4 l1_4 x2_4
      exact (e4 k (T.run tyt tbl k) x0_4 l1_4 x2_4).trans (by rw [q4]; rfl)
theorem tblok (k : Nat) : TblOk Tryd.prog (tbl k) := TblOk.cons (spec_l1Split.sound k) (TblOk.cons (spec_l27Read.sound k) (TblOk.nil _))
theorem sound (k : Nat) : Sound Tryd.prog 42 (spec k) := by
  have h := fn_ok (F := T) (tbl := tbl) mixed tyok Tryd.func42 (by kernel_rfl) (c0 := bodyOf Tryd.f42) rfl (conv_code _ _ _) rfl rfl ok k (fun j _ => tblok j)
  have q4 : (fun x0_4 l1_4 x2_4 => T.run tyt tbl k 4 (S4 x0_4 l1_4 x2_4)) = spec_l27Open.l4 k := by funext x0_4 l1_4 x2_4; exact (run k) x0_4 l1_4 x2_4
  have e : spec k = ⟨T.ps, T.rs, T.ev tyt tbl k⟩ := congrArg (FnSpec.mk _ _) (funext fun x => ((e k (T.run tyt tbl k) x).trans (by rw [q4]; rfl)).symm)
  rw [e]
  exact h
end spec_l27Open

namespace spec_l27Log
/-! ### spec_l27Log: function 29 -/
def m (k : Nat) (a0_0 a0_1 : ByteArray) (a0_2 : Int) : Option (Bool) := (if 30000 < (w64 ((a0_0.size : Int) + (a0_1.size : Int))) then (some false) else ((catS a0_0 a0_1).bind fun s1 => ((spec_l27Open.f k s1).bind fun r2 => ((spec_l27Open.f k a0_0).bind fun r3 => (if r2.2 = (w64 ((a0_0.size : Int) + (a0_1.size : Int))) then (if r3.2 = (a0_0.size : Int) then (some (decide ((r2.1.length : Int) = a0_2))) else (some false)) else (some false))))))
def f (k : Nat) (a0_0 a0_1 : ByteArray) (a0_2 : Int) : Option (Bool) := m k a0_0 a0_1 a0_2
noncomputable def spec (k : Nat) : FnSpec := ⟨[.ag [.d .str none, .d .str none, .d (.int .i64) none]], [.d .bool none], fun x => f k x.1 x.2.1 x.2.2⟩
noncomputable def T : FnText := ⟨(conv [] (bodyOf Tryd.f29) 0).1, Tryd.f29.results.toList, 53, [], [.ag [.d .str none, .d .str none, .d (.int .i64) none]], [.d .bool none]⟩
noncomputable def tbl (k : Nat) : Tbl := [(42, spec_l27Open.spec k)]
theorem e (k : Nat) (o : Nat → St → Option (Bool)) (a0_0 a0_1 : ByteArray) (a0_2 : Int) : T.main tyt (tbl k) o (a0_0, a0_1, a0_2) = m k a0_0 a0_1 a0_2 := by kernel_rfl
theorem ok : T.ok = true := by kernel_rfl
theorem tblok (k : Nat) : TblOk Tryd.prog (tbl k) := TblOk.cons (spec_l27Open.sound k) (TblOk.nil _)
theorem sound (k : Nat) : Sound Tryd.prog 29 (spec k) := by
  have h := fn_ok (F := T) (tbl := tbl) mixed tyok Tryd.func29 (by kernel_rfl) (c0 := bodyOf Tryd.f29) rfl (conv_code _ _ _) rfl rfl ok k (fun j _ => tblok j)
  have e : spec k = ⟨T.ps, T.rs, T.ev tyt tbl k⟩ := congrArg (FnSpec.mk _ _) (funext fun x => ((e k (T.run tyt tbl k) x.1 x.2.1 x.2.2).trans (by rfl)).symm)
  rw [e]
  exact h
end spec_l27Log

namespace spec_l28Good
/-! ### spec_l28Good: function 14 -/
def m (k : Nat) (a0_0 a0_1 : Int) (l0_2 : List (Int × Int × Int × Int × Int)) (a0_3 : Int) (a0_4 a0_5 : ByteArray) (a0_6 : Int) : Option (Bool) := ((spec_l25Good.f k a0_0 a0_1 l0_2 a0_3).bind fun r1 => (cond r1 ((spec_l27Log.f k a0_4 a0_5 a0_6).bind fun r2 => (some r2)) (some false)))
def f (k : Nat) (a0_0 a0_1 : Int) (l0_2 : List (Int × Int × Int × Int × Int)) (a0_3 : Int) (a0_4 a0_5 : ByteArray) (a0_6 : Int) : Option (Bool) := m k a0_0 a0_1 l0_2 a0_3 a0_4 a0_5 a0_6
noncomputable def spec (k : Nat) : FnSpec := ⟨[.ag [.d (.int .i64) none, .d (.int .i64) none, .d (.sl (.pair (.int .i64) (.pair (.int .i64) (.pair (.int .i64) (.pair (.int .i64) (.int .i64)))))) none, .d (.int .i64) none, .d .str none, .d .str none, .d (.int .i64) none]], [.d .bool none], fun x => f k x.1 x.2.1 x.2.2.1 x.2.2.2.1 x.2.2.2.2.1 x.2.2.2.2.2.1 x.2.2.2.2.2.2⟩
noncomputable def T : FnText := ⟨(conv [] (bodyOf Tryd.f14) 0).1, Tryd.f14.results.toList, 11, [], [.ag [.d (.int .i64) none, .d (.int .i64) none, .d (.sl (.pair (.int .i64) (.pair (.int .i64) (.pair (.int .i64) (.pair (.int .i64) (.int .i64)))))) none, .d (.int .i64) none, .d .str none, .d .str none, .d (.int .i64) none]], [.d .bool none]⟩
noncomputable def tbl (k : Nat) : Tbl := [(28, spec_l25Good.spec k), (29, spec_l27Log.spec k)]
theorem e (k : Nat) (o : Nat → St → Option (Bool)) (a0_0 a0_1 : Int) (l0_2 : List (Int × Int × Int × Int × Int)) (a0_3 : Int) (a0_4 a0_5 : ByteArray) (a0_6 : Int) : T.main tyt (tbl k) o (a0_0, a0_1, l0_2, a0_3, a0_4, a0_5, a0_6) = m k a0_0 a0_1 l0_2 a0_3 a0_4 a0_5 a0_6 := by kernel_rfl
theorem ok : T.ok = true := by kernel_rfl
theorem tblok (k : Nat) : TblOk Tryd.prog (tbl k) := TblOk.cons (spec_l25Good.sound k) (TblOk.cons (spec_l27Log.sound k) (TblOk.nil _))
theorem sound (k : Nat) : Sound Tryd.prog 14 (spec k) := by
  have h := fn_ok (F := T) (tbl := tbl) mixed tyok Tryd.func14 (by kernel_rfl) (c0 := bodyOf Tryd.f14) rfl (conv_code _ _ _) rfl rfl ok k (fun j _ => tblok j)
  have e : spec k = ⟨T.ps, T.rs, T.ev tyt tbl k⟩ := congrArg (FnSpec.mk _ _) (funext fun x => ((e k (T.run tyt tbl k) x.1 x.2.1 x.2.2.1 x.2.2.2.1 x.2.2.2.2.1 x.2.2.2.2.2.1 x.2.2.2.2.2.2).trans (by rfl)).symm)
  rw [e]
  exact h
end spec_l28Good

namespace spec_l25Text
/-! ### spec_l25Text: function 22 -/
def m (k : Nat) (a0_0 a0_1 a0_2 a0_3 a0_4 : Int) : Option (ByteArray) := ((chk [(⟨#[119, 97, 105, 116, 115]⟩ : ByteArray), (⟨#[119, 111, 118, 101, 110]⟩ : ByteArray), (⟨#[111, 102, 102]⟩ : ByteArray), (⟨#[119, 97, 115, 104, 101, 100]⟩ : ByteArray), (⟨#[115, 111, 108, 100]⟩ : ByteArray)].length a0_2).bind fun i1 => ((catS ([(⟨#[119, 97, 105, 116, 115]⟩ : ByteArray), (⟨#[119, 111, 118, 101, 110]⟩ : ByteArray), (⟨#[111, 102, 102]⟩ : ByteArray), (⟨#[119, 97, 115, 104, 101, 100]⟩ : ByteArray), (⟨#[115, 111, 108, 100]⟩ : ByteArray)].getD i1 ByteArray.empty) (⟨#[32]⟩ : ByteArray)).bind fun s2 => ((spec_l1Num.f k a0_1).bind fun r3 => ((catS s2 r3).bind fun s4 => ((catS s4 (⟨#[47]⟩ : ByteArray)).bind fun s5 => ((spec_l1Num.f k a0_0).bind fun r6 => ((catS s5 r6).bind fun s7 => (if 0 < a0_3 then ((catS s7 (⟨#[32, 111, 110, 32]⟩ : ByteArray)).bind fun s8 => ((spec_l1Num.f k a0_3).bind fun r9 => ((catS s8 r9).bind fun s10 => (some s10)))) else (some s7)))))))))
def f (k : Nat) (a0_0 a0_1 a0_2 a0_3 a0_4 : Int) : Option (ByteArray) := m k a0_0 a0_1 a0_2 a0_3 a0_4
noncomputable def spec (k : Nat) : FnSpec := ⟨[.ag [.d (.int .i64) none, .d (.int .i64) none, .d (.int .i64) none, .d (.int .i64) none, .d (.int .i64) none]], [.d .str none], fun x => f k x.1 x.2.1 x.2.2.1 x.2.2.2.1 x.2.2.2.2⟩
noncomputable def T : FnText := ⟨(conv [] (bodyOf Tryd.f22) 0).1, Tryd.f22.results.toList, 29, [], [.ag [.d (.int .i64) none, .d (.int .i64) none, .d (.int .i64) none, .d (.int .i64) none, .d (.int .i64) none]], [.d .str none]⟩
noncomputable def tbl (k : Nat) : Tbl := [(21, spec_l1Num.spec k)]
theorem e (k : Nat) (o : Nat → St → Option (ByteArray)) (a0_0 a0_1 a0_2 a0_3 a0_4 : Int) : T.main tyt (tbl k) o (a0_0, a0_1, a0_2, a0_3, a0_4) = m k a0_0 a0_1 a0_2 a0_3 a0_4 := by kernel_rfl
theorem ok : T.ok = true := by kernel_rfl
theorem tblok (k : Nat) : TblOk Tryd.prog (tbl k) := TblOk.cons (spec_l1Num.sound k) (TblOk.nil _)
theorem sound (k : Nat) : Sound Tryd.prog 22 (spec k) := by
  have h := fn_ok (F := T) (tbl := tbl) mixed tyok Tryd.func22 (by kernel_rfl) (c0 := bodyOf Tryd.f22) rfl (conv_code _ _ _) rfl rfl ok k (fun j _ => tblok j)
  have e : spec k = ⟨T.ps, T.rs, T.ev tyt tbl k⟩ := congrArg (FnSpec.mk _ _) (funext fun x => ((e k (T.run tyt tbl k) x.1 x.2.1 x.2.2.1 x.2.2.2.1 x.2.2.2.2).trans (by rfl)).symm)
  rw [e]
  exact h
end spec_l25Text

namespace spec_FormatConsole
/-! ### spec_FormatConsole: function 10 -/
def b7 (o7 : Int → Int → (List (Int × Int × Int × Int × Int)) → Int → ByteArray → ByteArray → Int → ByteArray → Int → Option (ByteArray × Bool)) (k : Nat) (x0_7 x1_7 : Int) (l2_7 : List (Int × Int × Int × Int × Int)) (x3_7 : Int) (x4_7 x5_7 : ByteArray) (x6_7 : Int) (x7_7 : ByteArray) (x8_7 : Int) : Option (ByteArray × Bool) := (if x8_7 < (l2_7.length : Int) then ((spec_l1Num.f k x8_7).bind fun r2 => ((catS x7_7 r2).bind fun s3 => ((catS s3 (⟨#[58, 32]⟩ : ByteArray)).bind fun s4 => ((chk l2_7.length x8_7).bind fun i5 => ((spec_l25Text.f k ((l2_7.getD i5 (0, 0, 0, 0, 0)).1) (((l2_7.getD i5 (0, 0, 0, 0, 0)).2).1) ((((l2_7.getD i5 (0, 0, 0, 0, 0)).2).2).1) (((((l2_7.getD i5 (0, 0, 0, 0, 0)).2).2).2).1) (((((l2_7.getD i5 (0, 0, 0, 0, 0)).2).2).2).2)).bind fun r6 => ((catS s4 r6).bind fun s7 => ((catS s7 (⟨#[10]⟩ : ByteArray)).bind fun s8 => (o7 x0_7 x1_7 l2_7 x3_7 x4_7 x5_7 x6_7 s8 (w64 (x8_7 + 1)))))))))) else ((catS x7_7 (⟨#[100, 97, 121, 32]⟩ : ByteArray)).bind fun s9 => ((spec_l1Num.f k x0_7).bind fun r10 => ((catS s9 r10).bind fun s11 => ((catS s11 (⟨#[59, 32, 109, 111, 110, 101, 121, 32]⟩ : ByteArray)).bind fun s12 => ((spec_l1Num.f k x3_7).bind fun r13 => ((catS s12 r13).bind fun s14 => ((catS s14 (⟨#[59, 32, 114, 101, 99, 111, 114, 100, 115, 32]⟩ : ByteArray)).bind fun s15 => ((spec_l1Num.f k x6_7).bind fun r16 => ((catS s15 r16).bind fun s17 => ((catS s17 (⟨#[10]⟩ : ByteArray)).bind fun s18 => (some (s18, true)))))))))))))
def l7 : Nat → Int → Int → (List (Int × Int × Int × Int × Int)) → Int → ByteArray → ByteArray → Int → ByteArray → Int → Option (ByteArray × Bool)
  | 0, _, _, _, _, _, _, _, _, _ => none
  | k + 1, x0_7, x1_7, l2_7, x3_7, x4_7, x5_7, x6_7, x7_7, x8_7 => b7 (spec_FormatConsole.l7 k) k x0_7 x1_7 l2_7 x3_7 x4_7 x5_7 x6_7 x7_7 x8_7
def m (o7 : Int → Int → (List (Int × Int × Int × Int × Int)) → Int → ByteArray → ByteArray → Int → ByteArray → Int → Option (ByteArray × Bool)) (k : Nat) (a0_0 a0_1 : Int) (l0_2 : List (Int × Int × Int × Int × Int)) (a0_3 : Int) (a0_4 a0_5 : ByteArray) (a0_6 : Int) : Option (ByteArray × Bool) := ((spec_l28Good.f k a0_0 a0_1 l0_2 a0_3 a0_4 a0_5 a0_6).bind fun r1 => (cond (!r1) (some ((⟨#[]⟩ : ByteArray), false)) (o7 a0_0 a0_1 l0_2 a0_3 a0_4 a0_5 a0_6 (⟨#[]⟩ : ByteArray) 0)))
def f (k : Nat) (a0_0 a0_1 : Int) (l0_2 : List (Int × Int × Int × Int × Int)) (a0_3 : Int) (a0_4 a0_5 : ByteArray) (a0_6 : Int) : Option (ByteArray × Bool) := m (spec_FormatConsole.l7 k) k a0_0 a0_1 l0_2 a0_3 a0_4 a0_5 a0_6
noncomputable def spec (k : Nat) : FnSpec := ⟨[.ag [.d (.int .i64) none, .d (.int .i64) none, .d (.sl (.pair (.int .i64) (.pair (.int .i64) (.pair (.int .i64) (.pair (.int .i64) (.int .i64)))))) none, .d (.int .i64) none, .d .str none, .d .str none, .d (.int .i64) none]], [.d .str none, .d .bool none], fun x => f k x.1 x.2.1 x.2.2.1 x.2.2.2.1 x.2.2.2.2.1 x.2.2.2.2.2.1 x.2.2.2.2.2.2⟩
def S7 (x0_7 x1_7 : Int) (l2_7 : List (Int × Int × Int × Int × Int)) (x3_7 : Int) (x4_7 x5_7 : ByteArray) (x6_7 : Int) (x7_7 : ByteArray) (x8_7 : Int) : St := ⟨[(1, .ptr 100 0), (4, .val .str x7_7), (5, .val (.int .i64) x8_7)], [(100, some (.box [.val (.int .i64) x0_7, .val (.int .i64) x1_7, .val (.sl (.pair (.int .i64) (.pair (.int .i64) (.pair (.int .i64) (.pair (.int .i64) (.int .i64)))))) l2_7, .val (.int .i64) x3_7, .val .str x4_7, .val .str x5_7, .val (.int .i64) x6_7]))], 1000⟩
noncomputable def T : FnText := ⟨(conv [] (bodyOf Tryd.f10) 0).1, Tryd.f10.results.toList, 51, [(7, [(1, .bx 100 [.rd (.int .i64), .rd (.int .i64), .rd (.sl (.pair (.int .i64) (.pair (.int .i64) (.pair (.int .i64) (.pair (.int .i64) (.int .i64)))))), .rd (.int .i64), .rd .str, .rd .str, .rd (.int .i64)]), (4, .rd .str), (5, .rd (.int .i64))])], [.ag [.d (.int .i64) none, .d (.int .i64) none, .d (.sl (.pair (.int .i64) (.pair (.int .i64) (.pair (.int .i64) (.pair (.int .i64) (.int .i64)))))) none, .d (.int .i64) none, .d .str none, .d .str none, .d (.int .i64) none]], [.d .str none, .d .bool none]⟩
noncomputable def tbl (k : Nat) : Tbl := [(14, spec_l28Good.spec k), (21, spec_l1Num.spec k), (22, spec_l25Text.spec k)]
theorem e7 (k : Nat) (o : Nat → St → Option (ByteArray × Bool)) (x0_7 x1_7 : Int) (l2_7 : List (Int × Int × Int × Int × Int)) (x3_7 : Int) (x4_7 x5_7 : ByteArray) (x6_7 : Int) (x7_7 : ByteArray) (x8_7 : Int) : T.step tyt (tbl k) o 7 (S7 x0_7 x1_7 l2_7 x3_7 x4_7 x5_7 x6_7 x7_7 x8_7) = b7 (fun x0_7 x1_7 l2_7 x3_7 x4_7 x5_7 x6_7 x7_7 x8_7 => o 7 (S7 x0_7 x1_7 l2_7 x3_7 x4_7 x5_7 x6_7 x7_7 x8_7)) k x0_7 x1_7 l2_7 x3_7 x4_7 x5_7 x6_7 x7_7 x8_7 := by kernel_rfl
theorem e (k : Nat) (o : Nat → St → Option (ByteArray × Bool)) (a0_0 a0_1 : Int) (l0_2 : List (Int × Int × Int × Int × Int)) (a0_3 : Int) (a0_4 a0_5 : ByteArray) (a0_6 : Int) : T.main tyt (tbl k) o (a0_0, a0_1, l0_2, a0_3, a0_4, a0_5, a0_6) = m (fun x0_7 x1_7 l2_7 x3_7 x4_7 x5_7 x6_7 x7_7 x8_7 => o 7 (S7 x0_7 x1_7 l2_7 x3_7 x4_7 x5_7 x6_7 x7_7 x8_7)) k a0_0 a0_1 l0_2 a0_3 a0_4 a0_5 a0_6 := by kernel_rfl
theorem ok : T.ok = true := by kernel_rfl
theorem run (k : Nat) : (∀ (x0_7 x1_7 : Int) (l2_7 : List (Int × Int × Int × Int × Int)) (x3_7 : Int) (x4_7 x5_7 : ByteArray) (x6_7 : Int) (x7_7 : ByteArray) (x8_7 : Int), T.run tyt tbl k 7 (S7 x0_7 x1_7 l2_7 x3_7 x4_7 x5_7 x6_7 x7_7 x8_7) = spec_FormatConsole.l7 k x0_7 x1_7 l2_7 x3_7 x4_7 x5_7 x6_7 x7_7 x8_7) := by
  induction k with
  | zero => exact fun x0_7 x1_7 l2_7 x3_7 x4_7 x5_7 x6_7 x7_7 x8_7 => rfl
  | succ k ih =>
    exact fun x0_7 x1_7 l2_7 x3_7 x4_7 x5_7 x6_7 x7_7 x8_7 => by
      have q7 : (fun x0_7 x1_7 l2_7 x3_7 x4_7 x5_7 x6_7 x7_7 x8_7 => T.run tyt tbl k 7 (S7 x0_7 x1_7 l2_7 x3_7 x4_7 x5_7 x6_7 x7_7 x8_7)) = spec_FormatConsole.l7 k := by funext x0_7 x1_7 l2_7 x3_7 x4_7 x5_7 x6_7 x7_7 x8_7; exact ih x0_7 x1_7 l2_7 x3_7 x4_7 x5_7 x6_7 x7_7 x8_7
      exact (e7 k (T.run tyt tbl k) x0_7 x1_7 l2_7 x3_7 x4_7 x5_7 x6_7 x7_7 x8_7).trans (by rw [q7]; rfl)
theorem tblok (k : Nat) : TblOk Tryd.prog (tbl k) := TblOk.cons (spec_l28Good.sound k) (TblOk.cons (spec_l1Num.sound k) (TblOk.cons (spec_l25Text.sound k) (TblOk.nil _)))
theorem sound (k : Nat) : Sound Tryd.prog 10 (spec k) := by
  have h := fn_ok (F := T) (tbl := tbl) mixed tyok Tryd.func10 (by kernel_rfl) (c0 := bodyOf Tryd.f10) rfl (conv_code _ _ _) rfl rfl ok k (fun j _ => tblok j)
  have q7 : (fun x0_7 x1_7 l2_7 x3_7 x4_7 x5_7 x6_7 x7_7 x8_7 => T.run tyt tbl k 7 (S7 x0_7 x1_7 l2_7 x3_7 x4_7 x5_7 x6_7 x7_7 x8_7)) = spec_FormatConsole.l7 k := by funext x0_7 x1_7 l2_7 x3_7 x4_7 x5_7 x6_7 x7_7 x8_7; exact (run k) x0_7 x1_7 l2_7 x3_7 x4_7 x5_7 x6_7 x7_7 x8_7
  have e : spec k = ⟨T.ps, T.rs, T.ev tyt tbl k⟩ := congrArg (FnSpec.mk _ _) (funext fun x => ((e k (T.run tyt tbl k) x.1 x.2.1 x.2.2.1 x.2.2.2.1 x.2.2.2.2.1 x.2.2.2.2.2.1 x.2.2.2.2.2.2).trans (by rw [q7]; rfl)).symm)
  rw [e]
  exact h
end spec_FormatConsole

namespace impl_in
/-! ### impl_in: function 32 -/
def m (k : Nat) (a0 a1 a2 : Int) : Option (Bool) := (if a1 ≤ a0 then (some (decide (a0 ≤ a2))) else (some false))
def f (k : Nat) (a0 a1 a2 : Int) : Option (Bool) := m k a0 a1 a2
noncomputable def spec (k : Nat) : FnSpec := ⟨[.d (.int .i64) none, .d (.int .i64) none, .d (.int .i64) none], [.d .bool none], fun x => f k x.1 x.2.1 x.2.2⟩
noncomputable def T : FnText := ⟨(conv [] (bodyOf Tryd.f32) 0).1, Tryd.f32.results.toList, 15, [], [.d (.int .i64) none, .d (.int .i64) none, .d (.int .i64) none], [.d .bool none]⟩
noncomputable def tbl (k : Nat) : Tbl := []
theorem e (k : Nat) (o : Nat → St → Option (Bool)) (a0 a1 a2 : Int) : T.main tyt (tbl k) o (a0, a1, a2) = m k a0 a1 a2 := by kernel_rfl
theorem ok : T.ok = true := by kernel_rfl
theorem tblok (k : Nat) : TblOk Tryd.prog (tbl k) := TblOk.nil _
theorem sound (k : Nat) : Sound Tryd.prog 32 (spec k) := by
  have h := fn_ok (F := T) (tbl := tbl) mixed tyok Tryd.func32 (by kernel_rfl) (c0 := bodyOf Tryd.f32) rfl (conv_code _ _ _) rfl rfl ok k (fun j _ => tblok j)
  have e : spec k = ⟨T.ps, T.rs, T.ev tyt tbl k⟩ := congrArg (FnSpec.mk _ _) (funext fun x => ((e k (T.run tyt tbl k) x.1 x.2.1 x.2.2).trans (by rfl)).symm)
  rw [e]
  exact h
end impl_in

namespace impl_isDay
/-! ### impl_isDay: function 31 -/
def m (k : Nat) (a0 : Int) : Option (Bool) := ((impl_in.f k a0 0 4000).bind fun r1 => (some r1))
def f (k : Nat) (a0 : Int) : Option (Bool) := m k a0
noncomputable def spec (k : Nat) : FnSpec := ⟨[.d (.int .i64) none], [.d .bool none], fun x => f k x⟩
noncomputable def T : FnText := ⟨(conv [] (bodyOf Tryd.f31) 0).1, Tryd.f31.results.toList, 5, [], [.d (.int .i64) none], [.d .bool none]⟩
noncomputable def tbl (k : Nat) : Tbl := [(32, impl_in.spec k)]
theorem e (k : Nat) (o : Nat → St → Option (Bool)) (a0 : Int) : T.main tyt (tbl k) o a0 = m k a0 := by kernel_rfl
theorem ok : T.ok = true := by kernel_rfl
theorem tblok (k : Nat) : TblOk Tryd.prog (tbl k) := TblOk.cons (impl_in.sound k) (TblOk.nil _)
theorem sound (k : Nat) : Sound Tryd.prog 31 (spec k) := by
  have h := fn_ok (F := T) (tbl := tbl) mixed tyok Tryd.func31 (by kernel_rfl) (c0 := bodyOf Tryd.f31) rfl (conv_code _ _ _) rfl rfl ok k (fun j _ => tblok j)
  have e : spec k = ⟨T.ps, T.rs, T.ev tyt tbl k⟩ := congrArg (FnSpec.mk _ _) (funext fun x => ((e k (T.run tyt tbl k) x).trans (by rfl)).symm)
  rw [e]
  exact h
end impl_isDay

namespace impl_Shop_isCarpet
/-! ### impl_Shop_isCarpet: function 33 -/
def m (k : Nat) (a0_0 a0_1 : Int) (l0_2 : List (Int × Int × Int × Int × Int)) (a0_3 a1_0 a1_1 a1_2 a1_3 a1_4 : Int) : Option (Bool) := ((impl_in.f k a1_0 1 500).bind fun r1 => (cond (!r1) (some false) ((impl_in.f k a1_1 0 a1_0).bind fun r2 => (cond (!r2) (some false) ((impl_in.f k a1_2 0 4).bind fun r3 => (cond (!r3) (some false) ((impl_in.f k a1_4 0 a0_0).bind fun r4 => (cond (!r4) (some false) (if a1_2 = 0 then (if a1_1 = 0 then (some (decide (a1_3 = 0))) else (some false)) else (if a1_2 = 1 then ((impl_in.f k a1_3 1 a0_1).bind fun r5 => (some r5)) else (if a1_1 = a1_0 then (some (decide (a1_3 = 0))) else (some false))))))))))))
def f (k : Nat) (a0_0 a0_1 : Int) (l0_2 : List (Int × Int × Int × Int × Int)) (a0_3 a1_0 a1_1 a1_2 a1_3 a1_4 : Int) : Option (Bool) := m k a0_0 a0_1 l0_2 a0_3 a1_0 a1_1 a1_2 a1_3 a1_4
noncomputable def spec (k : Nat) : FnSpec := ⟨[.ag [.d (.int .i64) none, .d (.int .i64) none, .d (.sl (.pair (.int .i64) (.pair (.int .i64) (.pair (.int .i64) (.pair (.int .i64) (.int .i64)))))) none, .d (.int .i64) none], .ag [.d (.int .i64) none, .d (.int .i64) none, .d (.int .i64) none, .d (.int .i64) none, .d (.int .i64) none]], [.d .bool none], fun x => f k x.1 x.2.1 x.2.2.1 x.2.2.2.1 x.2.2.2.2.1 x.2.2.2.2.2.1 x.2.2.2.2.2.2.1 x.2.2.2.2.2.2.2.1 x.2.2.2.2.2.2.2.2⟩
noncomputable def T : FnText := ⟨(conv [] (bodyOf Tryd.f33) 0).1, Tryd.f33.results.toList, 60, [], [.ag [.d (.int .i64) none, .d (.int .i64) none, .d (.sl (.pair (.int .i64) (.pair (.int .i64) (.pair (.int .i64) (.pair (.int .i64) (.int .i64)))))) none, .d (.int .i64) none], .ag [.d (.int .i64) none, .d (.int .i64) none, .d (.int .i64) none, .d (.int .i64) none, .d (.int .i64) none]], [.d .bool none]⟩
noncomputable def tbl (k : Nat) : Tbl := [(32, impl_in.spec k)]
theorem e (k : Nat) (o : Nat → St → Option (Bool)) (a0_0 a0_1 : Int) (l0_2 : List (Int × Int × Int × Int × Int)) (a0_3 a1_0 a1_1 a1_2 a1_3 a1_4 : Int) : T.main tyt (tbl k) o (a0_0, a0_1, l0_2, a0_3, a1_0, a1_1, a1_2, a1_3, a1_4) = m k a0_0 a0_1 l0_2 a0_3 a1_0 a1_1 a1_2 a1_3 a1_4 := by kernel_rfl
theorem ok : T.ok = true := by kernel_rfl
theorem tblok (k : Nat) : TblOk Tryd.prog (tbl k) := TblOk.cons (impl_in.sound k) (TblOk.nil _)
theorem sound (k : Nat) : Sound Tryd.prog 33 (spec k) := by
  have h := fn_ok (F := T) (tbl := tbl) mixed tyok Tryd.func33 (by kernel_rfl) (c0 := bodyOf Tryd.f33) rfl (conv_code _ _ _) rfl rfl ok k (fun j _ => tblok j)
  have e : spec k = ⟨T.ps, T.rs, T.ev tyt tbl k⟩ := congrArg (FnSpec.mk _ _) (funext fun x => ((e k (T.run tyt tbl k) x.1 x.2.1 x.2.2.1 x.2.2.2.1 x.2.2.2.2.1 x.2.2.2.2.2.1 x.2.2.2.2.2.2.1 x.2.2.2.2.2.2.2.1 x.2.2.2.2.2.2.2.2).trans (by rfl)).symm)
  rw [e]
  exact h
end impl_Shop_isCarpet

namespace impl_Shop_onLoom_1
/-! ### impl_Shop_onLoom_1: function 45 -/
def m (k : Nat) (a0_0 a0_1 a0_2 a0_3 a0_4 a1_0 : Int) : Option (Bool) := (if a0_2 = 1 then (some (decide (a0_3 = a1_0))) else (some false))
def f (k : Nat) (a0_0 a0_1 a0_2 a0_3 a0_4 a1_0 : Int) : Option (Bool) := m k a0_0 a0_1 a0_2 a0_3 a0_4 a1_0
noncomputable def spec (k : Nat) : FnSpec := ⟨[.ag [.d (.int .i64) none, .d (.int .i64) none, .d (.int .i64) none, .d (.int .i64) none, .d (.int .i64) none], .rb [.d (.int .i64) none]], [.d .bool none], fun x => f k x.1 x.2.1 x.2.2.1 x.2.2.2.1 x.2.2.2.2.1 x.2.2.2.2.2⟩
noncomputable def T : FnText := ⟨(conv [] (bodyOf Tryd.f45) 0).1, Tryd.f45.results.toList, 13, [], [.ag [.d (.int .i64) none, .d (.int .i64) none, .d (.int .i64) none, .d (.int .i64) none, .d (.int .i64) none], .rb [.d (.int .i64) none]], [.d .bool none]⟩
noncomputable def tbl (k : Nat) : Tbl := []
theorem e (k : Nat) (o : Nat → St → Option (Bool)) (a0_0 a0_1 a0_2 a0_3 a0_4 a1_0 : Int) : T.main tyt (tbl k) o (a0_0, a0_1, a0_2, a0_3, a0_4, a1_0) = m k a0_0 a0_1 a0_2 a0_3 a0_4 a1_0 := by kernel_rfl
theorem ok : T.ok = true := by kernel_rfl
theorem tblok (k : Nat) : TblOk Tryd.prog (tbl k) := TblOk.nil _
theorem sound (k : Nat) : Sound Tryd.prog 45 (spec k) := by
  have h := fn_ok (F := T) (tbl := tbl) mixed tyok Tryd.func45 (by kernel_rfl) (c0 := bodyOf Tryd.f45) rfl (conv_code _ _ _) rfl rfl ok k (fun j _ => tblok j)
  have e : spec k = ⟨T.ps, T.rs, T.ev tyt tbl k⟩ := congrArg (FnSpec.mk _ _) (funext fun x => ((e k (T.run tyt tbl k) x.1 x.2.1 x.2.2.1 x.2.2.2.1 x.2.2.2.2.1 x.2.2.2.2.2).trans (by rfl)).symm)
  rw [e]
  exact h
end impl_Shop_onLoom_1

namespace slices_IndexFunc_impl_Carpet_impl_Carpet__impl_Shop_onLoom_1
/-! ### slices_IndexFunc_impl_Carpet_impl_Carpet__impl_Shop_onLoom_1: function 44 -/
def b3 (o3 : (List (Int × Int × Int × Int × Int)) → Int → Int → Int → Option (Int)) (k : Nat) (l0_3 : List (Int × Int × Int × Int × Int)) (x1_3 x2_3 x3_3 : Int) : Option (Int) := (if x3_3 < x2_3 then ((chk l0_3.length x3_3).bind fun i1 => ((impl_Shop_onLoom_1.f k ((l0_3.getD i1 (0, 0, 0, 0, 0)).1) (((l0_3.getD i1 (0, 0, 0, 0, 0)).2).1) ((((l0_3.getD i1 (0, 0, 0, 0, 0)).2).2).1) (((((l0_3.getD i1 (0, 0, 0, 0, 0)).2).2).2).1) (((((l0_3.getD i1 (0, 0, 0, 0, 0)).2).2).2).2) x1_3).bind fun r2 => (cond r2 (some x3_3) (o3 l0_3 x1_3 x2_3 (w64 (x3_3 + 1)))))) else (some (-1)))
def l3 : Nat → (List (Int × Int × Int × Int × Int)) → Int → Int → Int → Option (Int)
  | 0, _, _, _, _ => none
  | k + 1, l0_3, x1_3, x2_3, x3_3 => b3 (slices_IndexFunc_impl_Carpet_impl_Carpet__impl_Shop_onLoom_1.l3 k) k l0_3 x1_3 x2_3 x3_3
def m (o3 : (List (Int × Int × Int × Int × Int)) → Int → Int → Int → Option (Int)) (k : Nat) (l0 : List (Int × Int × Int × Int × Int)) (a1_0_0 : Int) : Option (Int) := (o3 l0 a1_0_0 (l0.length : Int) 0)
def f (k : Nat) (l0 : List (Int × Int × Int × Int × Int)) (a1_0_0 : Int) : Option (Int) := m (slices_IndexFunc_impl_Carpet_impl_Carpet__impl_Shop_onLoom_1.l3 k) k l0 a1_0_0
noncomputable def spec (k : Nat) : FnSpec := ⟨[.d (.sl (.pair (.int .i64) (.pair (.int .i64) (.pair (.int .i64) (.pair (.int .i64) (.int .i64)))))) none, .fv 45 [] [.rb [.d (.int .i64) none]]], [.d (.int .i64) none], fun x => f k x.1 x.2⟩
def S3 (l0_3 : List (Int × Int × Int × Int × Int)) (x1_3 x2_3 x3_3 : Int) : St := ⟨[(0, .val (.sl (.pair (.int .i64) (.pair (.int .i64) (.pair (.int .i64) (.pair (.int .i64) (.int .i64)))))) l0_3), (1, .fn 45 [] [.cptr [.val (.int .i64) x1_3] 0]), (7, .val (.int .i64) x2_3), (8, .val (.int .i64) x3_3)], [], 1000⟩
noncomputable def T : FnText := ⟨(conv [] (bodyOf Tryd.f44) 0).1, Tryd.f44.results.toList, 19, [(3, [(0, .rd (.sl (.pair (.int .i64) (.pair (.int .i64) (.pair (.int .i64) (.pair (.int .i64) (.int .i64))))))), (1, .as), (7, .rd (.int .i64)), (8, .rd (.int .i64))])], [.d (.sl (.pair (.int .i64) (.pair (.int .i64) (.pair (.int .i64) (.pair (.int .i64) (.int .i64)))))) none, .fv 45 [] [.rb [.d (.int .i64) none]]], [.d (.int .i64) none]⟩
noncomputable def tbl (k : Nat) : Tbl := [(45, impl_Shop_onLoom_1.spec k)]
theorem e3 (k : Nat) (o : Nat → St → Option (Int)) (l0_3 : List (Int × Int × Int × Int × Int)) (x1_3 x2_3 x3_3 : Int) : T.step tyt (tbl k) o 3 (S3 l0_3 x1_3 x2_3 x3_3) = b3 (fun l0_3 x1_3 x2_3 x3_3 => o 3 (S3 l0_3 x1_3 x2_3 x3_3)) k l0_3 x1_3 x2_3 x3_3 := by kernel_rfl
theorem e (k : Nat) (o : Nat → St → Option (Int)) (l0 : List (Int × Int × Int × Int × Int)) (a1_0_0 : Int) : T.main tyt (tbl k) o (l0, a1_0_0) = m (fun l0_3 x1_3 x2_3 x3_3 => o 3 (S3 l0_3 x1_3 x2_3 x3_3)) k l0 a1_0_0 := by kernel_rfl
theorem ok : T.ok = true := by kernel_rfl
theorem run (k : Nat) : (∀ (l0_3 : List (Int × Int × Int × Int × Int)) (x1_3 x2_3 x3_3 : Int), T.run tyt tbl k 3 (S3 l0_3 x1_3 x2_3 x3_3) = slices_IndexFunc_impl_Carpet_impl_Carpet__impl_Shop_onLoom_1.l3 k l0_3 x1_3 x2_3 x3_3) := by
  induction k with
  | zero => exact fun l0_3 x1_3 x2_3 x3_3 => rfl
  | succ k ih =>
    exact fun l0_3 x1_3 x2_3 x3_3 => by
      have q3 : (fun l0_3 x1_3 x2_3 x3_3 => T.run tyt tbl k 3 (S3 l0_3 x1_3 x2_3 x3_3)) = slices_IndexFunc_impl_Carpet_impl_Carpet__impl_Shop_onLoom_1.l3 k := by funext l0_3 x1_3 x2_3 x3_3; exact ih l0_3 x1_3 x2_3 x3_3
      exact (e3 k (T.run tyt tbl k) l0_3 x1_3 x2_3 x3_3).trans (by rw [q3]; rfl)
theorem tblok (k : Nat) : TblOk Tryd.prog (tbl k) := TblOk.cons (impl_Shop_onLoom_1.sound k) (TblOk.nil _)
theorem sound (k : Nat) : Sound Tryd.prog 44 (spec k) := by
  have h := fn_ok (F := T) (tbl := tbl) mixed tyok Tryd.func44 (by kernel_rfl) (c0 := bodyOf Tryd.f44) rfl (conv_code _ _ _) rfl rfl ok k (fun j _ => tblok j)
  have q3 : (fun l0_3 x1_3 x2_3 x3_3 => T.run tyt tbl k 3 (S3 l0_3 x1_3 x2_3 x3_3)) = slices_IndexFunc_impl_Carpet_impl_Carpet__impl_Shop_onLoom_1.l3 k := by funext l0_3 x1_3 x2_3 x3_3; exact (run k) l0_3 x1_3 x2_3 x3_3
  have e : spec k = ⟨T.ps, T.rs, T.ev tyt tbl k⟩ := congrArg (FnSpec.mk _ _) (funext fun x => ((e k (T.run tyt tbl k) x.1 x.2).trans (by rw [q3]; rfl)).symm)
  rw [e]
  exact h
end slices_IndexFunc_impl_Carpet_impl_Carpet__impl_Shop_onLoom_1

namespace impl_Shop_onLoom
/-! ### impl_Shop_onLoom: function 34 -/
def m (k : Nat) (a0_0 a0_1 : Int) (l0_2 : List (Int × Int × Int × Int × Int)) (a0_3 a1 : Int) : Option (Int) := ((slices_IndexFunc_impl_Carpet_impl_Carpet__impl_Shop_onLoom_1.f k l0_2 a1).bind fun r1 => (some r1))
def f (k : Nat) (a0_0 a0_1 : Int) (l0_2 : List (Int × Int × Int × Int × Int)) (a0_3 a1 : Int) : Option (Int) := m k a0_0 a0_1 l0_2 a0_3 a1
noncomputable def spec (k : Nat) : FnSpec := ⟨[.ag [.d (.int .i64) none, .d (.int .i64) none, .d (.sl (.pair (.int .i64) (.pair (.int .i64) (.pair (.int .i64) (.pair (.int .i64) (.int .i64)))))) none, .d (.int .i64) none], .d (.int .i64) none], [.d (.int .i64) none], fun x => f k x.1 x.2.1 x.2.2.1 x.2.2.2.1 x.2.2.2.2⟩
noncomputable def T : FnText := ⟨(conv [] (bodyOf Tryd.f34) 0).1, Tryd.f34.results.toList, 9, [], [.ag [.d (.int .i64) none, .d (.int .i64) none, .d (.sl (.pair (.int .i64) (.pair (.int .i64) (.pair (.int .i64) (.pair (.int .i64) (.int .i64)))))) none, .d (.int .i64) none], .d (.int .i64) none], [.d (.int .i64) none]⟩
noncomputable def tbl (k : Nat) : Tbl := [(44, slices_IndexFunc_impl_Carpet_impl_Carpet__impl_Shop_onLoom_1.spec k)]
theorem e (k : Nat) (o : Nat → St → Option (Int)) (a0_0 a0_1 : Int) (l0_2 : List (Int × Int × Int × Int × Int)) (a0_3 a1 : Int) : T.main tyt (tbl k) o (a0_0, a0_1, l0_2, a0_3, a1) = m k a0_0 a0_1 l0_2 a0_3 a1 := by kernel_rfl
theorem ok : T.ok = true := by kernel_rfl
theorem tblok (k : Nat) : TblOk Tryd.prog (tbl k) := TblOk.cons (slices_IndexFunc_impl_Carpet_impl_Carpet__impl_Shop_onLoom_1.sound k) (TblOk.nil _)
theorem sound (k : Nat) : Sound Tryd.prog 34 (spec k) := by
  have h := fn_ok (F := T) (tbl := tbl) mixed tyok Tryd.func34 (by kernel_rfl) (c0 := bodyOf Tryd.f34) rfl (conv_code _ _ _) rfl rfl ok k (fun j _ => tblok j)
  have e : spec k = ⟨T.ps, T.rs, T.ev tyt tbl k⟩ := congrArg (FnSpec.mk _ _) (funext fun x => ((e k (T.run tyt tbl k) x.1 x.2.1 x.2.2.1 x.2.2.2.1 x.2.2.2.2).trans (by rfl)).symm)
  rw [e]
  exact h
end impl_Shop_onLoom

namespace impl_IsShop
/-! ### impl_IsShop: function 17 -/
def b6 (o6 : Int → Int → (List (Int × Int × Int × Int × Int)) → Int → (List (Int × Int × Int × Int × Int)) → Int → Int → Option (Bool)) (k : Nat) (x0_6 x1_6 : Int) (l2_6 : List (Int × Int × Int × Int × Int)) (x3_6 : Int) (l4_6 : List (Int × Int × Int × Int × Int)) (x5_6 x6_6 : Int) : Option (Bool) := (if x6_6 < x5_6 then ((chk l4_6.length x6_6).bind fun i4 => ((impl_Shop_isCarpet.f k x0_6 x1_6 l2_6 x3_6 ((l4_6.getD i4 (0, 0, 0, 0, 0)).1) (((l4_6.getD i4 (0, 0, 0, 0, 0)).2).1) ((((l4_6.getD i4 (0, 0, 0, 0, 0)).2).2).1) (((((l4_6.getD i4 (0, 0, 0, 0, 0)).2).2).2).1) (((((l4_6.getD i4 (0, 0, 0, 0, 0)).2).2).2).2)).bind fun r5 => (cond (!r5) (some false) (if ((((l4_6.getD i4 (0, 0, 0, 0, 0)).2).2).1) = 1 then ((impl_Shop_onLoom.f k x0_6 x1_6 l2_6 x3_6 (((((l4_6.getD i4 (0, 0, 0, 0, 0)).2).2).2).1)).bind fun r6 => (if ¬ r6 = x6_6 then (some false) else (o6 x0_6 x1_6 l2_6 x3_6 l4_6 x5_6 (w64 (x6_6 + 1))))) else (o6 x0_6 x1_6 l2_6 x3_6 l4_6 x5_6 (w64 (x6_6 + 1))))))) else (some true))
def l6 : Nat → Int → Int → (List (Int × Int × Int × Int × Int)) → Int → (List (Int × Int × Int × Int × Int)) → Int → Int → Option (Bool)
  | 0, _, _, _, _, _, _, _ => none
  | k + 1, x0_6, x1_6, l2_6, x3_6, l4_6, x5_6, x6_6 => b6 (impl_IsShop.l6 k) k x0_6 x1_6 l2_6 x3_6 l4_6 x5_6 x6_6
def m (o6 : Int → Int → (List (Int × Int × Int × Int × Int)) → Int → (List (Int × Int × Int × Int × Int)) → Int → Int → Option (Bool)) (k : Nat) (a0_0 a0_1 : Int) (l0_2 : List (Int × Int × Int × Int × Int)) (a0_3 : Int) : Option (Bool) := ((impl_isDay.f k a0_0).bind fun r1 => (cond (!r1) (some false) ((impl_in.f k a0_1 1 4).bind fun r2 => (cond (!r2) (some false) (if 8 < (l0_2.length : Int) then (some false) else ((impl_in.f k a0_3 0 1000000).bind fun r3 => (cond (!r3) (some false) (o6 a0_0 a0_1 l0_2 a0_3 l0_2 (l0_2.length : Int) 0))))))))
def f (k : Nat) (a0_0 a0_1 : Int) (l0_2 : List (Int × Int × Int × Int × Int)) (a0_3 : Int) : Option (Bool) := m (impl_IsShop.l6 k) k a0_0 a0_1 l0_2 a0_3
noncomputable def spec (k : Nat) : FnSpec := ⟨[.ag [.d (.int .i64) none, .d (.int .i64) none, .d (.sl (.pair (.int .i64) (.pair (.int .i64) (.pair (.int .i64) (.pair (.int .i64) (.int .i64)))))) none, .d (.int .i64) none]], [.d .bool none], fun x => f k x.1 x.2.1 x.2.2.1 x.2.2.2⟩
def S6 (x0_6 x1_6 : Int) (l2_6 : List (Int × Int × Int × Int × Int)) (x3_6 : Int) (l4_6 : List (Int × Int × Int × Int × Int)) (x5_6 x6_6 : Int) : St := ⟨[(1, .ptr 100 0), (28, .val (.sl (.pair (.int .i64) (.pair (.int .i64) (.pair (.int .i64) (.pair (.int .i64) (.int .i64)))))) l4_6), (29, .val (.int .i64) x5_6), (30, .val (.int .i64) x6_6)], [(100, some (.box [.val (.int .i64) x0_6, .val (.int .i64) x1_6, .val (.sl (.pair (.int .i64) (.pair (.int .i64) (.pair (.int .i64) (.pair (.int .i64) (.int .i64)))))) l2_6, .val (.int .i64) x3_6]))], 1000⟩
noncomputable def T : FnText := ⟨(conv [] (bodyOf Tryd.f17) 0).1, Tryd.f17.results.toList, 53, [(6, [(1, .bx 100 [.rd (.int .i64), .rd (.int .i64), .rd (.sl (.pair (.int .i64) (.pair (.int .i64) (.pair (.int .i64) (.pair (.int .i64) (.int .i64)))))), .rd (.int .i64)]), (28, .rd (.sl (.pair (.int .i64) (.pair (.int .i64) (.pair (.int .i64) (.pair (.int .i64) (.int .i64))))))), (29, .rd (.int .i64)), (30, .rd (.int .i64))])], [.ag [.d (.int .i64) none, .d (.int .i64) none, .d (.sl (.pair (.int .i64) (.pair (.int .i64) (.pair (.int .i64) (.pair (.int .i64) (.int .i64)))))) none, .d (.int .i64) none]], [.d .bool none]⟩
noncomputable def tbl (k : Nat) : Tbl := [(31, impl_isDay.spec k), (32, impl_in.spec k), (33, impl_Shop_isCarpet.spec k), (34, impl_Shop_onLoom.spec k)]
theorem e6 (k : Nat) (o : Nat → St → Option (Bool)) (x0_6 x1_6 : Int) (l2_6 : List (Int × Int × Int × Int × Int)) (x3_6 : Int) (l4_6 : List (Int × Int × Int × Int × Int)) (x5_6 x6_6 : Int) : T.step tyt (tbl k) o 6 (S6 x0_6 x1_6 l2_6 x3_6 l4_6 x5_6 x6_6) = b6 (fun x0_6 x1_6 l2_6 x3_6 l4_6 x5_6 x6_6 => o 6 (S6 x0_6 x1_6 l2_6 x3_6 l4_6 x5_6 x6_6)) k x0_6 x1_6 l2_6 x3_6 l4_6 x5_6 x6_6 := by kernel_rfl
theorem e (k : Nat) (o : Nat → St → Option (Bool)) (a0_0 a0_1 : Int) (l0_2 : List (Int × Int × Int × Int × Int)) (a0_3 : Int) : T.main tyt (tbl k) o (a0_0, a0_1, l0_2, a0_3) = m (fun x0_6 x1_6 l2_6 x3_6 l4_6 x5_6 x6_6 => o 6 (S6 x0_6 x1_6 l2_6 x3_6 l4_6 x5_6 x6_6)) k a0_0 a0_1 l0_2 a0_3 := by kernel_rfl
theorem ok : T.ok = true := by kernel_rfl
theorem run (k : Nat) : (∀ (x0_6 x1_6 : Int) (l2_6 : List (Int × Int × Int × Int × Int)) (x3_6 : Int) (l4_6 : List (Int × Int × Int × Int × Int)) (x5_6 x6_6 : Int), T.run tyt tbl k 6 (S6 x0_6 x1_6 l2_6 x3_6 l4_6 x5_6 x6_6) = impl_IsShop.l6 k x0_6 x1_6 l2_6 x3_6 l4_6 x5_6 x6_6) := by
  induction k with
  | zero => exact fun x0_6 x1_6 l2_6 x3_6 l4_6 x5_6 x6_6 => rfl
  | succ k ih =>
    exact fun x0_6 x1_6 l2_6 x3_6 l4_6 x5_6 x6_6 => by
      have q6 : (fun x0_6 x1_6 l2_6 x3_6 l4_6 x5_6 x6_6 => T.run tyt tbl k 6 (S6 x0_6 x1_6 l2_6 x3_6 l4_6 x5_6 x6_6)) = impl_IsShop.l6 k := by funext x0_6 x1_6 l2_6 x3_6 l4_6 x5_6 x6_6; exact ih x0_6 x1_6 l2_6 x3_6 l4_6 x5_6 x6_6
      exact (e6 k (T.run tyt tbl k) x0_6 x1_6 l2_6 x3_6 l4_6 x5_6 x6_6).trans (by rw [q6]; rfl)
theorem tblok (k : Nat) : TblOk Tryd.prog (tbl k) := TblOk.cons (impl_isDay.sound k) (TblOk.cons (impl_in.sound k) (TblOk.cons (impl_Shop_isCarpet.sound k) (TblOk.cons (impl_Shop_onLoom.sound k) (TblOk.nil _))))
theorem sound (k : Nat) : Sound Tryd.prog 17 (spec k) := by
  have h := fn_ok (F := T) (tbl := tbl) mixed tyok Tryd.func17 (by kernel_rfl) (c0 := bodyOf Tryd.f17) rfl (conv_code _ _ _) rfl rfl ok k (fun j _ => tblok j)
  have q6 : (fun x0_6 x1_6 l2_6 x3_6 l4_6 x5_6 x6_6 => T.run tyt tbl k 6 (S6 x0_6 x1_6 l2_6 x3_6 l4_6 x5_6 x6_6)) = impl_IsShop.l6 k := by funext x0_6 x1_6 l2_6 x3_6 l4_6 x5_6 x6_6; exact (run k) x0_6 x1_6 l2_6 x3_6 l4_6 x5_6 x6_6
  have e : spec k = ⟨T.ps, T.rs, T.ev tyt tbl k⟩ := congrArg (FnSpec.mk _ _) (funext fun x => ((e k (T.run tyt tbl k) x.1 x.2.1 x.2.2.1 x.2.2.2).trans (by rw [q6]; rfl)).symm)
  rw [e]
  exact h
end impl_IsShop

/-! ### strings_Cut: function 56, by its contract -/
def strings_Cut.f (k : Nat) (a0 : ByteArray) (a1 : ByteArray) : Option (ByteArray × ByteArray × Bool) := cutF a0 a1
noncomputable def strings_Cut.spec (k : Nat) : FnSpec := ⟨[.d .str none, .d .str none], [.d .str none, .d .str none, .d .bool none], fun x => strings_Cut.f k x.1 x.2⟩
theorem strings_Cut.sound (k : Nat) : Sound Go.Proofs.Tryd.prog 56 (strings_Cut.spec k) := strCut_ok

namespace impl_Checksum
/-! ### impl_Checksum: function 78 -/
def b7 (o7 : ByteArray → Int → Int → Int → Option (Int × Bool)) (k : Nat) (x0_7 : ByteArray) (x1_7 x2_7 x3_7 : Int) : Option (Int × Bool) := (if x3_7 < x2_7 then ((chk x0_7.size x3_7).bind fun i1 => ((rem (w64 ((w64 ((w64 (41 * x1_7)) + (w64 ((byteAt x0_7 i1))))) + 1)) 999979).bind fun q2 => (o7 x0_7 q2 x2_7 (w64 (x3_7 + 1))))) else (some (x1_7, true)))
def l7 : Nat → ByteArray → Int → Int → Int → Option (Int × Bool)
  | 0, _, _, _, _ => none
  | k + 1, x0_7, x1_7, x2_7, x3_7 => b7 (impl_Checksum.l7 k) k x0_7 x1_7 x2_7 x3_7
def m (o7 : ByteArray → Int → Int → Int → Option (Int × Bool)) (k : Nat) (a0 : ByteArray) : Option (Int × Bool) := (if 4000 < (a0.size : Int) then (some (0, false)) else (o7 a0 7 (a0.size : Int) 0))
def f (k : Nat) (a0 : ByteArray) : Option (Int × Bool) := m (impl_Checksum.l7 k) k a0
noncomputable def spec (k : Nat) : FnSpec := ⟨[.d .str none], [.d (.int .i64) none, .d .bool none], fun x => f k x⟩
def S7 (x0_7 : ByteArray) (x1_7 x2_7 x3_7 : Int) : St := ⟨[(0, .val .str x0_7), (4, .val (.int .i64) x1_7), (10, .val (.int .i64) x2_7), (11, .val (.int .i64) x3_7)], [], 1000⟩
noncomputable def T : FnText := ⟨(conv [] (bodyOf Tryd.f78) 0).1, Tryd.f78.results.toList, 25, [(7, [(0, .rd .str), (4, .rd (.int .i64)), (10, .rd (.int .i64)), (11, .rd (.int .i64))])], [.d .str none], [.d (.int .i64) none, .d .bool none]⟩
noncomputable def tbl (k : Nat) : Tbl := []
theorem e7 (k : Nat) (o : Nat → St → Option (Int × Bool)) (x0_7 : ByteArray) (x1_7 x2_7 x3_7 : Int) : T.step tyt (tbl k) o 7 (S7 x0_7 x1_7 x2_7 x3_7) = b7 (fun x0_7 x1_7 x2_7 x3_7 => o 7 (S7 x0_7 x1_7 x2_7 x3_7)) k x0_7 x1_7 x2_7 x3_7 := by kernel_rfl
theorem e (k : Nat) (o : Nat → St → Option (Int × Bool)) (a0 : ByteArray) : T.main tyt (tbl k) o a0 = m (fun x0_7 x1_7 x2_7 x3_7 => o 7 (S7 x0_7 x1_7 x2_7 x3_7)) k a0 := by kernel_rfl
theorem ok : T.ok = true := by kernel_rfl
theorem run (k : Nat) : (∀ (x0_7 : ByteArray) (x1_7 x2_7 x3_7 : Int), T.run tyt tbl k 7 (S7 x0_7 x1_7 x2_7 x3_7) = impl_Checksum.l7 k x0_7 x1_7 x2_7 x3_7) := by
  induction k with
  | zero => exact fun x0_7 x1_7 x2_7 x3_7 => rfl
  | succ k ih =>
    exact fun x0_7 x1_7 x2_7 x3_7 => by
      have q7 : (fun x0_7 x1_7 x2_7 x3_7 => T.run tyt tbl k 7 (S7 x0_7 x1_7 x2_7 x3_7)) = impl_Checksum.l7 k := by funext x0_7 x1_7 x2_7 x3_7; exact ih x0_7 x1_7 x2_7 x3_7
      exact (e7 k (T.run tyt tbl k) x0_7 x1_7 x2_7 x3_7).trans (by rw [q7]; rfl)
theorem tblok (k : Nat) : TblOk Tryd.prog (tbl k) := TblOk.nil _
theorem sound (k : Nat) : Sound Tryd.prog 78 (spec k) := by
  have h := fn_ok (F := T) (tbl := tbl) mixed tyok Tryd.func78 (by kernel_rfl) (c0 := bodyOf Tryd.f78) rfl (conv_code _ _ _) rfl rfl ok k (fun j _ => tblok j)
  have q7 : (fun x0_7 x1_7 x2_7 x3_7 => T.run tyt tbl k 7 (S7 x0_7 x1_7 x2_7 x3_7)) = impl_Checksum.l7 k := by funext x0_7 x1_7 x2_7 x3_7; exact (run k) x0_7 x1_7 x2_7 x3_7
  have e : spec k = ⟨T.ps, T.rs, T.ev tyt tbl k⟩ := congrArg (FnSpec.mk _ _) (funext fun x => ((e k (T.run tyt tbl k) x).trans (by rw [q7]; rfl)).symm)
  rw [e]
  exact h
end impl_Checksum

/-! ### strconv_Itoa: function 38, by its contract -/
def strconv_Itoa.f (k : Nat) (a0 : Int) : Option (ByteArray) := itoaF a0
noncomputable def strconv_Itoa.spec (k : Nat) : FnSpec := ⟨[.d (.int .i64) none], [.d .str none], fun x => strconv_Itoa.f k x⟩
theorem strconv_Itoa.sound (k : Nat) : Sound Go.Proofs.Tryd.prog 38 (strconv_Itoa.spec k) := strItoa_ok

namespace impl_decimal
/-! ### impl_decimal: function 25 -/
def m (k : Nat) (a0 : Int) : Option (ByteArray) := ((strconv_Itoa.f k a0).bind fun r1 => (some r1))
def f (k : Nat) (a0 : Int) : Option (ByteArray) := m k a0
noncomputable def spec (k : Nat) : FnSpec := ⟨[.d (.int .i64) none], [.d .str none], fun x => f k x⟩
noncomputable def T : FnText := ⟨(conv [] (bodyOf Tryd.f25) 0).1, Tryd.f25.results.toList, 5, [], [.d (.int .i64) none], [.d .str none]⟩
noncomputable def tbl (k : Nat) : Tbl := [(38, strconv_Itoa.spec k)]
theorem e (k : Nat) (o : Nat → St → Option (ByteArray)) (a0 : Int) : T.main tyt (tbl k) o a0 = m k a0 := by kernel_rfl
theorem ok : T.ok = true := by kernel_rfl
theorem tblok (k : Nat) : TblOk Tryd.prog (tbl k) := TblOk.cons (strconv_Itoa.sound k) (TblOk.nil _)
theorem sound (k : Nat) : Sound Tryd.prog 25 (spec k) := by
  have h := fn_ok (F := T) (tbl := tbl) mixed tyok Tryd.func25 (by kernel_rfl) (c0 := bodyOf Tryd.f25) rfl (conv_code _ _ _) rfl rfl ok k (fun j _ => tblok j)
  have e : spec k = ⟨T.ps, T.rs, T.ev tyt tbl k⟩ := congrArg (FnSpec.mk _ _) (funext fun x => ((e k (T.run tyt tbl k) x).trans (by rfl)).symm)
  rw [e]
  exact h
end impl_decimal

/-! ### strings_Contains: function 79, by its contract -/
def strings_Contains.f (k : Nat) (a0 : ByteArray) (a1 : ByteArray) : Option (Bool) := containsF a0 a1
noncomputable def strings_Contains.spec (k : Nat) : FnSpec := ⟨[.d .str none, .d .str none], [.d .bool none], fun x => strings_Contains.f k x.1 x.2⟩
theorem strings_Contains.sound (k : Nat) : Sound Go.Proofs.Tryd.prog 79 (strings_Contains.spec k) := strContains_ok

namespace impl_AppendChecksum
/-! ### impl_AppendChecksum: function 68 -/
def m (k : Nat) (a0 : ByteArray) : Option (ByteArray × Bool) := ((impl_Checksum.f k a0).bind fun r1 => ((catS a0 (⟨#[35]⟩ : ByteArray)).bind fun s2 => ((impl_decimal.f k r1.1).bind fun r3 => ((catS s2 r3).bind fun s4 => (cond (!r1.2) (some ((⟨#[]⟩ : ByteArray), false)) ((strings_Contains.f k a0 (⟨#[35]⟩ : ByteArray)).bind fun r5 => (cond r5 (some ((⟨#[]⟩ : ByteArray), false)) (if 4000 < (s4.size : Int) then (some ((⟨#[]⟩ : ByteArray), false)) else (some (s4, true))))))))))
def f (k : Nat) (a0 : ByteArray) : Option (ByteArray × Bool) := m k a0
noncomputable def spec (k : Nat) : FnSpec := ⟨[.d .str none], [.d .str none, .d .bool none], fun x => f k x⟩
noncomputable def T : FnText := ⟨(conv [] (bodyOf Tryd.f68) 0).1, Tryd.f68.results.toList, 29, [], [.d .str none], [.d .str none, .d .bool none]⟩
noncomputable def tbl (k : Nat) : Tbl := [(78, impl_Checksum.spec k), (25, impl_decimal.spec k), (79, strings_Contains.spec k)]
theorem e (k : Nat) (o : Nat → St → Option (ByteArray × Bool)) (a0 : ByteArray) : T.main tyt (tbl k) o a0 = m k a0 := by kernel_rfl
theorem ok : T.ok = true := by kernel_rfl
theorem tblok (k : Nat) : TblOk Tryd.prog (tbl k) := TblOk.cons (impl_Checksum.sound k) (TblOk.cons (impl_decimal.sound k) (TblOk.cons (strings_Contains.sound k) (TblOk.nil _)))
theorem sound (k : Nat) : Sound Tryd.prog 68 (spec k) := by
  have h := fn_ok (F := T) (tbl := tbl) mixed tyok Tryd.func68 (by kernel_rfl) (c0 := bodyOf Tryd.f68) rfl (conv_code _ _ _) rfl rfl ok k (fun j _ => tblok j)
  have e : spec k = ⟨T.ps, T.rs, T.ev tyt tbl k⟩ := congrArg (FnSpec.mk _ _) (funext fun x => ((e k (T.run tyt tbl k) x).trans (by rfl)).symm)
  rw [e]
  exact h
end impl_AppendChecksum

namespace impl_VerifyChecksum
/-! ### impl_VerifyChecksum: function 57 -/
def m (k : Nat) (a0 : ByteArray) : Option (ByteArray × Bool) := ((strings_Cut.f k a0 (⟨#[35]⟩ : ByteArray)).bind fun r1 => ((impl_AppendChecksum.f k r1.1).bind fun r2 => (cond (!r2.2) (some ((⟨#[]⟩ : ByteArray), false)) (if ¬ r2.1 = a0 then (some ((⟨#[]⟩ : ByteArray), false)) else (some (r1.1, true))))))
def f (k : Nat) (a0 : ByteArray) : Option (ByteArray × Bool) := m k a0
noncomputable def spec (k : Nat) : FnSpec := ⟨[.d .str none], [.d .str none, .d .bool none], fun x => f k x⟩
noncomputable def T : FnText := ⟨(conv [] (bodyOf Tryd.f57) 0).1, Tryd.f57.results.toList, 28, [], [.d .str none], [.d .str none, .d .bool none]⟩
noncomputable def tbl (k : Nat) : Tbl := [(56, strings_Cut.spec k), (68, impl_AppendChecksum.spec k)]
theorem e (k : Nat) (o : Nat → St → Option (ByteArray × Bool)) (a0 : ByteArray) : T.main tyt (tbl k) o a0 = m k a0 := by kernel_rfl
theorem ok : T.ok = true := by kernel_rfl
theorem tblok (k : Nat) : TblOk Tryd.prog (tbl k) := TblOk.cons (strings_Cut.sound k) (TblOk.cons (impl_AppendChecksum.sound k) (TblOk.nil _))
theorem sound (k : Nat) : Sound Tryd.prog 57 (spec k) := by
  have h := fn_ok (F := T) (tbl := tbl) mixed tyok Tryd.func57 (by kernel_rfl) (c0 := bodyOf Tryd.f57) rfl (conv_code _ _ _) rfl rfl ok k (fun j _ => tblok j)
  have e : spec k = ⟨T.ps, T.rs, T.ev tyt tbl k⟩ := congrArg (FnSpec.mk _ _) (funext fun x => ((e k (T.run tyt tbl k) x).trans (by rfl)).symm)
  rw [e]
  exact h
end impl_VerifyChecksum

namespace impl_isPlain_1
/-! ### impl_isPlain_1: function 89 -/
def m (k : Nat) (a0 : Int) : Option (Bool) := (if 32 ≤ a0 then (if a0 ≤ 126 then (some (decide (¬ a0 = 35))) else (some false)) else (some false))
def f (k : Nat) (a0 : Int) : Option (Bool) := m k a0
noncomputable def spec (k : Nat) : FnSpec := ⟨[.d (.int .u8) none], [.d .bool none], fun x => f k x⟩
noncomputable def T : FnText := ⟨(conv [] (bodyOf Tryd.f89) 0).1, Tryd.f89.results.toList, 13, [], [.d (.int .u8) none], [.d .bool none]⟩
noncomputable def tbl (k : Nat) : Tbl := []
theorem e (k : Nat) (o : Nat → St → Option (Bool)) (a0 : Int) : T.main tyt (tbl k) o a0 = m k a0 := by kernel_rfl
theorem ok : T.ok = true := by kernel_rfl
theorem tblok (k : Nat) : TblOk Tryd.prog (tbl k) := TblOk.nil _
theorem sound (k : Nat) : Sound Tryd.prog 89 (spec k) := by
  have h := fn_ok (F := T) (tbl := tbl) mixed tyok Tryd.func89 (by kernel_rfl) (c0 := bodyOf Tryd.f89) rfl (conv_code _ _ _) rfl rfl ok k (fun j _ => tblok j)
  have e : spec k = ⟨T.ps, T.rs, T.ev tyt tbl k⟩ := congrArg (FnSpec.mk _ _) (funext fun x => ((e k (T.run tyt tbl k) x).trans (by rfl)).symm)
  rw [e]
  exact h
end impl_isPlain_1

namespace impl_areAll_byte_1__impl_isPlain_1
/-! ### impl_areAll_byte_1__impl_isPlain_1: function 93 -/
def m (k : Nat) (a0 : Int) : Option (Bool) := ((impl_isPlain_1.f k a0).bind fun r1 => (some (!r1)))
def f (k : Nat) (a0 : Int) : Option (Bool) := m k a0
noncomputable def spec (k : Nat) : FnSpec := ⟨[.d (.int .u8) none, .rb [.fv 89 [] []]], [.d .bool none], fun x => f k x⟩
noncomputable def T : FnText := ⟨(conv [] (bodyOf Tryd.f93) 0).1, Tryd.f93.results.toList, 8, [], [.d (.int .u8) none, .rb [.fv 89 [] []]], [.d .bool none]⟩
noncomputable def tbl (k : Nat) : Tbl := [(89, impl_isPlain_1.spec k)]
theorem e (k : Nat) (o : Nat → St → Option (Bool)) (a0 : Int) : T.main tyt (tbl k) o a0 = m k a0 := by kernel_rfl
theorem ok : T.ok = true := by kernel_rfl
theorem tblok (k : Nat) : TblOk Tryd.prog (tbl k) := TblOk.cons (impl_isPlain_1.sound k) (TblOk.nil _)
theorem sound (k : Nat) : Sound Tryd.prog 93 (spec k) := by
  have h := fn_ok (F := T) (tbl := tbl) mixed tyok Tryd.func93 (by kernel_rfl) (c0 := bodyOf Tryd.f93) rfl (conv_code _ _ _) rfl rfl ok k (fun j _ => tblok j)
  have e : spec k = ⟨T.ps, T.rs, T.ev tyt tbl k⟩ := congrArg (FnSpec.mk _ _) (funext fun x => ((e k (T.run tyt tbl k) x).trans (by rfl)).symm)
  rw [e]
  exact h
end impl_areAll_byte_1__impl_isPlain_1

namespace slices_IndexFunc_byte_byte__impl_areAll_byte_1__impl_isPlain_1
/-! ### slices_IndexFunc_byte_byte__impl_areAll_byte_1__impl_isPlain_1: function 94 -/
def b3 (o3 : List Int → Int → Int → Option (Int)) (k : Nat) (l0_3 : List Int) (x1_3 x2_3 : Int) : Option (Int) := (if x2_3 < x1_3 then ((chk l0_3.length x2_3).bind fun i1 => ((impl_areAll_byte_1__impl_isPlain_1.f k (l0_3.getD i1 0)).bind fun r2 => (cond r2 (some x2_3) (o3 l0_3 x1_3 (w64 (x2_3 + 1)))))) else (some (-1)))
def l3 : Nat → List Int → Int → Int → Option (Int)
  | 0, _, _, _ => none
  | k + 1, l0_3, x1_3, x2_3 => b3 (slices_IndexFunc_byte_byte__impl_areAll_byte_1__impl_isPlain_1.l3 k) k l0_3 x1_3 x2_3
def m (o3 : List Int → Int → Int → Option (Int)) (k : Nat) (l0 : List Int) : Option (Int) := (o3 l0 (l0.length : Int) 0)
def f (k : Nat) (l0 : List Int) : Option (Int) := m (slices_IndexFunc_byte_byte__impl_areAll_byte_1__impl_isPlain_1.l3 k) k l0
noncomputable def spec (k : Nat) : FnSpec := ⟨[.d (.sl (.int .u8)) none, .fv 93 [] [.rb [.fv 89 [] []]]], [.d (.int .i64) none], fun x => f k x⟩
def S3 (l0_3 : List Int) (x1_3 x2_3 : Int) : St := ⟨[(0, .val (.sl (.int .u8)) l0_3), (1, .fn 93 [] [.cptr [.fn 89 [] []] 0]), (7, .val (.int .i64) x1_3), (8, .val (.int .i64) x2_3)], [], 1000⟩
noncomputable def T : FnText := ⟨(conv [] (bodyOf Tryd.f94) 0).1, Tryd.f94.results.toList, 19, [(3, [(0, .rd (.sl (.int .u8))), (1, .as), (7, .rd (.int .i64)), (8, .rd (.int .i64))])], [.d (.sl (.int .u8)) none, .fv 93 [] [.rb [.fv 89 [] []]]], [.d (.int .i64) none]⟩
noncomputable def tbl (k : Nat) : Tbl := [(93, impl_areAll_byte_1__impl_isPlain_1.spec k)]
theorem e3 (k : Nat) (o : Nat → St → Option (Int)) (l0_3 : List Int) (x1_3 x2_3 : Int) : T.step tyt (tbl k) o 3 (S3 l0_3 x1_3 x2_3) = b3 (fun l0_3 x1_3 x2_3 => o 3 (S3 l0_3 x1_3 x2_3)) k l0_3 x1_3 x2_3 := by kernel_rfl
theorem e (k : Nat) (o : Nat → St → Option (Int)) (l0 : List Int) : T.main tyt (tbl k) o l0 = m (fun l0_3 x1_3 x2_3 => o 3 (S3 l0_3 x1_3 x2_3)) k l0 := by kernel_rfl
theorem ok : T.ok = true := by kernel_rfl
theorem run (k : Nat) : (∀ (l0_3 : List Int) (x1_3 x2_3 : Int), T.run tyt tbl k 3 (S3 l0_3 x1_3 x2_3) = slices_IndexFunc_byte_byte__impl_areAll_byte_1__impl_isPlain_1.l3 k l0_3 x1_3 x2_3) := by
  induction k with
  | zero => exact fun l0_3 x1_3 x2_3 => rfl
  | succ k ih =>
    exact fun l0_3 x1_3 x2_3 => by
      have q3 : (fun l0_3 x1_3 x2_3 => T.run tyt tbl k 3 (S3 l0_3 x1_3 x2_3)) = slices_IndexFunc_byte_byte__impl_areAll_byte_1__impl_isPlain_1.l3 k := by funext l0_3 x1_3 x2_3; exact ih l0_3 x1_3 x2_3
      exact (e3 k (T.run tyt tbl k) l0_3 x1_3 x2_3).trans (by rw [q3]; rfl)
theorem tblok (k : Nat) : TblOk Tryd.prog (tbl k) := TblOk.cons (impl_areAll_byte_1__impl_isPlain_1.sound k) (TblOk.nil _)
theorem sound (k : Nat) : Sound Tryd.prog 94 (spec k) := by
  have h := fn_ok (F := T) (tbl := tbl) mixed tyok Tryd.func94 (by kernel_rfl) (c0 := bodyOf Tryd.f94) rfl (conv_code _ _ _) rfl rfl ok k (fun j _ => tblok j)
  have q3 : (fun l0_3 x1_3 x2_3 => T.run tyt tbl k 3 (S3 l0_3 x1_3 x2_3)) = slices_IndexFunc_byte_byte__impl_areAll_byte_1__impl_isPlain_1.l3 k := by funext l0_3 x1_3 x2_3; exact (run k) l0_3 x1_3 x2_3
  have e : spec k = ⟨T.ps, T.rs, T.ev tyt tbl k⟩ := congrArg (FnSpec.mk _ _) (funext fun x => ((e k (T.run tyt tbl k) x).trans (by rw [q3]; rfl)).symm)
  rw [e]
  exact h
end slices_IndexFunc_byte_byte__impl_areAll_byte_1__impl_isPlain_1

namespace slices_ContainsFunc_byte_byte__impl_areAll_byte_1__impl_isPlain_1
/-! ### slices_ContainsFunc_byte_byte__impl_areAll_byte_1__impl_isPlain_1: function 92 -/
def m (k : Nat) (l0 : List Int) : Option (Bool) := ((slices_IndexFunc_byte_byte__impl_areAll_byte_1__impl_isPlain_1.f k l0).bind fun r1 => (some (decide (0 ≤ r1))))
def f (k : Nat) (l0 : List Int) : Option (Bool) := m k l0
noncomputable def spec (k : Nat) : FnSpec := ⟨[.d (.sl (.int .u8)) none, .fv 93 [] [.rb [.fv 89 [] []]]], [.d .bool none], fun x => f k x⟩
noncomputable def T : FnText := ⟨(conv [] (bodyOf Tryd.f92) 0).1, Tryd.f92.results.toList, 9, [], [.d (.sl (.int .u8)) none, .fv 93 [] [.rb [.fv 89 [] []]]], [.d .bool none]⟩
noncomputable def tbl (k : Nat) : Tbl := [(94, slices_IndexFunc_byte_byte__impl_areAll_byte_1__impl_isPlain_1.spec k)]
theorem e (k : Nat) (o : Nat → St → Option (Bool)) (l0 : List Int) : T.main tyt (tbl k) o l0 = m k l0 := by kernel_rfl
theorem ok : T.ok = true := by kernel_rfl
theorem tblok (k : Nat) : TblOk Tryd.prog (tbl k) := TblOk.cons (slices_IndexFunc_byte_byte__impl_areAll_byte_1__impl_isPlain_1.sound k) (TblOk.nil _)
theorem sound (k : Nat) : Sound Tryd.prog 92 (spec k) := by
  have h := fn_ok (F := T) (tbl := tbl) mixed tyok Tryd.func92 (by kernel_rfl) (c0 := bodyOf Tryd.f92) rfl (conv_code _ _ _) rfl rfl ok k (fun j _ => tblok j)
  have e : spec k = ⟨T.ps, T.rs, T.ev tyt tbl k⟩ := congrArg (FnSpec.mk _ _) (funext fun x => ((e k (T.run tyt tbl k) x).trans (by rfl)).symm)
  rw [e]
  exact h
end slices_ContainsFunc_byte_byte__impl_areAll_byte_1__impl_isPlain_1

namespace impl_areAll_byte__impl_isPlain_1
/-! ### impl_areAll_byte__impl_isPlain_1: function 88 -/
def m (k : Nat) (l0 : List Int) : Option (Bool) := ((slices_ContainsFunc_byte_byte__impl_areAll_byte_1__impl_isPlain_1.f k l0).bind fun r1 => (some (!r1)))
def f (k : Nat) (l0 : List Int) : Option (Bool) := m k l0
noncomputable def spec (k : Nat) : FnSpec := ⟨[.d (.sl (.int .u8)) none, .fv 89 [] []], [.d .bool none], fun x => f k x⟩
noncomputable def T : FnText := ⟨(conv [] (bodyOf Tryd.f88) 0).1, Tryd.f88.results.toList, 9, [], [.d (.sl (.int .u8)) none, .fv 89 [] []], [.d .bool none]⟩
noncomputable def tbl (k : Nat) : Tbl := [(92, slices_ContainsFunc_byte_byte__impl_areAll_byte_1__impl_isPlain_1.spec k)]
theorem e (k : Nat) (o : Nat → St → Option (Bool)) (l0 : List Int) : T.main tyt (tbl k) o l0 = m k l0 := by kernel_rfl
theorem ok : T.ok = true := by kernel_rfl
theorem tblok (k : Nat) : TblOk Tryd.prog (tbl k) := TblOk.cons (slices_ContainsFunc_byte_byte__impl_areAll_byte_1__impl_isPlain_1.sound k) (TblOk.nil _)
theorem sound (k : Nat) : Sound Tryd.prog 88 (spec k) := by
  have h := fn_ok (F := T) (tbl := tbl) mixed tyok Tryd.func88 (by kernel_rfl) (c0 := bodyOf Tryd.f88) rfl (conv_code _ _ _) rfl rfl ok k (fun j _ => tblok j)
  have e : spec k = ⟨T.ps, T.rs, T.ev tyt tbl k⟩ := congrArg (FnSpec.mk _ _) (funext fun x => ((e k (T.run tyt tbl k) x).trans (by rfl)).symm)
  rw [e]
  exact h
end impl_areAll_byte__impl_isPlain_1

namespace impl_isPlain
/-! ### impl_isPlain: function 80 -/
def m (k : Nat) (a0 : ByteArray) : Option (Bool) := ((impl_areAll_byte__impl_isPlain_1.f k (bytesOf a0)).bind fun r1 => (some r1))
def f (k : Nat) (a0 : ByteArray) : Option (Bool) := m k a0
noncomputable def spec (k : Nat) : FnSpec := ⟨[.d .str none], [.d .bool none], fun x => f k x⟩
noncomputable def T : FnText := ⟨(conv [] (bodyOf Tryd.f80) 0).1, Tryd.f80.results.toList, 6, [], [.d .str none], [.d .bool none]⟩
noncomputable def tbl (k : Nat) : Tbl := [(88, impl_areAll_byte__impl_isPlain_1.spec k)]
theorem e (k : Nat) (o : Nat → St → Option (Bool)) (a0 : ByteArray) : T.main tyt (tbl k) o a0 = m k a0 := by kernel_rfl
theorem ok : T.ok = true := by kernel_rfl
theorem tblok (k : Nat) : TblOk Tryd.prog (tbl k) := TblOk.cons (impl_areAll_byte__impl_isPlain_1.sound k) (TblOk.nil _)
theorem sound (k : Nat) : Sound Tryd.prog 80 (spec k) := by
  have h := fn_ok (F := T) (tbl := tbl) mixed tyok Tryd.func80 (by kernel_rfl) (c0 := bodyOf Tryd.f80) rfl (conv_code _ _ _) rfl rfl ok k (fun j _ => tblok j)
  have e : spec k = ⟨T.ps, T.rs, T.ev tyt tbl k⟩ := congrArg (FnSpec.mk _ _) (funext fun x => ((e k (T.run tyt tbl k) x).trans (by rfl)).symm)
  rw [e]
  exact h
end impl_isPlain

namespace impl_IsValidRecord
/-! ### impl_IsValidRecord: function 69 -/
def b1 (k : Nat) (x0_1 x1_1 : ByteArray) (x2_1 : Bool) : Option (Bool) := (cond x2_1 (if (x1_1.size : Int) ≤ 200 then ((impl_isPlain.f k x1_1).bind fun r4 => (some r4)) else (some false)) (some false))
def l1 : Nat → ByteArray → ByteArray → Bool → Option (Bool)
  | 0, _, _, _ => none
  | k + 1, x0_1, x1_1, x2_1 => b1 k x0_1 x1_1 x2_1
def m (o1 : ByteArray → ByteArray → Bool → Option (Bool)) (k : Nat) (a0_0 a0_1 : ByteArray) : Option (Bool) := ((impl_in.f k (a0_0.size : Int) 1 160).bind fun r1 => (cond r1 ((impl_isPlain.f k a0_0).bind fun r2 => (cond r2 ((strings_Contains.f k a0_0 (⟨#[64]⟩ : ByteArray)).bind fun r3 => (o1 a0_0 a0_1 (!r3))) (o1 a0_0 a0_1 false))) (o1 a0_0 a0_1 false)))
def f (k : Nat) (a0_0 a0_1 : ByteArray) : Option (Bool) := m (impl_IsValidRecord.l1 k) k a0_0 a0_1
noncomputable def spec (k : Nat) : FnSpec := ⟨[.ag [.d .str none, .d .str none]], [.d .bool none], fun x => f k x.1 x.2⟩
def S1 (x0_1 x1_1 : ByteArray) (x2_1 : Bool) : St := ⟨[(1, .ptr 100 0), (3, .val .bool x2_1)], [(100, some (.box [.val .str x0_1, .val .str x1_1]))], 1000⟩
noncomputable def T : FnText := ⟨(conv [1] (bodyOf Tryd.f69) 0).1, Tryd.f69.results.toList, 31, [(1, [(1, .bx 100 [.rd .str, .rd .str]), (3, .rd .bool)])], [.ag [.d .str none, .d .str none]], [.d .bool none]⟩
noncomputable def tbl (k : Nat) : Tbl := [(32, impl_in.spec k), (80, impl_isPlain.spec k), (79, strings_Contains.spec k)]
theorem e1 (k : Nat) (o : Nat → St → Option (Bool)) (x0_1 x1_1 : ByteArray) (x2_1 : Bool) : T.step tyt (tbl k) o 1 (S1 x0_1 x1_1 x2_1) = b1 k x0_1 x1_1 x2_1 := by kernel_rfl
theorem e (k : Nat) (o : Nat → St → Option (Bool)) (a0_0 a0_1 : ByteArray) : T.main tyt (tbl k) o (a0_0, a0_1) = m (fun x0_1 x1_1 x2_1 => o 1 (S1 x0_1 x1_1 x2_1)) k a0_0 a0_1 := by kernel_rfl
theorem ok : T.ok = true := by kernel_rfl
theorem run (k : Nat) : (∀ (x0_1 x1_1 : ByteArray) (x2_1 : Bool), T.run tyt tbl k 1 (S1 x0_1 x1_1 x2_1) = impl_IsValidRecord.l1 k x0_1 x1_1 x2_1) := by
  induction k with
  | zero => exact fun x0_1 x1_1 x2_1 => rfl
  | succ k ih =>
    exact fun x0_1 x1_1 x2_1 => by
      exact (e1 k (T.run tyt tbl k) x0_1 x1_1 x2_1).trans (by rfl)
theorem tblok (k : Nat) : TblOk Tryd.prog (tbl k) := TblOk.cons (impl_in.sound k) (TblOk.cons (impl_isPlain.sound k) (TblOk.cons (strings_Contains.sound k) (TblOk.nil _)))
theorem sound (k : Nat) : Sound Tryd.prog 69 (spec k) := by
  have h := fn_ok (F := T) (tbl := tbl) mixed tyok Tryd.func69 (by kernel_rfl) (c0 := bodyOf Tryd.f69) rfl (conv_code _ _ _) rfl rfl ok k (fun j _ => tblok j)
  have q1 : (fun x0_1 x1_1 x2_1 => T.run tyt tbl k 1 (S1 x0_1 x1_1 x2_1)) = impl_IsValidRecord.l1 k := by funext x0_1 x1_1 x2_1; exact (run k) x0_1 x1_1 x2_1
  have e : spec k = ⟨T.ps, T.rs, T.ev tyt tbl k⟩ := congrArg (FnSpec.mk _ _) (funext fun x => ((e k (T.run tyt tbl k) x.1 x.2).trans (by rw [q1]; rfl)).symm)
  rw [e]
  exact h
end impl_IsValidRecord

namespace impl_EncodeRecord
/-! ### impl_EncodeRecord: function 58 -/
def m (k : Nat) (a0 : Int) (a1_0 a1_1 : ByteArray) : Option (ByteArray × Bool) := ((impl_in.f k a0 0 59).bind fun r1 => (cond (!r1) (some ((⟨#[]⟩ : ByteArray), false)) ((impl_IsValidRecord.f k a1_0 a1_1).bind fun r2 => (cond (!r2) (some ((⟨#[]⟩ : ByteArray), false)) ((impl_decimal.f k a0).bind fun r3 => ((catS r3 (⟨#[32]⟩ : ByteArray)).bind fun s4 => ((catS s4 a1_0).bind fun s5 => ((catS s5 (⟨#[64]⟩ : ByteArray)).bind fun s6 => ((catS s6 a1_1).bind fun s7 => ((impl_AppendChecksum.f k s7).bind fun r8 => ((catS r8.1 (⟨#[10]⟩ : ByteArray)).bind fun s9 => (some (s9, true)))))))))))))
def f (k : Nat) (a0 : Int) (a1_0 a1_1 : ByteArray) : Option (ByteArray × Bool) := m k a0 a1_0 a1_1
noncomputable def spec (k : Nat) : FnSpec := ⟨[.d (.int .i64) none, .ag [.d .str none, .d .str none]], [.d .str none, .d .bool none], fun x => f k x.1 x.2.1 x.2.2⟩
noncomputable def T : FnText := ⟨(conv [] (bodyOf Tryd.f58) 0).1, Tryd.f58.results.toList, 32, [], [.d (.int .i64) none, .ag [.d .str none, .d .str none]], [.d .str none, .d .bool none]⟩
noncomputable def tbl (k : Nat) : Tbl := [(32, impl_in.spec k), (69, impl_IsValidRecord.spec k), (25, impl_decimal.spec k), (68, impl_AppendChecksum.spec k)]
theorem e (k : Nat) (o : Nat → St → Option (ByteArray × Bool)) (a0 : Int) (a1_0 a1_1 : ByteArray) : T.main tyt (tbl k) o (a0, a1_0, a1_1) = m k a0 a1_0 a1_1 := by kernel_rfl
theorem ok : T.ok = true := by kernel_rfl
theorem tblok (k : Nat) : TblOk Tryd.prog (tbl k) := TblOk.cons (impl_in.sound k) (TblOk.cons (impl_IsValidRecord.sound k) (TblOk.cons (impl_decimal.sound k) (TblOk.cons (impl_AppendChecksum.sound k) (TblOk.nil _))))
theorem sound (k : Nat) : Sound Tryd.prog 58 (spec k) := by
  have h := fn_ok (F := T) (tbl := tbl) mixed tyok Tryd.func58 (by kernel_rfl) (c0 := bodyOf Tryd.f58) rfl (conv_code _ _ _) rfl rfl ok k (fun j _ => tblok j)
  have e : spec k = ⟨T.ps, T.rs, T.ev tyt tbl k⟩ := congrArg (FnSpec.mk _ _) (funext fun x => ((e k (T.run tyt tbl k) x.1 x.2.1 x.2.2).trans (by rfl)).symm)
  rw [e]
  exact h
end impl_EncodeRecord

namespace internal_stringslite_HasPrefix
/-! ### internal_stringslite_HasPrefix: function 70 -/
def m (k : Nat) (a0 a1 : ByteArray) : Option (Bool) := (if (a1.size : Int) ≤ (a0.size : Int) then ((cutTo a0.size (a1.size : Int)).bind fun m2 => (some (decide ((a0.extract 0 m2) = a1)))) else (some false))
def f (k : Nat) (a0 a1 : ByteArray) : Option (Bool) := m k a0 a1
noncomputable def spec (k : Nat) : FnSpec := ⟨[.d .str none, .d .str none], [.d .bool none], fun x => f k x.1 x.2⟩
noncomputable def T : FnText := ⟨(conv [] (bodyOf Tryd.f70) 0).1, Tryd.f70.results.toList, 18, [], [.d .str none, .d .str none], [.d .bool none]⟩
noncomputable def tbl (k : Nat) : Tbl := []
theorem e (k : Nat) (o : Nat → St → Option (Bool)) (a0 a1 : ByteArray) : T.main tyt (tbl k) o (a0, a1) = m k a0 a1 := by kernel_rfl
theorem ok : T.ok = true := by kernel_rfl
theorem tblok (k : Nat) : TblOk Tryd.prog (tbl k) := TblOk.nil _
theorem sound (k : Nat) : Sound Tryd.prog 70 (spec k) := by
  have h := fn_ok (F := T) (tbl := tbl) mixed tyok Tryd.func70 (by kernel_rfl) (c0 := bodyOf Tryd.f70) rfl (conv_code _ _ _) rfl rfl ok k (fun j _ => tblok j)
  have e : spec k = ⟨T.ps, T.rs, T.ev tyt tbl k⟩ := congrArg (FnSpec.mk _ _) (funext fun x => ((e k (T.run tyt tbl k) x.1 x.2).trans (by rfl)).symm)
  rw [e]
  exact h
end internal_stringslite_HasPrefix

namespace strings_HasPrefix
/-! ### strings_HasPrefix: function 59 -/
def m (k : Nat) (a0 a1 : ByteArray) : Option (Bool) := ((internal_stringslite_HasPrefix.f k a0 a1).bind fun r1 => (some r1))
def f (k : Nat) (a0 a1 : ByteArray) : Option (Bool) := m k a0 a1
noncomputable def spec (k : Nat) : FnSpec := ⟨[.d .str none, .d .str none], [.d .bool none], fun x => f k x.1 x.2⟩
noncomputable def T : FnText := ⟨(conv [] (bodyOf Tryd.f59) 0).1, Tryd.f59.results.toList, 8, [], [.d .str none, .d .str none], [.d .bool none]⟩
noncomputable def tbl (k : Nat) : Tbl := [(70, internal_stringslite_HasPrefix.spec k)]
theorem e (k : Nat) (o : Nat → St → Option (Bool)) (a0 a1 : ByteArray) : T.main tyt (tbl k) o (a0, a1) = m k a0 a1 := by kernel_rfl
theorem ok : T.ok = true := by kernel_rfl
theorem tblok (k : Nat) : TblOk Tryd.prog (tbl k) := TblOk.cons (internal_stringslite_HasPrefix.sound k) (TblOk.nil _)
theorem sound (k : Nat) : Sound Tryd.prog 59 (spec k) := by
  have h := fn_ok (F := T) (tbl := tbl) mixed tyok Tryd.func59 (by kernel_rfl) (c0 := bodyOf Tryd.f59) rfl (conv_code _ _ _) rfl rfl ok k (fun j _ => tblok j)
  have e : spec k = ⟨T.ps, T.rs, T.ev tyt tbl k⟩ := congrArg (FnSpec.mk _ _) (funext fun x => ((e k (T.run tyt tbl k) x.1 x.2).trans (by rfl)).symm)
  rw [e]
  exact h
end strings_HasPrefix

namespace impl_cutRecord
/-! ### impl_cutRecord: function 52 -/
def m (k : Nat) (a0 : ByteArray) (a1 : Int) : Option (ByteArray × ByteArray × Int) := ((strings_Cut.f k a0 (⟨#[10]⟩ : ByteArray)).bind fun r1 => ((impl_VerifyChecksum.f k r1.1).bind fun r2 => ((strings_Cut.f k r2.1 (⟨#[32]⟩ : ByteArray)).bind fun r3 => ((strings_Cut.f k r3.2.1 (⟨#[64]⟩ : ByteArray)).bind fun r4 => ((impl_EncodeRecord.f k a1 r4.1 r4.2.1).bind fun r5 => (cond (!r5.2) (some (ByteArray.empty, ByteArray.empty, 0)) ((strings_HasPrefix.f k a0 r5.1).bind fun r6 => (cond (!r6) (some (ByteArray.empty, ByteArray.empty, 0)) (some (r4.1, r4.2.1, (r5.1.size : Int)))))))))))
def f (k : Nat) (a0 : ByteArray) (a1 : Int) : Option (ByteArray × ByteArray × Int) := m k a0 a1
noncomputable def spec (k : Nat) : FnSpec := ⟨[.d .str none, .d (.int .i64) none], [.ag [.d .str none, .d .str none], .d (.int .i64) none], fun x => f k x.1 x.2⟩
noncomputable def T : FnText := ⟨(conv [] (bodyOf Tryd.f52) 0).1, Tryd.f52.results.toList, 64, [], [.d .str none, .d (.int .i64) none], [.ag [.d .str none, .d .str none], .d (.int .i64) none]⟩
noncomputable def tbl (k : Nat) : Tbl := [(56, strings_Cut.spec k), (57, impl_VerifyChecksum.spec k), (58, impl_EncodeRecord.spec k), (59, strings_HasPrefix.spec k)]
theorem e (k : Nat) (o : Nat → St → Option (ByteArray × ByteArray × Int)) (a0 : ByteArray) (a1 : Int) : T.main tyt (tbl k) o (a0, a1) = m k a0 a1 := by kernel_rfl
theorem ok : T.ok = true := by kernel_rfl
theorem tblok (k : Nat) : TblOk Tryd.prog (tbl k) := TblOk.cons (strings_Cut.sound k) (TblOk.cons (impl_VerifyChecksum.sound k) (TblOk.cons (impl_EncodeRecord.sound k) (TblOk.cons (strings_HasPrefix.sound k) (TblOk.nil _))))
theorem sound (k : Nat) : Sound Tryd.prog 52 (spec k) := by
  have h := fn_ok (F := T) (tbl := tbl) mixed tyok Tryd.func52 (by kernel_rfl) (c0 := bodyOf Tryd.f52) rfl (conv_code _ _ _) rfl rfl ok k (fun j _ => tblok j)
  have e : spec k = ⟨T.ps, T.rs, T.ev tyt tbl k⟩ := congrArg (FnSpec.mk _ _) (funext fun x => ((e k (T.run tyt tbl k) x.1 x.2).trans (by rfl)).symm)
  rw [e]
  exact h
end impl_cutRecord

namespace impl_readLog
/-! ### impl_readLog: function 46 -/
def b3 (o3 : ByteArray → (List (ByteArray × ByteArray)) → List Int → Int → Option (List (ByteArray × ByteArray) × List Int)) (k : Nat) (x0_3 : ByteArray) (l1_3 : List (ByteArray × ByteArray)) (l2_3 : List Int) (x3_3 : Int) : Option (List (ByteArray × ByteArray) × List Int) := (if (l1_3.length : Int) < 60 then ((cut x0_3.size x3_3 (x0_3.size : Int)).bind fun c1 => ((impl_cutRecord.f k (x0_3.extract c1.1 (c1.1 + c1.2)) (l1_3.length : Int)).bind fun r2 => (if r2.2.2 = 0 then (some (l1_3, l2_3)) else ((app 4398046511104 l1_3 [(r2.1, r2.2.1)]).bind fun l3 => ((app 17592186044416 l2_3 [(w64 (x3_3 + r2.2.2))]).bind fun l4 => (o3 x0_3 l3 l4 (w64 (x3_3 + r2.2.2)))))))) else (some (l1_3, l2_3)))
def l3 : Nat → ByteArray → (List (ByteArray × ByteArray)) → List Int → Int → Option (List (ByteArray × ByteArray) × List Int)
  | 0, _, _, _, _ => none
  | k + 1, x0_3, l1_3, l2_3, x3_3 => b3 (impl_readLog.l3 k) k x0_3 l1_3 l2_3 x3_3
def m (o3 : ByteArray → (List (ByteArray × ByteArray)) → List Int → Int → Option (List (ByteArray × ByteArray) × List Int)) (k : Nat) (a0 : ByteArray) : Option (List (ByteArray × ByteArray) × List Int) := (o3 a0 [] [] 0)
def f (k : Nat) (a0 : ByteArray) : Option (List (ByteArray × ByteArray) × List Int) := m (impl_readLog.l3 k) k a0
noncomputable def spec (k : Nat) : FnSpec := ⟨[.d .str none], [.d (.sl (.pair .str .str)) (some 91), .d (.sl (.int .i64)) (some 3)], fun x => f k x⟩
def S3 (x0_3 : ByteArray) (l1_3 : List (ByteArray × ByteArray)) (l2_3 : List Int) (x3_3 : Int) : St := ⟨[(0, .val .str x0_3), (2, .ref 100), (3, .ref 101), (4, .val (.int .i64) x3_3)], [(101, some (.row 3 (.int .i64) l2_3)), (100, some (.row 91 (.pair .str .str) l1_3))], 1000⟩
noncomputable def T : FnText := ⟨(conv [] (bodyOf Tryd.f46) 0).1, Tryd.f46.results.toList, 34, [(3, [(0, .rd .str), (2, .own 91 (.pair .str .str) 100), (3, .own 3 (.int .i64) 101), (4, .rd (.int .i64))])], [.d .str none], [.d (.sl (.pair .str .str)) (some 91), .d (.sl (.int .i64)) (some 3)]⟩
noncomputable def tbl (k : Nat) : Tbl := [(52, impl_cutRecord.spec k)]
theorem e3 (k : Nat) (o : Nat → St → Option (List (ByteArray × ByteArray) × List Int)) (x0_3 : ByteArray) (l1_3 : List (ByteArray × ByteArray)) (l2_3 : List Int) (x3_3 : Int) : T.step tyt (tbl k) o 3 (S3 x0_3 l1_3 l2_3 x3_3) = b3 (fun x0_3 l1_3 l2_3 x3_3 => o 3 (S3 x0_3 l1_3 l2_3 x3_3)) k x0_3 l1_3 l2_3 x3_3 := by kernel_rfl
theorem e (k : Nat) (o : Nat → St → Option (List (ByteArray × ByteArray) × List Int)) (a0 : ByteArray) : T.main tyt (tbl k) o a0 = m (fun x0_3 l1_3 l2_3 x3_3 => o 3 (S3 x0_3 l1_3 l2_3 x3_3)) k a0 := by kernel_rfl
theorem ok : T.ok = true := by kernel_rfl
theorem run (k : Nat) : (∀ (x0_3 : ByteArray) (l1_3 : List (ByteArray × ByteArray)) (l2_3 : List Int) (x3_3 : Int), T.run tyt tbl k 3 (S3 x0_3 l1_3 l2_3 x3_3) = impl_readLog.l3 k x0_3 l1_3 l2_3 x3_3) := by
  induction k with
  | zero => exact fun x0_3 l1_3 l2_3 x3_3 => rfl
  | succ k ih =>
    exact fun x0_3 l1_3 l2_3 x3_3 => by
      have q3 : (fun x0_3 l1_3 l2_3 x3_3 => T.run tyt tbl k 3 (S3 x0_3 l1_3 l2_3 x3_3)) = impl_readLog.l3 k := by funext x0_3 l1_3 l2_3 x3_3; exact ih x0_3 l1_3 l2_3 x3_3
      exact (e3 k (T.run tyt tbl k) x0_3 l1_3 l2_3 x3_3).trans (by rw [q3]; rfl)
theorem tblok (k : Nat) : TblOk Tryd.prog (tbl k) := TblOk.cons (impl_cutRecord.sound k) (TblOk.nil _)
theorem sound (k : Nat) : Sound Tryd.prog 46 (spec k) := by
  have h := fn_ok (F := T) (tbl := tbl) mixed tyok Tryd.func46 (by kernel_rfl) (c0 := bodyOf Tryd.f46) rfl (conv_code _ _ _) rfl rfl ok k (fun j _ => tblok j)
  have q3 : (fun x0_3 l1_3 l2_3 x3_3 => T.run tyt tbl k 3 (S3 x0_3 l1_3 l2_3 x3_3)) = impl_readLog.l3 k := by funext x0_3 l1_3 l2_3 x3_3; exact (run k) x0_3 l1_3 l2_3 x3_3
  have e : spec k = ⟨T.ps, T.rs, T.ev tyt tbl k⟩ := congrArg (FnSpec.mk _ _) (funext fun x => ((e k (T.run tyt tbl k) x).trans (by rw [q3]; rfl)).symm)
  rw [e]
  exact h
end impl_readLog

namespace impl_Log_records
/-! ### impl_Log_records: function 35 -/
def b8 (o8 : ByteArray → ByteArray → Int → (List (ByteArray × ByteArray)) → Int → Bool → List Int → Int → Int → Option (List (ByteArray × ByteArray) × Bool)) (k : Nat) (x0_8 x1_8 : ByteArray) (x2_8 : Int) (l3_8 : List (ByteArray × ByteArray)) (x4_8 : Int) (x5_8 : Bool) (l6_8 : List Int) (x7_8 x8_8 : Int) : Option (List (ByteArray × ByteArray) × Bool) := (if x8_8 < x7_8 then ((chk l6_8.length x8_8).bind fun i3 => (cond x5_8 (o8 x0_8 x1_8 x2_8 l3_8 (l6_8.getD i3 0) true l6_8 x7_8 (w64 (x8_8 + 1))) (o8 x0_8 x1_8 x2_8 l3_8 (l6_8.getD i3 0) (decide ((l6_8.getD i3 0) = (x0_8.size : Int))) l6_8 x7_8 (w64 (x8_8 + 1))))) else (cond x5_8 (if x4_8 = (w64 ((x0_8.size : Int) + (x1_8.size : Int))) then (some (l3_8, (decide (x2_8 = (l3_8.length : Int))))) else (some (l3_8, false))) (some (l3_8, false))))
def l8 : Nat → ByteArray → ByteArray → Int → (List (ByteArray × ByteArray)) → Int → Bool → List Int → Int → Int → Option (List (ByteArray × ByteArray) × Bool)
  | 0, _, _, _, _, _, _, _, _, _ => none
  | k + 1, x0_8, x1_8, x2_8, l3_8, x4_8, x5_8, l6_8, x7_8, x8_8 => b8 (impl_Log_records.l8 k) k x0_8 x1_8 x2_8 l3_8 x4_8 x5_8 l6_8 x7_8 x8_8
def m (o8 : ByteArray → ByteArray → Int → (List (ByteArray × ByteArray)) → Int → Bool → List Int → Int → Int → Option (List (ByteArray × ByteArray) × Bool)) (k : Nat) (a0_0 a0_1 : ByteArray) (a0_2 : Int) : Option (List (ByteArray × ByteArray) × Bool) := (if 30000 < (w64 ((a0_0.size : Int) + (a0_1.size : Int))) then (some ([], false)) else ((catS a0_0 a0_1).bind fun s1 => ((impl_readLog.f k s1).bind fun r2 => (o8 a0_0 a0_1 a0_2 r2.1 0 (decide (a0_0 = (⟨#[]⟩ : ByteArray))) r2.2 (r2.2.length : Int) 0))))
def f (k : Nat) (a0_0 a0_1 : ByteArray) (a0_2 : Int) : Option (List (ByteArray × ByteArray) × Bool) := m (impl_Log_records.l8 k) k a0_0 a0_1 a0_2
noncomputable def spec (k : Nat) : FnSpec := ⟨[.ag [.d .str none, .d .str none, .d (.int .i64) none]], [.d (.sl (.pair .str .str)) (some 91), .d .bool none], fun x => f k x.1 x.2.1 x.2.2⟩
def S8 (x0_8 x1_8 : ByteArray) (x2_8 : Int) (l3_8 : List (ByteArray × ByteArray)) (x4_8 : Int) (x5_8 : Bool) (l6_8 : List Int) (x7_8 x8_8 : Int) : St := ⟨[(1, .ptr 100 0), (4, .ref 101), (6, .val (.int .i64) x4_8), (7, .val .bool x5_8), (30, .ref 102), (31, .val (.int .i64) x7_8), (32, .val (.int .i64) x8_8)], [(102, some (.row 3 (.int .i64) l6_8)), (101, some (.row 91 (.pair .str .str) l3_8)), (100, some (.box [.val .str x0_8, .val .str x1_8, .val (.int .i64) x2_8]))], 1000⟩
noncomputable def T : FnText := ⟨(conv [] (bodyOf Tryd.f35) 0).1, Tryd.f35.results.toList, 66, [(8, [(1, .bx 100 [.rd .str, .rd .str, .rd (.int .i64)]), (4, .own 91 (.pair .str .str) 101), (6, .rd (.int .i64)), (7, .rd .bool), (30, .own 3 (.int .i64) 102), (31, .rd (.int .i64)), (32, .rd (.int .i64))])], [.ag [.d .str none, .d .str none, .d (.int .i64) none]], [.d (.sl (.pair .str .str)) (some 91), .d .bool none]⟩
noncomputable def tbl (k : Nat) : Tbl := [(46, impl_readLog.spec k)]
theorem e8 (k : Nat) (o : Nat → St → Option (List (ByteArray × ByteArray) × Bool)) (x0_8 x1_8 : ByteArray) (x2_8 : Int) (l3_8 : List (ByteArray × ByteArray)) (x4_8 : Int) (x5_8 : Bool) (l6_8 : List Int) (x7_8 x8_8 : Int) : T.step tyt (tbl k) o 8 (S8 x0_8 x1_8 x2_8 l3_8 x4_8 x5_8 l6_8 x7_8 x8_8) = b8 (fun x0_8 x1_8 x2_8 l3_8 x4_8 x5_8 l6_8 x7_8 x8_8 => o 8 (S8 x0_8 x1_8 x2_8 l3_8 x4_8 x5_8 l6_8 x7_8 x8_8)) k x0_8 x1_8 x2_8 l3_8 x4_8 x5_8 l6_8 x7_8 x8_8 := by kernel_rfl
theorem e (k : Nat) (o : Nat → St → Option (List (ByteArray × ByteArray) × Bool)) (a0_0 a0_1 : ByteArray) (a0_2 : Int) : T.main tyt (tbl k) o (a0_0, a0_1, a0_2) = m (fun x0_8 x1_8 x2_8 l3_8 x4_8 x5_8 l6_8 x7_8 x8_8 => o 8 (S8 x0_8 x1_8 x2_8 l3_8 x4_8 x5_8 l6_8 x7_8 x8_8)) k a0_0 a0_1 a0_2 := by kernel_rfl
theorem ok : T.ok = true := by kernel_rfl
theorem run (k : Nat) : (∀ (x0_8 x1_8 : ByteArray) (x2_8 : Int) (l3_8 : List (ByteArray × ByteArray)) (x4_8 : Int) (x5_8 : Bool) (l6_8 : List Int) (x7_8 x8_8 : Int), T.run tyt tbl k 8 (S8 x0_8 x1_8 x2_8 l3_8 x4_8 x5_8 l6_8 x7_8 x8_8) = impl_Log_records.l8 k x0_8 x1_8 x2_8 l3_8 x4_8 x5_8 l6_8 x7_8 x8_8) := by
  induction k with
  | zero => exact fun x0_8 x1_8 x2_8 l3_8 x4_8 x5_8 l6_8 x7_8 x8_8 => rfl
  | succ k ih =>
    exact fun x0_8 x1_8 x2_8 l3_8 x4_8 x5_8 l6_8 x7_8 x8_8 => by
      have q8 : (fun x0_8 x1_8 x2_8 l3_8 x4_8 x5_8 l6_8 x7_8 x8_8 => T.run tyt tbl k 8 (S8 x0_8 x1_8 x2_8 l3_8 x4_8 x5_8 l6_8 x7_8 x8_8)) = impl_Log_records.l8 k := by funext x0_8 x1_8 x2_8 l3_8 x4_8 x5_8 l6_8 x7_8 x8_8; exact ih x0_8 x1_8 x2_8 l3_8 x4_8 x5_8 l6_8 x7_8 x8_8
      exact (e8 k (T.run tyt tbl k) x0_8 x1_8 x2_8 l3_8 x4_8 x5_8 l6_8 x7_8 x8_8).trans (by rw [q8]; rfl)
theorem tblok (k : Nat) : TblOk Tryd.prog (tbl k) := TblOk.cons (impl_readLog.sound k) (TblOk.nil _)
theorem sound (k : Nat) : Sound Tryd.prog 35 (spec k) := by
  have h := fn_ok (F := T) (tbl := tbl) mixed tyok Tryd.func35 (by kernel_rfl) (c0 := bodyOf Tryd.f35) rfl (conv_code _ _ _) rfl rfl ok k (fun j _ => tblok j)
  have q8 : (fun x0_8 x1_8 x2_8 l3_8 x4_8 x5_8 l6_8 x7_8 x8_8 => T.run tyt tbl k 8 (S8 x0_8 x1_8 x2_8 l3_8 x4_8 x5_8 l6_8 x7_8 x8_8)) = impl_Log_records.l8 k := by funext x0_8 x1_8 x2_8 l3_8 x4_8 x5_8 l6_8 x7_8 x8_8; exact (run k) x0_8 x1_8 x2_8 l3_8 x4_8 x5_8 l6_8 x7_8 x8_8
  have e : spec k = ⟨T.ps, T.rs, T.ev tyt tbl k⟩ := congrArg (FnSpec.mk _ _) (funext fun x => ((e k (T.run tyt tbl k) x.1 x.2.1 x.2.2).trans (by rw [q8]; rfl)).symm)
  rw [e]
  exact h
end impl_Log_records

namespace impl_IsValidLog
/-! ### impl_IsValidLog: function 18 -/
def m (k : Nat) (a0_0 a0_1 : ByteArray) (a0_2 : Int) : Option (Bool) := ((impl_Log_records.f k a0_0 a0_1 a0_2).bind fun r1 => (some r1.2))
def f (k : Nat) (a0_0 a0_1 : ByteArray) (a0_2 : Int) : Option (Bool) := m k a0_0 a0_1 a0_2
noncomputable def spec (k : Nat) : FnSpec := ⟨[.ag [.d .str none, .d .str none, .d (.int .i64) none]], [.d .bool none], fun x => f k x.1 x.2.1 x.2.2⟩
noncomputable def T : FnText := ⟨(conv [] (bodyOf Tryd.f18) 0).1, Tryd.f18.results.toList, 11, [], [.ag [.d .str none, .d .str none, .d (.int .i64) none]], [.d .bool none]⟩
noncomputable def tbl (k : Nat) : Tbl := [(35, impl_Log_records.spec k)]
theorem e (k : Nat) (o : Nat → St → Option (Bool)) (a0_0 a0_1 : ByteArray) (a0_2 : Int) : T.main tyt (tbl k) o (a0_0, a0_1, a0_2) = m k a0_0 a0_1 a0_2 := by kernel_rfl
theorem ok : T.ok = true := by kernel_rfl
theorem tblok (k : Nat) : TblOk Tryd.prog (tbl k) := TblOk.cons (impl_Log_records.sound k) (TblOk.nil _)
theorem sound (k : Nat) : Sound Tryd.prog 18 (spec k) := by
  have h := fn_ok (F := T) (tbl := tbl) mixed tyok Tryd.func18 (by kernel_rfl) (c0 := bodyOf Tryd.f18) rfl (conv_code _ _ _) rfl rfl ok k (fun j _ => tblok j)
  have e : spec k = ⟨T.ps, T.rs, T.ev tyt tbl k⟩ := congrArg (FnSpec.mk _ _) (funext fun x => ((e k (T.run tyt tbl k) x.1 x.2.1 x.2.2).trans (by rfl)).symm)
  rw [e]
  exact h
end impl_IsValidLog

namespace impl_IsValidConsole
/-! ### impl_IsValidConsole: function 8 -/
def m (k : Nat) (a0_0 a0_1 : Int) (l0_2 : List (Int × Int × Int × Int × Int)) (a0_3 : Int) (a0_4 a0_5 : ByteArray) (a0_6 : Int) : Option (Bool) := ((impl_IsShop.f k a0_0 a0_1 l0_2 a0_3).bind fun r1 => (cond r1 ((impl_IsValidLog.f k a0_4 a0_5 a0_6).bind fun r2 => (some r2)) (some false)))
def f (k : Nat) (a0_0 a0_1 : Int) (l0_2 : List (Int × Int × Int × Int × Int)) (a0_3 : Int) (a0_4 a0_5 : ByteArray) (a0_6 : Int) : Option (Bool) := m k a0_0 a0_1 l0_2 a0_3 a0_4 a0_5 a0_6
noncomputable def spec (k : Nat) : FnSpec := ⟨[.ag [.d (.int .i64) none, .d (.int .i64) none, .d (.sl (.pair (.int .i64) (.pair (.int .i64) (.pair (.int .i64) (.pair (.int .i64) (.int .i64)))))) none, .d (.int .i64) none, .d .str none, .d .str none, .d (.int .i64) none]], [.d .bool none], fun x => f k x.1 x.2.1 x.2.2.1 x.2.2.2.1 x.2.2.2.2.1 x.2.2.2.2.2.1 x.2.2.2.2.2.2⟩
noncomputable def T : FnText := ⟨(conv [] (bodyOf Tryd.f8) 0).1, Tryd.f8.results.toList, 11, [], [.ag [.d (.int .i64) none, .d (.int .i64) none, .d (.sl (.pair (.int .i64) (.pair (.int .i64) (.pair (.int .i64) (.pair (.int .i64) (.int .i64)))))) none, .d (.int .i64) none, .d .str none, .d .str none, .d (.int .i64) none]], [.d .bool none]⟩
noncomputable def tbl (k : Nat) : Tbl := [(17, impl_IsShop.spec k), (18, impl_IsValidLog.spec k)]
theorem e (k : Nat) (o : Nat → St → Option (Bool)) (a0_0 a0_1 : Int) (l0_2 : List (Int × Int × Int × Int × Int)) (a0_3 : Int) (a0_4 a0_5 : ByteArray) (a0_6 : Int) : T.main tyt (tbl k) o (a0_0, a0_1, l0_2, a0_3, a0_4, a0_5, a0_6) = m k a0_0 a0_1 l0_2 a0_3 a0_4 a0_5 a0_6 := by kernel_rfl
theorem ok : T.ok = true := by kernel_rfl
theorem tblok (k : Nat) : TblOk Tryd.prog (tbl k) := TblOk.cons (impl_IsShop.sound k) (TblOk.cons (impl_IsValidLog.sound k) (TblOk.nil _))
theorem sound (k : Nat) : Sound Tryd.prog 8 (spec k) := by
  have h := fn_ok (F := T) (tbl := tbl) mixed tyok Tryd.func8 (by kernel_rfl) (c0 := bodyOf Tryd.f8) rfl (conv_code _ _ _) rfl rfl ok k (fun j _ => tblok j)
  have e : spec k = ⟨T.ps, T.rs, T.ev tyt tbl k⟩ := congrArg (FnSpec.mk _ _) (funext fun x => ((e k (T.run tyt tbl k) x.1 x.2.1 x.2.2.1 x.2.2.2.1 x.2.2.2.2.1 x.2.2.2.2.2.1 x.2.2.2.2.2.2).trans (by rfl)).symm)
  rw [e]
  exact h
end impl_IsValidConsole

namespace impl_CarpetText
/-! ### impl_CarpetText: function 23 -/
def b6 (k : Nat) (x0_6 x1_6 x2_6 x3_6 x4_6 : Int) (x5_6 : ByteArray) : Option (ByteArray × Bool) := (if 0 < x3_6 then ((impl_decimal.f k x3_6).bind fun r34 => ((catS (⟨#[32, 111, 110, 32]⟩ : ByteArray) r34).bind fun s35 => ((catS x5_6 s35).bind fun s36 => (some (s36, true))))) else (some (x5_6, true)))
def l6 : Nat → Int → Int → Int → Int → Int → ByteArray → Option (ByteArray × Bool)
  | 0, _, _, _, _, _, _ => none
  | k + 1, x0_6, x1_6, x2_6, x3_6, x4_6, x5_6 => b6 k x0_6 x1_6 x2_6 x3_6 x4_6 x5_6
def m (o6 : Int → Int → Int → Int → Int → ByteArray → Option (ByteArray × Bool)) (k : Nat) (a0_0 a0_1 : Int) (l0_2 : List (Int × Int × Int × Int × Int)) (a0_3 a1 : Int) : Option (ByteArray × Bool) := ((impl_IsShop.f k a0_0 a0_1 l0_2 a0_3).bind fun r1 => (cond (!r1) (some ((⟨#[]⟩ : ByteArray), false)) ((impl_in.f k a1 0 (w64 ((l0_2.length : Int) - 1))).bind fun r2 => (cond (!r2) (some ((⟨#[]⟩ : ByteArray), false)) ((chk l0_2.length a1).bind fun i3 => (if ((((l0_2.getD i3 (0, 0, 0, 0, 0)).2).2).1) = 4 then ((catS (⟨#[115, 111, 108, 100]⟩ : ByteArray) (⟨#[32]⟩ : ByteArray)).bind fun s28 => ((impl_decimal.f k (((l0_2.getD i3 (0, 0, 0, 0, 0)).2).1)).bind fun r29 => ((catS s28 r29).bind fun s30 => ((catS s30 (⟨#[47]⟩ : ByteArray)).bind fun s31 => ((impl_decimal.f k ((l0_2.getD i3 (0, 0, 0, 0, 0)).1)).bind fun r32 => ((catS s31 r32).bind fun s33 => (o6 ((l0_2.getD i3 (0, 0, 0, 0, 0)).1) (((l0_2.getD i3 (0, 0, 0, 0, 0)).2).1) ((((l0_2.getD i3 (0, 0, 0, 0, 0)).2).2).1) (((((l0_2.getD i3 (0, 0, 0, 0, 0)).2).2).2).1) (((((l0_2.getD i3 (0, 0, 0, 0, 0)).2).2).2).2) s33))))))) else (if ((((l0_2.getD i3 (0, 0, 0, 0, 0)).2).2).1) = 3 then ((catS (⟨#[119, 97, 115, 104, 101, 100]⟩ : ByteArray) (⟨#[32]⟩ : ByteArray)).bind fun s22 => ((impl_decimal.f k (((l0_2.getD i3 (0, 0, 0, 0, 0)).2).1)).bind fun r23 => ((catS s22 r23).bind fun s24 => ((catS s24 (⟨#[47]⟩ : ByteArray)).bind fun s25 => ((impl_decimal.f k ((l0_2.getD i3 (0, 0, 0, 0, 0)).1)).bind fun r26 => ((catS s25 r26).bind fun s27 => (o6 ((l0_2.getD i3 (0, 0, 0, 0, 0)).1) (((l0_2.getD i3 (0, 0, 0, 0, 0)).2).1) ((((l0_2.getD i3 (0, 0, 0, 0, 0)).2).2).1) (((((l0_2.getD i3 (0, 0, 0, 0, 0)).2).2).2).1) (((((l0_2.getD i3 (0, 0, 0, 0, 0)).2).2).2).2) s27))))))) else (if ((((l0_2.getD i3 (0, 0, 0, 0, 0)).2).2).1) = 2 then ((catS (⟨#[111, 102, 102]⟩ : ByteArray) (⟨#[32]⟩ : ByteArray)).bind fun s16 => ((impl_decimal.f k (((l0_2.getD i3 (0, 0, 0, 0, 0)).2).1)).bind fun r17 => ((catS s16 r17).bind fun s18 => ((catS s18 (⟨#[47]⟩ : ByteArray)).bind fun s19 => ((impl_decimal.f k ((l0_2.getD i3 (0, 0, 0, 0, 0)).1)).bind fun r20 => ((catS s19 r20).bind fun s21 => (o6 ((l0_2.getD i3 (0, 0, 0, 0, 0)).1) (((l0_2.getD i3 (0, 0, 0, 0, 0)).2).1) ((((l0_2.getD i3 (0, 0, 0, 0, 0)).2).2).1) (((((l0_2.getD i3 (0, 0, 0, 0, 0)).2).2).2).1) (((((l0_2.getD i3 (0, 0, 0, 0, 0)).2).2).2).2) s21))))))) else (if ((((l0_2.getD i3 (0, 0, 0, 0, 0)).2).2).1) = 1 then ((catS (⟨#[119, 111, 118, 101, 110]⟩ : ByteArray) (⟨#[32]⟩ : ByteArray)).bind fun s10 => ((impl_decimal.f k (((l0_2.getD i3 (0, 0, 0, 0, 0)).2).1)).bind fun r11 => ((catS s10 r11).bind fun s12 => ((catS s12 (⟨#[47]⟩ : ByteArray)).bind fun s13 => ((impl_decimal.f k ((l0_2.getD i3 (0, 0, 0, 0, 0)).1)).bind fun r14 => ((catS s13 r14).bind fun s15 => (o6 ((l0_2.getD i3 (0, 0, 0, 0, 0)).1) (((l0_2.getD i3 (0, 0, 0, 0, 0)).2).1) ((((l0_2.getD i3 (0, 0, 0, 0, 0)).2).2).1) (((((l0_2.getD i3 (0, 0, 0, 0, 0)).2).2).2).1) (((((l0_2.getD i3 (0, 0, 0, 0, 0)).2).2).2).2) s15))))))) else (if ((((l0_2.getD i3 (0, 0, 0, 0, 0)).2).2).1) = 0 then ((catS (⟨#[119, 97, 105, 116, 115]⟩ : ByteArray) (⟨#[32]⟩ : ByteArray)).bind fun s4 => ((impl_decimal.f k (((l0_2.getD i3 (0, 0, 0, 0, 0)).2).1)).bind fun r5 => ((catS s4 r5).bind fun s6 => ((catS s6 (⟨#[47]⟩ : ByteArray)).bind fun s7 => ((impl_decimal.f k ((l0_2.getD i3 (0, 0, 0, 0, 0)).1)).bind fun r8 => ((catS s7 r8).bind fun s9 => (o6 ((l0_2.getD i3 (0, 0, 0, 0, 0)).1) (((l0_2.getD i3 (0, 0, 0, 0, 0)).2).1) ((((l0_2.getD i3 (0, 0, 0, 0, 0)).2).2).1) (((((l0_2.getD i3 (0, 0, 0, 0, 0)).2).2).2).1) (((((l0_2.getD i3 (0, 0, 0, 0, 0)).2).2).2).2) s9))))))) else none))))))))))
def f (k : Nat) (a0_0 a0_1 : Int) (l0_2 : List (Int × Int × Int × Int × Int)) (a0_3 a1 : Int) : Option (ByteArray × Bool) := m (impl_CarpetText.l6 k) k a0_0 a0_1 l0_2 a0_3 a1
noncomputable def spec (k : Nat) : FnSpec := ⟨[.ag [.d (.int .i64) none, .d (.int .i64) none, .d (.sl (.pair (.int .i64) (.pair (.int .i64) (.pair (.int .i64) (.pair (.int .i64) (.int .i64)))))) none, .d (.int .i64) none], .d (.int .i64) none], [.d .str none, .d .bool none], fun x => f k x.1 x.2.1 x.2.2.1 x.2.2.2.1 x.2.2.2.2⟩
def S6 (x0_6 x1_6 x2_6 x3_6 x4_6 : Int) (x5_6 : ByteArray) : St := ⟨[(6, .ptr 100 0), (8, .val .str x5_6)], [(100, some (.box [.val (.int .i64) x0_6, .val (.int .i64) x1_6, .val (.int .i64) x2_6, .val (.int .i64) x3_6, .val (.int .i64) x4_6]))], 1000⟩
noncomputable def T : FnText := ⟨(conv [6] (bodyOf Tryd.f23) 0).1, Tryd.f23.results.toList, 51, [(6, [(6, .bx 100 [.rd (.int .i64), .rd (.int .i64), .rd (.int .i64), .rd (.int .i64), .rd (.int .i64)]), (8, .rd .str)])], [.ag [.d (.int .i64) none, .d (.int .i64) none, .d (.sl (.pair (.int .i64) (.pair (.int .i64) (.pair (.int .i64) (.pair (.int .i64) (.int .i64)))))) none, .d (.int .i64) none], .d (.int .i64) none], [.d .str none, .d .bool none]⟩
noncomputable def tbl (k : Nat) : Tbl := [(17, impl_IsShop.spec k), (32, impl_in.spec k), (25, impl_decimal.spec k)]
theorem e6 (k : Nat) (o : Nat → St → Option (ByteArray × Bool)) (x0_6 x1_6 x2_6 x3_6 x4_6 : Int) (x5_6 : ByteArray) : T.step tyt (tbl k) o 6 (S6 x0_6 x1_6 x2_6 x3_6 x4_6 x5_6) = b6 k x0_6 x1_6 x2_6 x3_6 x4_6 x5_6 := by kernel_rfl
theorem e (k : Nat) (o : Nat → St → Option (ByteArray × Bool)) (a0_0 a0_1 : Int) (l0_2 : List (Int × Int × Int × Int × Int)) (a0_3 a1 : Int) : T.main tyt (tbl k) o (a0_0, a0_1, l0_2, a0_3, a1) = m (fun x0_6 x1_6 x2_6 x3_6 x4_6 x5_6 => o 6 (S6 x0_6 x1_6 x2_6 x3_6 x4_6 x5_6)) k a0_0 a0_1 l0_2 a0_3 a1 := by kernel_rfl
theorem ok : T.ok = true := by kernel_rfl
theorem run (k : Nat) : (∀ (x0_6 x1_6 x2_6 x3_6 x4_6 : Int) (x5_6 : ByteArray), T.run tyt tbl k 6 (S6 x0_6 x1_6 x2_6 x3_6 x4_6 x5_6) = impl_CarpetText.l6 k x0_6 x1_6 x2_6 x3_6 x4_6 x5_6) := by
  induction k with
  | zero => exact fun x0_6 x1_6 x2_6 x3_6 x4_6 x5_6 => rfl
  | succ k ih =>
    exact fun x0_6 x1_6 x2_6 x3_6 x4_6 x5_6 => by
      exact (e6 k (T.run tyt tbl k) x0_6 x1_6 x2_6 x3_6 x4_6 x5_6).trans (by rfl)
theorem tblok (k : Nat) : TblOk Tryd.prog (tbl k) := TblOk.cons (impl_IsShop.sound k) (TblOk.cons (impl_in.sound k) (TblOk.cons (impl_decimal.sound k) (TblOk.nil _)))
theorem sound (k : Nat) : Sound Tryd.prog 23 (spec k) := by
  have h := fn_ok (F := T) (tbl := tbl) mixed tyok Tryd.func23 (by kernel_rfl) (c0 := bodyOf Tryd.f23) rfl (conv_code _ _ _) rfl rfl ok k (fun j _ => tblok j)
  have q6 : (fun x0_6 x1_6 x2_6 x3_6 x4_6 x5_6 => T.run tyt tbl k 6 (S6 x0_6 x1_6 x2_6 x3_6 x4_6 x5_6)) = impl_CarpetText.l6 k := by funext x0_6 x1_6 x2_6 x3_6 x4_6 x5_6; exact (run k) x0_6 x1_6 x2_6 x3_6 x4_6 x5_6
  have e : spec k = ⟨T.ps, T.rs, T.ev tyt tbl k⟩ := congrArg (FnSpec.mk _ _) (funext fun x => ((e k (T.run tyt tbl k) x.1 x.2.1 x.2.2.1 x.2.2.2.1 x.2.2.2.2).trans (by rw [q6]; rfl)).symm)
  rw [e]
  exact h
end impl_CarpetText

/-! ### impl_FormatConsole: function 11, by its walk -/
def impl_FormatConsole.f (k : Nat) (a0 a1 : Int) (a2 : List (Int × Int × Int × Int × Int)) (a3 : Int) (a4 a5 : ByteArray) (a6 : Int) : Option (ByteArray × Bool) := fmtF (impl_IsValidConsole.f k) (impl_CarpetText.f k) (impl_decimal.f k) a0 a1 a2 a3 a4 a5 a6
noncomputable def impl_FormatConsole.spec (k : Nat) : FnSpec := ⟨[.ag [.d (.int .i64) none, .d (.int .i64) none, .d (.sl (.pair (.int .i64) (.pair (.int .i64) (.pair (.int .i64) (.pair (.int .i64) (.int .i64)))))) none, .d (.int .i64) none, .d .str none, .d .str none, .d (.int .i64) none]], [.d .str none, .d .bool none], fun x => impl_FormatConsole.f k x.1 x.2.1 x.2.2.1 x.2.2.2.1 x.2.2.2.2.1 x.2.2.2.2.2.1 x.2.2.2.2.2.2⟩
theorem impl_FormatConsole.sound (k : Nat) : Sound Go.Proofs.Tryd.prog 11 (impl_FormatConsole.spec k) := strFmtConsole_ok (impl_IsValidConsole.sound k) (impl_CarpetText.sound k) (impl_decimal.sound k)

namespace laws_eqCarpet
/-! ### laws_eqCarpet: function 47 -/
def m (k : Nat) (a0_0 a0_1 a0_2 a0_3 a0_4 a1_0 a1_1 a1_2 a1_3 a1_4 : Int) : Option (Bool) := (if ¬ a0_0 = a1_0 then (some false) else (if ¬ a0_1 = a1_1 then (some false) else (if ¬ a0_2 = a1_2 then (some false) else (if ¬ a0_3 = a1_3 then (some false) else (if ¬ a0_4 = a1_4 then (some false) else (some true))))))
def f (k : Nat) (a0_0 a0_1 a0_2 a0_3 a0_4 a1_0 a1_1 a1_2 a1_3 a1_4 : Int) : Option (Bool) := m k a0_0 a0_1 a0_2 a0_3 a0_4 a1_0 a1_1 a1_2 a1_3 a1_4
noncomputable def spec (k : Nat) : FnSpec := ⟨[.ag [.d (.int .i64) none, .d (.int .i64) none, .d (.int .i64) none, .d (.int .i64) none, .d (.int .i64) none], .ag [.d (.int .i64) none, .d (.int .i64) none, .d (.int .i64) none, .d (.int .i64) none, .d (.int .i64) none]], [.d .bool none], fun x => f k x.1 x.2.1 x.2.2.1 x.2.2.2.1 x.2.2.2.2.1 x.2.2.2.2.2.1 x.2.2.2.2.2.2.1 x.2.2.2.2.2.2.2.1 x.2.2.2.2.2.2.2.2.1 x.2.2.2.2.2.2.2.2.2⟩
noncomputable def T : FnText := ⟨(conv [] (bodyOf Tryd.f47) 0).1, Tryd.f47.results.toList, 30, [], [.ag [.d (.int .i64) none, .d (.int .i64) none, .d (.int .i64) none, .d (.int .i64) none, .d (.int .i64) none], .ag [.d (.int .i64) none, .d (.int .i64) none, .d (.int .i64) none, .d (.int .i64) none, .d (.int .i64) none]], [.d .bool none]⟩
noncomputable def tbl (k : Nat) : Tbl := []
theorem e (k : Nat) (o : Nat → St → Option (Bool)) (a0_0 a0_1 a0_2 a0_3 a0_4 a1_0 a1_1 a1_2 a1_3 a1_4 : Int) : T.main tyt (tbl k) o (a0_0, a0_1, a0_2, a0_3, a0_4, a1_0, a1_1, a1_2, a1_3, a1_4) = m k a0_0 a0_1 a0_2 a0_3 a0_4 a1_0 a1_1 a1_2 a1_3 a1_4 := by kernel_rfl
theorem ok : T.ok = true := by kernel_rfl
theorem tblok (k : Nat) : TblOk Tryd.prog (tbl k) := TblOk.nil _
theorem sound (k : Nat) : Sound Tryd.prog 47 (spec k) := by
  have h := fn_ok (F := T) (tbl := tbl) mixed tyok Tryd.func47 (by kernel_rfl) (c0 := bodyOf Tryd.f47) rfl (conv_code _ _ _) rfl rfl ok k (fun j _ => tblok j)
  have e : spec k = ⟨T.ps, T.rs, T.ev tyt tbl k⟩ := congrArg (FnSpec.mk _ _) (funext fun x => ((e k (T.run tyt tbl k) x.1 x.2.1 x.2.2.1 x.2.2.2.1 x.2.2.2.2.1 x.2.2.2.2.2.1 x.2.2.2.2.2.2.1 x.2.2.2.2.2.2.2.1 x.2.2.2.2.2.2.2.2.1 x.2.2.2.2.2.2.2.2.2).trans (by rfl)).symm)
  rw [e]
  exact h
end laws_eqCarpet

namespace laws_eqCarpetS
/-! ### laws_eqCarpetS: function 36 -/
def b6 (o6 : (List (Int × Int × Int × Int × Int)) → (List (Int × Int × Int × Int × Int)) → Int → Option (Bool)) (k : Nat) (l0_6 l1_6 : List (Int × Int × Int × Int × Int)) (x2_6 : Int) : Option (Bool) := (if x2_6 < (l0_6.length : Int) then ((chk l0_6.length x2_6).bind fun i1 => ((chk l1_6.length x2_6).bind fun i2 => ((laws_eqCarpet.f k ((l0_6.getD i1 (0, 0, 0, 0, 0)).1) (((l0_6.getD i1 (0, 0, 0, 0, 0)).2).1) ((((l0_6.getD i1 (0, 0, 0, 0, 0)).2).2).1) (((((l0_6.getD i1 (0, 0, 0, 0, 0)).2).2).2).1) (((((l0_6.getD i1 (0, 0, 0, 0, 0)).2).2).2).2) ((l1_6.getD i2 (0, 0, 0, 0, 0)).1) (((l1_6.getD i2 (0, 0, 0, 0, 0)).2).1) ((((l1_6.getD i2 (0, 0, 0, 0, 0)).2).2).1) (((((l1_6.getD i2 (0, 0, 0, 0, 0)).2).2).2).1) (((((l1_6.getD i2 (0, 0, 0, 0, 0)).2).2).2).2)).bind fun r3 => (cond (!r3) (some false) (o6 l0_6 l1_6 (w64 (x2_6 + 1))))))) else (some true))
def l6 : Nat → (List (Int × Int × Int × Int × Int)) → (List (Int × Int × Int × Int × Int)) → Int → Option (Bool)
  | 0, _, _, _ => none
  | k + 1, l0_6, l1_6, x2_6 => b6 (laws_eqCarpetS.l6 k) k l0_6 l1_6 x2_6
def m (o6 : (List (Int × Int × Int × Int × Int)) → (List (Int × Int × Int × Int × Int)) → Int → Option (Bool)) (k : Nat) (l0 l1 : List (Int × Int × Int × Int × Int)) : Option (Bool) := (if ¬ (l0.length : Int) = (l1.length : Int) then (some false) else (o6 l0 l1 0))
def f (k : Nat) (l0 l1 : List (Int × Int × Int × Int × Int)) : Option (Bool) := m (laws_eqCarpetS.l6 k) k l0 l1
noncomputable def spec (k : Nat) : FnSpec := ⟨[.d (.sl (.pair (.int .i64) (.pair (.int .i64) (.pair (.int .i64) (.pair (.int .i64) (.int .i64)))))) none, .d (.sl (.pair (.int .i64) (.pair (.int .i64) (.pair (.int .i64) (.pair (.int .i64) (.int .i64)))))) none], [.d .bool none], fun x => f k x.1 x.2⟩
def S6 (l0_6 l1_6 : List (Int × Int × Int × Int × Int)) (x2_6 : Int) : St := ⟨[(0, .val (.sl (.pair (.int .i64) (.pair (.int .i64) (.pair (.int .i64) (.pair (.int .i64) (.int .i64)))))) l0_6), (1, .val (.sl (.pair (.int .i64) (.pair (.int .i64) (.pair (.int .i64) (.pair (.int .i64) (.int .i64)))))) l1_6), (5, .val (.int .i64) x2_6)], [], 1000⟩
noncomputable def T : FnText := ⟨(conv [] (bodyOf Tryd.f36) 0).1, Tryd.f36.results.toList, 27, [(6, [(0, .rd (.sl (.pair (.int .i64) (.pair (.int .i64) (.pair (.int .i64) (.pair (.int .i64) (.int .i64))))))), (1, .rd (.sl (.pair (.int .i64) (.pair (.int .i64) (.pair (.int .i64) (.pair (.int .i64) (.int .i64))))))), (5, .rd (.int .i64))])], [.d (.sl (.pair (.int .i64) (.pair (.int .i64) (.pair (.int .i64) (.pair (.int .i64) (.int .i64)))))) none, .d (.sl (.pair (.int .i64) (.pair (.int .i64) (.pair (.int .i64) (.pair (.int .i64) (.int .i64)))))) none], [.d .bool none]⟩
noncomputable def tbl (k : Nat) : Tbl := [(47, laws_eqCarpet.spec k)]
theorem e6 (k : Nat) (o : Nat → St → Option (Bool)) (l0_6 l1_6 : List (Int × Int × Int × Int × Int)) (x2_6 : Int) : T.step tyt (tbl k) o 6 (S6 l0_6 l1_6 x2_6) = b6 (fun l0_6 l1_6 x2_6 => o 6 (S6 l0_6 l1_6 x2_6)) k l0_6 l1_6 x2_6 := by kernel_rfl
theorem e (k : Nat) (o : Nat → St → Option (Bool)) (l0 l1 : List (Int × Int × Int × Int × Int)) : T.main tyt (tbl k) o (l0, l1) = m (fun l0_6 l1_6 x2_6 => o 6 (S6 l0_6 l1_6 x2_6)) k l0 l1 := by kernel_rfl
theorem ok : T.ok = true := by kernel_rfl
theorem run (k : Nat) : (∀ (l0_6 l1_6 : List (Int × Int × Int × Int × Int)) (x2_6 : Int), T.run tyt tbl k 6 (S6 l0_6 l1_6 x2_6) = laws_eqCarpetS.l6 k l0_6 l1_6 x2_6) := by
  induction k with
  | zero => exact fun l0_6 l1_6 x2_6 => rfl
  | succ k ih =>
    exact fun l0_6 l1_6 x2_6 => by
      have q6 : (fun l0_6 l1_6 x2_6 => T.run tyt tbl k 6 (S6 l0_6 l1_6 x2_6)) = laws_eqCarpetS.l6 k := by funext l0_6 l1_6 x2_6; exact ih l0_6 l1_6 x2_6
      exact (e6 k (T.run tyt tbl k) l0_6 l1_6 x2_6).trans (by rw [q6]; rfl)
theorem tblok (k : Nat) : TblOk Tryd.prog (tbl k) := TblOk.cons (laws_eqCarpet.sound k) (TblOk.nil _)
theorem sound (k : Nat) : Sound Tryd.prog 36 (spec k) := by
  have h := fn_ok (F := T) (tbl := tbl) mixed tyok Tryd.func36 (by kernel_rfl) (c0 := bodyOf Tryd.f36) rfl (conv_code _ _ _) rfl rfl ok k (fun j _ => tblok j)
  have q6 : (fun l0_6 l1_6 x2_6 => T.run tyt tbl k 6 (S6 l0_6 l1_6 x2_6)) = laws_eqCarpetS.l6 k := by funext l0_6 l1_6 x2_6; exact (run k) l0_6 l1_6 x2_6
  have e : spec k = ⟨T.ps, T.rs, T.ev tyt tbl k⟩ := congrArg (FnSpec.mk _ _) (funext fun x => ((e k (T.run tyt tbl k) x.1 x.2).trans (by rw [q6]; rfl)).symm)
  rw [e]
  exact h
end laws_eqCarpetS

namespace laws_eqShop
/-! ### laws_eqShop: function 19 -/
def m (k : Nat) (a0_0 a0_1 : Int) (l0_2 : List (Int × Int × Int × Int × Int)) (a0_3 a1_0 a1_1 : Int) (l1_2 : List (Int × Int × Int × Int × Int)) (a1_3 : Int) : Option (Bool) := (if ¬ a0_0 = a1_0 then (some false) else (if ¬ a0_1 = a1_1 then (some false) else ((laws_eqCarpetS.f k l0_2 l1_2).bind fun r1 => (cond (!r1) (some false) (if ¬ a0_3 = a1_3 then (some false) else (some true))))))
def f (k : Nat) (a0_0 a0_1 : Int) (l0_2 : List (Int × Int × Int × Int × Int)) (a0_3 a1_0 a1_1 : Int) (l1_2 : List (Int × Int × Int × Int × Int)) (a1_3 : Int) : Option (Bool) := m k a0_0 a0_1 l0_2 a0_3 a1_0 a1_1 l1_2 a1_3
noncomputable def spec (k : Nat) : FnSpec := ⟨[.ag [.d (.int .i64) none, .d (.int .i64) none, .d (.sl (.pair (.int .i64) (.pair (.int .i64) (.pair (.int .i64) (.pair (.int .i64) (.int .i64)))))) none, .d (.int .i64) none], .ag [.d (.int .i64) none, .d (.int .i64) none, .d (.sl (.pair (.int .i64) (.pair (.int .i64) (.pair (.int .i64) (.pair (.int .i64) (.int .i64)))))) none, .d (.int .i64) none]], [.d .bool none], fun x => f k x.1 x.2.1 x.2.2.1 x.2.2.2.1 x.2.2.2.2.1 x.2.2.2.2.2.1 x.2.2.2.2.2.2.1 x.2.2.2.2.2.2.2⟩
noncomputable def T : FnText := ⟨(conv [] (bodyOf Tryd.f19) 0).1, Tryd.f19.results.toList, 26, [], [.ag [.d (.int .i64) none, .d (.int .i64) none, .d (.sl (.pair (.int .i64) (.pair (.int .i64) (.pair (.int .i64) (.pair (.int .i64) (.int .i64)))))) none, .d (.int .i64) none], .ag [.d (.int .i64) none, .d (.int .i64) none, .d (.sl (.pair (.int .i64) (.pair (.int .i64) (.pair (.int .i64) (.pair (.int .i64) (.int .i64)))))) none, .d (.int .i64) none]], [.d .bool none]⟩
noncomputable def tbl (k : Nat) : Tbl := [(36, laws_eqCarpetS.spec k)]
theorem e (k : Nat) (o : Nat → St → Option (Bool)) (a0_0 a0_1 : Int) (l0_2 : List (Int × Int × Int × Int × Int)) (a0_3 a1_0 a1_1 : Int) (l1_2 : List (Int × Int × Int × Int × Int)) (a1_3 : Int) : T.main tyt (tbl k) o (a0_0, a0_1, l0_2, a0_3, a1_0, a1_1, l1_2, a1_3) = m k a0_0 a0_1 l0_2 a0_3 a1_0 a1_1 l1_2 a1_3 := by kernel_rfl
theorem ok : T.ok = true := by kernel_rfl
theorem tblok (k : Nat) : TblOk Tryd.prog (tbl k) := TblOk.cons (laws_eqCarpetS.sound k) (TblOk.nil _)
theorem sound (k : Nat) : Sound Tryd.prog 19 (spec k) := by
  have h := fn_ok (F := T) (tbl := tbl) mixed tyok Tryd.func19 (by kernel_rfl) (c0 := bodyOf Tryd.f19) rfl (conv_code _ _ _) rfl rfl ok k (fun j _ => tblok j)
  have e : spec k = ⟨T.ps, T.rs, T.ev tyt tbl k⟩ := congrArg (FnSpec.mk _ _) (funext fun x => ((e k (T.run tyt tbl k) x.1 x.2.1 x.2.2.1 x.2.2.2.1 x.2.2.2.2.1 x.2.2.2.2.2.1 x.2.2.2.2.2.2.1 x.2.2.2.2.2.2.2).trans (by rfl)).symm)
  rw [e]
  exact h
end laws_eqShop

namespace laws_eqLog
/-! ### laws_eqLog: function 20 -/
def m (k : Nat) (a0_0 a0_1 : ByteArray) (a0_2 : Int) (a1_0 a1_1 : ByteArray) (a1_2 : Int) : Option (Bool) := (if ¬ a0_0 = a1_0 then (some false) else (if ¬ a0_1 = a1_1 then (some false) else (if ¬ a0_2 = a1_2 then (some false) else (some true))))
def f (k : Nat) (a0_0 a0_1 : ByteArray) (a0_2 : Int) (a1_0 a1_1 : ByteArray) (a1_2 : Int) : Option (Bool) := m k a0_0 a0_1 a0_2 a1_0 a1_1 a1_2
noncomputable def spec (k : Nat) : FnSpec := ⟨[.ag [.d .str none, .d .str none, .d (.int .i64) none], .ag [.d .str none, .d .str none, .d (.int .i64) none]], [.d .bool none], fun x => f k x.1 x.2.1 x.2.2.1 x.2.2.2.1 x.2.2.2.2.1 x.2.2.2.2.2⟩
noncomputable def T : FnText := ⟨(conv [] (bodyOf Tryd.f20) 0).1, Tryd.f20.results.toList, 20, [], [.ag [.d .str none, .d .str none, .d (.int .i64) none], .ag [.d .str none, .d .str none, .d (.int .i64) none]], [.d .bool none]⟩
noncomputable def tbl (k : Nat) : Tbl := []
theorem e (k : Nat) (o : Nat → St → Option (Bool)) (a0_0 a0_1 : ByteArray) (a0_2 : Int) (a1_0 a1_1 : ByteArray) (a1_2 : Int) : T.main tyt (tbl k) o (a0_0, a0_1, a0_2, a1_0, a1_1, a1_2) = m k a0_0 a0_1 a0_2 a1_0 a1_1 a1_2 := by kernel_rfl
theorem ok : T.ok = true := by kernel_rfl
theorem tblok (k : Nat) : TblOk Tryd.prog (tbl k) := TblOk.nil _
theorem sound (k : Nat) : Sound Tryd.prog 20 (spec k) := by
  have h := fn_ok (F := T) (tbl := tbl) mixed tyok Tryd.func20 (by kernel_rfl) (c0 := bodyOf Tryd.f20) rfl (conv_code _ _ _) rfl rfl ok k (fun j _ => tblok j)
  have e : spec k = ⟨T.ps, T.rs, T.ev tyt tbl k⟩ := congrArg (FnSpec.mk _ _) (funext fun x => ((e k (T.run tyt tbl k) x.1 x.2.1 x.2.2.1 x.2.2.2.1 x.2.2.2.2.1 x.2.2.2.2.2).trans (by rfl)).symm)
  rw [e]
  exact h
end laws_eqLog

namespace laws_eqConsole
/-! ### laws_eqConsole: function 9 -/
def m (k : Nat) (a0_0 a0_1 : Int) (l0_2 : List (Int × Int × Int × Int × Int)) (a0_3 : Int) (a0_4 a0_5 : ByteArray) (a0_6 a1_0 a1_1 : Int) (l1_2 : List (Int × Int × Int × Int × Int)) (a1_3 : Int) (a1_4 a1_5 : ByteArray) (a1_6 : Int) : Option (Bool) := ((laws_eqShop.f k a0_0 a0_1 l0_2 a0_3 a1_0 a1_1 l1_2 a1_3).bind fun r1 => (cond (!r1) (some false) ((laws_eqLog.f k a0_4 a0_5 a0_6 a1_4 a1_5 a1_6).bind fun r2 => (cond (!r2) (some false) (some true)))))
def f (k : Nat) (a0_0 a0_1 : Int) (l0_2 : List (Int × Int × Int × Int × Int)) (a0_3 : Int) (a0_4 a0_5 : ByteArray) (a0_6 a1_0 a1_1 : Int) (l1_2 : List (Int × Int × Int × Int × Int)) (a1_3 : Int) (a1_4 a1_5 : ByteArray) (a1_6 : Int) : Option (Bool) := m k a0_0 a0_1 l0_2 a0_3 a0_4 a0_5 a0_6 a1_0 a1_1 l1_2 a1_3 a1_4 a1_5 a1_6
noncomputable def spec (k : Nat) : FnSpec := ⟨[.ag [.d (.int .i64) none, .d (.int .i64) none, .d (.sl (.pair (.int .i64) (.pair (.int .i64) (.pair (.int .i64) (.pair (.int .i64) (.int .i64)))))) none, .d (.int .i64) none, .d .str none, .d .str none, .d (.int .i64) none], .ag [.d (.int .i64) none, .d (.int .i64) none, .d (.sl (.pair (.int .i64) (.pair (.int .i64) (.pair (.int .i64) (.pair (.int .i64) (.int .i64)))))) none, .d (.int .i64) none, .d .str none, .d .str none, .d (.int .i64) none]], [.d .bool none], fun x => f k x.1 x.2.1 x.2.2.1 x.2.2.2.1 x.2.2.2.2.1 x.2.2.2.2.2.1 x.2.2.2.2.2.2.1 x.2.2.2.2.2.2.2.1 x.2.2.2.2.2.2.2.2.1 x.2.2.2.2.2.2.2.2.2.1 x.2.2.2.2.2.2.2.2.2.2.1 x.2.2.2.2.2.2.2.2.2.2.2.1 x.2.2.2.2.2.2.2.2.2.2.2.2.1 x.2.2.2.2.2.2.2.2.2.2.2.2.2⟩
noncomputable def T : FnText := ⟨(conv [] (bodyOf Tryd.f9) 0).1, Tryd.f9.results.toList, 17, [], [.ag [.d (.int .i64) none, .d (.int .i64) none, .d (.sl (.pair (.int .i64) (.pair (.int .i64) (.pair (.int .i64) (.pair (.int .i64) (.int .i64)))))) none, .d (.int .i64) none, .d .str none, .d .str none, .d (.int .i64) none], .ag [.d (.int .i64) none, .d (.int .i64) none, .d (.sl (.pair (.int .i64) (.pair (.int .i64) (.pair (.int .i64) (.pair (.int .i64) (.int .i64)))))) none, .d (.int .i64) none, .d .str none, .d .str none, .d (.int .i64) none]], [.d .bool none]⟩
noncomputable def tbl (k : Nat) : Tbl := [(19, laws_eqShop.spec k), (20, laws_eqLog.spec k)]
theorem e (k : Nat) (o : Nat → St → Option (Bool)) (a0_0 a0_1 : Int) (l0_2 : List (Int × Int × Int × Int × Int)) (a0_3 : Int) (a0_4 a0_5 : ByteArray) (a0_6 a1_0 a1_1 : Int) (l1_2 : List (Int × Int × Int × Int × Int)) (a1_3 : Int) (a1_4 a1_5 : ByteArray) (a1_6 : Int) : T.main tyt (tbl k) o (a0_0, a0_1, l0_2, a0_3, a0_4, a0_5, a0_6, a1_0, a1_1, l1_2, a1_3, a1_4, a1_5, a1_6) = m k a0_0 a0_1 l0_2 a0_3 a0_4 a0_5 a0_6 a1_0 a1_1 l1_2 a1_3 a1_4 a1_5 a1_6 := by kernel_rfl
theorem ok : T.ok = true := by kernel_rfl
theorem tblok (k : Nat) : TblOk Tryd.prog (tbl k) := TblOk.cons (laws_eqShop.sound k) (TblOk.cons (laws_eqLog.sound k) (TblOk.nil _))
theorem sound (k : Nat) : Sound Tryd.prog 9 (spec k) := by
  have h := fn_ok (F := T) (tbl := tbl) mixed tyok Tryd.func9 (by kernel_rfl) (c0 := bodyOf Tryd.f9) rfl (conv_code _ _ _) rfl rfl ok k (fun j _ => tblok j)
  have e : spec k = ⟨T.ps, T.rs, T.ev tyt tbl k⟩ := congrArg (FnSpec.mk _ _) (funext fun x => ((e k (T.run tyt tbl k) x.1 x.2.1 x.2.2.1 x.2.2.2.1 x.2.2.2.2.1 x.2.2.2.2.2.1 x.2.2.2.2.2.2.1 x.2.2.2.2.2.2.2.1 x.2.2.2.2.2.2.2.2.1 x.2.2.2.2.2.2.2.2.2.1 x.2.2.2.2.2.2.2.2.2.2.1 x.2.2.2.2.2.2.2.2.2.2.2.1 x.2.2.2.2.2.2.2.2.2.2.2.2.1 x.2.2.2.2.2.2.2.2.2.2.2.2.2).trans (by rfl)).symm)
  rw [e]
  exact h
end laws_eqConsole

namespace laws_FnExactFormatConsole
/-! ### laws_FnExactFormatConsole: function 4 -/
def m (k : Nat) (a0_0 a0_1 : Int) (l0_2 : List (Int × Int × Int × Int × Int)) (a0_3 : Int) (a0_4 a0_5 : ByteArray) (a0_6 : Int) : Option (Bool) := ((laws_szConsole.f k a0_0 a0_1 l0_2 a0_3 a0_4 a0_5 a0_6 1048576).bind fun r1 => (if r1 < 0 then (some true) else ((laws_toConsole.f k a0_0 a0_1 l0_2 a0_3 a0_4 a0_5 a0_6).bind fun r2 => ((spec_FormatConsole.f k r2.1 r2.2.1 r2.2.2.1 r2.2.2.2.1 r2.2.2.2.2.1 r2.2.2.2.2.2.1 r2.2.2.2.2.2.2).bind fun r3 => ((laws_toConsole.f k a0_0 a0_1 l0_2 a0_3 a0_4 a0_5 a0_6).bind fun r4 => ((impl_FormatConsole.f k r4.1 r4.2.1 r4.2.2.1 r4.2.2.2.1 r4.2.2.2.2.1 r4.2.2.2.2.2.1 r4.2.2.2.2.2.2).bind fun r5 => (if ¬ r5.1 = r3.1 then (some false) else (if ¬ r5.2 = r3.2 then (some false) else ((laws_toConsole.f k a0_0 a0_1 l0_2 a0_3 a0_4 a0_5 a0_6).bind fun r6 => ((laws_eqConsole.f k r4.1 r4.2.1 r4.2.2.1 r4.2.2.2.1 r4.2.2.2.2.1 r4.2.2.2.2.2.1 r4.2.2.2.2.2.2 r6.1 r6.2.1 r6.2.2.1 r6.2.2.2.1 r6.2.2.2.2.1 r6.2.2.2.2.2.1 r6.2.2.2.2.2.2).bind fun r7 => (cond (!r7) (some false) (some true))))))))))))
def f (k : Nat) (a0_0 a0_1 : Int) (l0_2 : List (Int × Int × Int × Int × Int)) (a0_3 : Int) (a0_4 a0_5 : ByteArray) (a0_6 : Int) : Option (Bool) := m k a0_0 a0_1 l0_2 a0_3 a0_4 a0_5 a0_6
noncomputable def spec (k : Nat) : FnSpec := ⟨[.ag [.d (.int .i64) none, .d (.int .i64) none, .d (.sl (.pair (.int .i64) (.pair (.int .i64) (.pair (.int .i64) (.pair (.int .i64) (.int .i64)))))) none, .d (.int .i64) none, .d .str none, .d .str none, .d (.int .i64) none]], [.d .bool none], fun x => f k x.1 x.2.1 x.2.2.1 x.2.2.2.1 x.2.2.2.2.1 x.2.2.2.2.2.1 x.2.2.2.2.2.2⟩
noncomputable def T : FnText := ⟨(conv [] (bodyOf Tryd.f4) 0).1, Tryd.f4.results.toList, 40, [], [.ag [.d (.int .i64) none, .d (.int .i64) none, .d (.sl (.pair (.int .i64) (.pair (.int .i64) (.pair (.int .i64) (.pair (.int .i64) (.int .i64)))))) none, .d (.int .i64) none, .d .str none, .d .str none, .d (.int .i64) none]], [.d .bool none]⟩
noncomputable def tbl (k : Nat) : Tbl := [(5, laws_szConsole.spec k), (7, laws_toConsole.spec k), (10, spec_FormatConsole.spec k), (11, impl_FormatConsole.spec k), (9, laws_eqConsole.spec k)]
theorem e (k : Nat) (o : Nat → St → Option (Bool)) (a0_0 a0_1 : Int) (l0_2 : List (Int × Int × Int × Int × Int)) (a0_3 : Int) (a0_4 a0_5 : ByteArray) (a0_6 : Int) : T.main tyt (tbl k) o (a0_0, a0_1, l0_2, a0_3, a0_4, a0_5, a0_6) = m k a0_0 a0_1 l0_2 a0_3 a0_4 a0_5 a0_6 := by kernel_rfl
theorem ok : T.ok = true := by kernel_rfl
theorem tblok (k : Nat) : TblOk Tryd.prog (tbl k) := TblOk.cons (laws_szConsole.sound k) (TblOk.cons (laws_toConsole.sound k) (TblOk.cons (spec_FormatConsole.sound k) (TblOk.cons (impl_FormatConsole.sound k) (TblOk.cons (laws_eqConsole.sound k) (TblOk.nil _)))))
theorem sound (k : Nat) : Sound Tryd.prog 4 (spec k) := by
  have h := fn_ok (F := T) (tbl := tbl) mixed tyok Tryd.func4 (by kernel_rfl) (c0 := bodyOf Tryd.f4) rfl (conv_code _ _ _) rfl rfl ok k (fun j _ => tblok j)
  have e : spec k = ⟨T.ps, T.rs, T.ev tyt tbl k⟩ := congrArg (FnSpec.mk _ _) (funext fun x => ((e k (T.run tyt tbl k) x.1 x.2.1 x.2.2.1 x.2.2.2.1 x.2.2.2.2.1 x.2.2.2.2.2.1 x.2.2.2.2.2.2).trans (by rfl)).symm)
  rw [e]
  exact h
end laws_FnExactFormatConsole


/-- The pure statement. -/
def Pure : Prop := ∀ (a0_0 : Int) (a0_1 : Int) (l0_2 : List (Int × Int × Int × Int × Int)) (a0_3 : Int) (a0_4 : ByteArray) (a0_5 : ByteArray) (a0_6 : Int), ((Lit.int .i64 a0_0).wf = true) → ((Lit.int .i64 a0_1).wf = true) → (l0_2.length * 40 ≤ 140737488351232) → (∀ y0 ∈ l0_2, ((Lit.int .i64 y0.1).wf = true) ∧ ((Lit.int .i64 y0.2.1).wf = true) ∧ ((Lit.int .i64 y0.2.2.1).wf = true) ∧ ((Lit.int .i64 y0.2.2.2.1).wf = true) ∧ (Lit.int .i64 y0.2.2.2.2).wf = true) → ((Lit.int .i64 a0_3).wf = true) → (a0_4.size ≤ 140737488351232) → (a0_5.size ≤ 140737488351232) → ((Lit.int .i64 a0_6).wf = true) → ∃ k, laws_FnExactFormatConsole.f k a0_0 a0_1 l0_2 a0_3 a0_4 a0_5 a0_6 = some true
end Go.Proofs.YtiacidpjplmgaaaDoor.DFnExactFormatConsole
