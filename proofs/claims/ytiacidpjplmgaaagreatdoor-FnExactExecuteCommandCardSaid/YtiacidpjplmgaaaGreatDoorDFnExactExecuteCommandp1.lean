-- Printed by this session's own program (wip/deep/drow.py); Lean checks it.
import Derived.Test.YtiacidpjplmgaaaGreatDoorHc
import Derived.Test.YtiacidpjplmgaaaGreatDoorProg
set_option linter.unusedVariables false
set_option maxRecDepth 100000
namespace Go.Proofs.YtiacidpjplmgaaaGreatDoor.DFnExactExecuteCommand
open Go Go.Proofs.YtiacidpjplmgaaaGreatDoorD
def tyt3 : TI := ⟨.int .i64, 1, 8, (.int .i64)⟩
def tyt5 : TI := ⟨.int .u8, 1, 1, (.int .u8)⟩
def tyt9 : TI := ⟨.string, 1, 16, .str⟩
def tyt23 : TI := ⟨.struct #[⟨ "Durable", 9, 0, false, "", "", 0⟩, ⟨ "Pending", 9, 1, false, "", "", 16⟩, ⟨ "Count", 3, 2, false, "", "", 32⟩], 3, 40, (.pair .str (.pair .str (.int .i64)))⟩
def tyt27 : TI := ⟨.struct #[⟨ "Durable", 9, 0, false, "", "", 0⟩, ⟨ "Pending", 9, 1, false, "", "", 16⟩, ⟨ "Count", 3, 2, false, "", "", 32⟩], 3, 40, (.pair .str (.pair .str (.int .i64)))⟩
def tyt30 : TI := ⟨.slice 165, 1, 24, (.sl (.pair (.int .i64) (.pair (.int .i64) (.pair (.int .i64) (.pair (.int .i64) (.int .i64))))))⟩
def tyt32 : TI := ⟨.struct #[⟨ "Day", 3, 0, false, "", "", 0⟩, ⟨ "Looms", 3, 1, false, "", "", 8⟩, ⟨ "Carpets", 30, 2, false, "", "", 16⟩, ⟨ "Money", 3, 3, false, "", "", 40⟩], 4, 48, (.pair (.int .i64) (.pair (.int .i64) (.pair (.sl (.pair (.int .i64) (.pair (.int .i64) (.pair (.int .i64) (.pair (.int .i64) (.int .i64)))))) (.int .i64))))⟩
def tyt34 : TI := ⟨.struct #[⟨ "Shop", 32, 0, false, "", "", 0⟩, ⟨ "Log", 23, 4, false, "", "", 48⟩], 7, 88, (.pair (.int .i64) (.pair (.int .i64) (.pair (.sl (.pair (.int .i64) (.pair (.int .i64) (.pair (.int .i64) (.pair (.int .i64) (.int .i64)))))) (.pair (.int .i64) (.pair .str (.pair .str (.int .i64)))))))⟩
def tyt36 : TI := ⟨.slice 108, 1, 24, (.sl (.pair (.int .i64) (.pair (.int .i64) (.pair (.int .i64) (.pair (.int .i64) (.int .i64))))))⟩
def tyt38 : TI := ⟨.struct #[⟨ "Day", 3, 0, false, "", "", 0⟩, ⟨ "Looms", 3, 1, false, "", "", 8⟩, ⟨ "Carpets", 36, 2, false, "", "", 16⟩, ⟨ "Money", 3, 3, false, "", "", 40⟩], 4, 48, (.pair (.int .i64) (.pair (.int .i64) (.pair (.sl (.pair (.int .i64) (.pair (.int .i64) (.pair (.int .i64) (.pair (.int .i64) (.int .i64)))))) (.int .i64))))⟩
def tyt40 : TI := ⟨.struct #[⟨ "Shop", 38, 0, false, "", "", 0⟩, ⟨ "Log", 27, 4, false, "", "", 48⟩], 7, 88, (.pair (.int .i64) (.pair (.int .i64) (.pair (.sl (.pair (.int .i64) (.pair (.int .i64) (.pair (.int .i64) (.pair (.int .i64) (.int .i64)))))) (.pair (.int .i64) (.pair .str (.pair .str (.int .i64)))))))⟩
def tyt47 : TI := ⟨.slice 5, 1, 24, (.sl (.int .u8))⟩
def tyt51 : TI := ⟨.slice 55, 1, 24, (.sl (.pair .str .str))⟩
def tyt55 : TI := ⟨.struct #[⟨ "Command", 9, 0, false, "", "", 0⟩, ⟨ "Reply", 9, 1, false, "", "", 16⟩], 2, 32, (.pair .str .str)⟩
def tyt56 : TI := ⟨.slice 9, 1, 24, (.sl .str)⟩
def tyt108 : TI := ⟨.struct #[⟨ "Rows", 3, 0, false, "", "", 0⟩, ⟨ "Made", 3, 1, false, "", "", 8⟩, ⟨ "State", 3, 2, false, "", "", 16⟩, ⟨ "Loom", 3, 3, false, "", "", 24⟩, ⟨ "Since", 3, 4, false, "", "", 32⟩], 5, 40, (.pair (.int .i64) (.pair (.int .i64) (.pair (.int .i64) (.pair (.int .i64) (.int .i64)))))⟩
def tyt110 : TI := ⟨.slice 3, 1, 24, (.sl (.int .i64))⟩
def tyt135 : TI := ⟨.struct #[⟨ "Kind", 3, 0, false, "", "", 0⟩, ⟨ "Carpet", 3, 1, false, "", "", 8⟩, ⟨ "Value", 3, 2, false, "", "", 16⟩], 3, 24, (.pair (.int .i64) (.pair (.int .i64) (.int .i64)))⟩
def tyt151 : TI := ⟨.array 5 9, 5, 80, (.pair .str (.pair .str (.pair .str (.pair .str .str))))⟩
def tyt165 : TI := ⟨.struct #[⟨ "Rows", 3, 0, false, "", "", 0⟩, ⟨ "Made", 3, 1, false, "", "", 8⟩, ⟨ "State", 3, 2, false, "", "", 16⟩, ⟨ "Loom", 3, 3, false, "", "", 24⟩, ⟨ "Since", 3, 4, false, "", "", 32⟩], 5, 40, (.pair (.int .i64) (.pair (.int .i64) (.pair (.int .i64) (.pair (.int .i64) (.int .i64)))))⟩
def tyt168 : TI := ⟨.func #[5] #[4] false, 1, 8, .fn⟩
def tyt : TT := [(3, tyt3), (5, tyt5), (9, tyt9), (23, tyt23), (27, tyt27), (30, tyt30), (32, tyt32), (34, tyt34), (36, tyt36), (38, tyt38), (40, tyt40), (47, tyt47), (51, tyt51), (55, tyt55), (56, tyt56), (108, tyt108), (110, tyt110), (135, tyt135), (151, tyt151), (165, tyt165), (168, tyt168)]
theorem mixed : Go.Proofs.Tryz.prog.follows .mixedOrders = true := by kernel_rfl
theorem tok3 : TOk1 Go.Proofs.Tryz.prog 3 (tyt3) := TOk1.of (by kernel_rfl) (by kernel_rfl) (by kernel_rfl) (by kernel_rfl) (by kernel_rfl) (by kernel_rfl) (by kernel_rfl) (fun h => nomatch (show false = true from h)) (fun h => nomatch (show false = true from h))
theorem tok5 : TOk1 Go.Proofs.Tryz.prog 5 (tyt5) := TOk1.of (by kernel_rfl) (by kernel_rfl) (by kernel_rfl) (by kernel_rfl) (by kernel_rfl) (by kernel_rfl) (by kernel_rfl) (fun h => nomatch (show false = true from h)) (fun h => nomatch (show false = true from h))
theorem tok9 : TOk1 Go.Proofs.Tryz.prog 9 (tyt9) := TOk1.of (by kernel_rfl) (by kernel_rfl) (by kernel_rfl) (by kernel_rfl) (by kernel_rfl) (by kernel_rfl) (by kernel_rfl) (fun h => nomatch (show false = true from h)) (fun h => nomatch (show false = true from h))
theorem tok23 : TOk1 Go.Proofs.Tryz.prog 23 (tyt23) := TOk1.of (by kernel_rfl) (by kernel_rfl) (by kernel_rfl) (by kernel_rfl) (by kernel_rfl) (by kernel_rfl) (by kernel_rfl) (fun _ => by kernel_rfl) (fun _ => ⟨by kernel_rfl, by kernel_rfl, by kernel_rfl⟩)
theorem tok27 : TOk1 Go.Proofs.Tryz.prog 27 (tyt27) := TOk1.of (by kernel_rfl) (by kernel_rfl) (by kernel_rfl) (by kernel_rfl) (by kernel_rfl) (by kernel_rfl) (by kernel_rfl) (fun _ => by kernel_rfl) (fun _ => ⟨by kernel_rfl, by kernel_rfl, by kernel_rfl⟩)
theorem tok30 : TOk1 Go.Proofs.Tryz.prog 30 (tyt30) := TOk1.of (by kernel_rfl) (by kernel_rfl) (by kernel_rfl) (by kernel_rfl) (by kernel_rfl) (by kernel_rfl) (by kernel_rfl) (fun h => nomatch (show false = true from h)) (fun h => nomatch (show false = true from h))
theorem tok32 : TOk1 Go.Proofs.Tryz.prog 32 (tyt32) := TOk1.of (by kernel_rfl) (by kernel_rfl) (by kernel_rfl) (by kernel_rfl) (by kernel_rfl) (by kernel_rfl) (by kernel_rfl) (fun _ => by kernel_rfl) (fun h => nomatch (show false = true from h))
theorem tok34 : TOk1 Go.Proofs.Tryz.prog 34 (tyt34) := TOk1.of (by kernel_rfl) (by kernel_rfl) (by kernel_rfl) (by kernel_rfl) (by kernel_rfl) (by kernel_rfl) (by kernel_rfl) (fun _ => by kernel_rfl) (fun h => nomatch (show false = true from h))
theorem tok36 : TOk1 Go.Proofs.Tryz.prog 36 (tyt36) := TOk1.of (by kernel_rfl) (by kernel_rfl) (by kernel_rfl) (by kernel_rfl) (by kernel_rfl) (by kernel_rfl) (by kernel_rfl) (fun h => nomatch (show false = true from h)) (fun h => nomatch (show false = true from h))
theorem tok38 : TOk1 Go.Proofs.Tryz.prog 38 (tyt38) := TOk1.of (by kernel_rfl) (by kernel_rfl) (by kernel_rfl) (by kernel_rfl) (by kernel_rfl) (by kernel_rfl) (by kernel_rfl) (fun _ => by kernel_rfl) (fun h => nomatch (show false = true from h))
theorem tok40 : TOk1 Go.Proofs.Tryz.prog 40 (tyt40) := TOk1.of (by kernel_rfl) (by kernel_rfl) (by kernel_rfl) (by kernel_rfl) (by kernel_rfl) (by kernel_rfl) (by kernel_rfl) (fun _ => by kernel_rfl) (fun h => nomatch (show false = true from h))
theorem tok47 : TOk1 Go.Proofs.Tryz.prog 47 (tyt47) := TOk1.of (by kernel_rfl) (by kernel_rfl) (by kernel_rfl) (by kernel_rfl) (by kernel_rfl) (by kernel_rfl) (by kernel_rfl) (fun h => nomatch (show false = true from h)) (fun h => nomatch (show false = true from h))
theorem tok51 : TOk1 Go.Proofs.Tryz.prog 51 (tyt51) := TOk1.of (by kernel_rfl) (by kernel_rfl) (by kernel_rfl) (by kernel_rfl) (by kernel_rfl) (by kernel_rfl) (by kernel_rfl) (fun h => nomatch (show false = true from h)) (fun h => nomatch (show false = true from h))
theorem tok55 : TOk1 Go.Proofs.Tryz.prog 55 (tyt55) := TOk1.of (by kernel_rfl) (by kernel_rfl) (by kernel_rfl) (by kernel_rfl) (by kernel_rfl) (by kernel_rfl) (by kernel_rfl) (fun _ => by kernel_rfl) (fun _ => ⟨by kernel_rfl, by kernel_rfl, by kernel_rfl⟩)
theorem tok56 : TOk1 Go.Proofs.Tryz.prog 56 (tyt56) := TOk1.of (by kernel_rfl) (by kernel_rfl) (by kernel_rfl) (by kernel_rfl) (by kernel_rfl) (by kernel_rfl) (by kernel_rfl) (fun h => nomatch (show false = true from h)) (fun h => nomatch (show false = true from h))
theorem tok108 : TOk1 Go.Proofs.Tryz.prog 108 (tyt108) := TOk1.of (by kernel_rfl) (by kernel_rfl) (by kernel_rfl) (by kernel_rfl) (by kernel_rfl) (by kernel_rfl) (by kernel_rfl) (fun _ => by kernel_rfl) (fun _ => ⟨by kernel_rfl, by kernel_rfl, by kernel_rfl⟩)
theorem tok110 : TOk1 Go.Proofs.Tryz.prog 110 (tyt110) := TOk1.of (by kernel_rfl) (by kernel_rfl) (by kernel_rfl) (by kernel_rfl) (by kernel_rfl) (by kernel_rfl) (by kernel_rfl) (fun h => nomatch (show false = true from h)) (fun h => nomatch (show false = true from h))
theorem tok135 : TOk1 Go.Proofs.Tryz.prog 135 (tyt135) := TOk1.of (by kernel_rfl) (by kernel_rfl) (by kernel_rfl) (by kernel_rfl) (by kernel_rfl) (by kernel_rfl) (by kernel_rfl) (fun _ => by kernel_rfl) (fun _ => ⟨by kernel_rfl, by kernel_rfl, by kernel_rfl⟩)
theorem tok151 : TOk1 Go.Proofs.Tryz.prog 151 (tyt151) := TOk1.of (by kernel_rfl) (by kernel_rfl) (by kernel_rfl) (by kernel_rfl) (by kernel_rfl) (by kernel_rfl) (by kernel_rfl) (fun _ => by kernel_rfl) (fun _ => ⟨by kernel_rfl, by kernel_rfl, by kernel_rfl⟩)
theorem tok165 : TOk1 Go.Proofs.Tryz.prog 165 (tyt165) := TOk1.of (by kernel_rfl) (by kernel_rfl) (by kernel_rfl) (by kernel_rfl) (by kernel_rfl) (by kernel_rfl) (by kernel_rfl) (fun _ => by kernel_rfl) (fun _ => ⟨by kernel_rfl, by kernel_rfl, by kernel_rfl⟩)
theorem tok168 : TOk1 Go.Proofs.Tryz.prog 168 (tyt168) := TOk1.of (by kernel_rfl) (by kernel_rfl) (by kernel_rfl) (by kernel_rfl) (by kernel_rfl) (by kernel_rfl) (by kernel_rfl) (fun h => nomatch (show false = true from h)) (fun h => nomatch (show false = true from h))
theorem tyok : TOk Go.Proofs.Tryz.prog tyt := TOk.cons tok3 (TOk.cons tok5 (TOk.cons tok9 (TOk.cons tok23 (TOk.cons tok27 (TOk.cons tok30 (TOk.cons tok32 (TOk.cons tok34 (TOk.cons tok36 (TOk.cons tok38 (TOk.cons tok40 (TOk.cons tok47 (TOk.cons tok51 (TOk.cons tok55 (TOk.cons tok56 (TOk.cons tok108 (TOk.cons tok110 (TOk.cons tok135 (TOk.cons tok151 (TOk.cons tok165 (TOk.cons tok168 (TOk.nil _)))))))))))))))))))))
namespace laws_szCarpetS
/-! ### laws_szCarpetS: function 82 -/
def m (k : Nat) (l0 : List (Int × Int × Int × Int × Int)) (a1 : Int) : Option (Int) := (if (w64 (a1 - (l0.length : Int))) < 0 then (some (-1)) else (some (w64 (a1 - (l0.length : Int)))))
def f (k : Nat) (l0 : List (Int × Int × Int × Int × Int)) (a1 : Int) : Option (Int) := m k l0 a1
noncomputable def spec (k : Nat) : FnSpec := ⟨[.d (.sl (.pair (.int .i64) (.pair (.int .i64) (.pair (.int .i64) (.pair (.int .i64) (.int .i64)))))) none, .d (.int .i64) none], [.d (.int .i64) none], fun x => f k x.1 x.2⟩
noncomputable def T : FnText := ⟨(conv [] (bodyOf Tryz.f82) 0).1, Tryz.f82.results.toList, 12, [], [.d (.sl (.pair (.int .i64) (.pair (.int .i64) (.pair (.int .i64) (.pair (.int .i64) (.int .i64)))))) none, .d (.int .i64) none], [.d (.int .i64) none]⟩
noncomputable def tbl (k : Nat) : Tbl := []
theorem e (k : Nat) (o : Nat → St → Option (Int)) (l0 : List (Int × Int × Int × Int × Int)) (a1 : Int) : T.main tyt (tbl k) o (l0, a1) = m k l0 a1 := by kernel_rfl
theorem ok : T.ok = true := by kernel_rfl
theorem tblok (k : Nat) : TblOk Tryz.prog (tbl k) := TblOk.nil _
theorem sound (k : Nat) : Sound Tryz.prog 82 (spec k) := by
  have h := fn_ok (F := T) (tbl := tbl) mixed tyok Tryz.func82 (by kernel_rfl) (c0 := bodyOf Tryz.f82) rfl (conv_code _ _ _) rfl rfl ok k (fun j _ => tblok j)
  have e : spec k = ⟨T.ps, T.rs, T.ev tyt tbl k⟩ := congrArg (FnSpec.mk _ _) (funext fun x => ((e k (T.run tyt tbl k) x.1 x.2).trans (by rfl)).symm)
  rw [e]
  exact h
end laws_szCarpetS

namespace laws_szShop
/-! ### laws_szShop: function 42 -/
def m (k : Nat) (a0_0 a0_1 : Int) (l0_2 : List (Int × Int × Int × Int × Int)) (a0_3 a1 : Int) : Option (Int) := ((laws_szCarpetS.f k l0_2 a1).bind fun r1 => (if r1 < 0 then (some (-1)) else (some r1)))
def f (k : Nat) (a0_0 a0_1 : Int) (l0_2 : List (Int × Int × Int × Int × Int)) (a0_3 a1 : Int) : Option (Int) := m k a0_0 a0_1 l0_2 a0_3 a1
noncomputable def spec (k : Nat) : FnSpec := ⟨[.ag [.d (.int .i64) none, .d (.int .i64) none, .d (.sl (.pair (.int .i64) (.pair (.int .i64) (.pair (.int .i64) (.pair (.int .i64) (.int .i64)))))) none, .d (.int .i64) none], .d (.int .i64) none], [.d (.int .i64) none], fun x => f k x.1 x.2.1 x.2.2.1 x.2.2.2.1 x.2.2.2.2⟩
noncomputable def T : FnText := ⟨(conv [] (bodyOf Tryz.f42) 0).1, Tryz.f42.results.toList, 12, [], [.ag [.d (.int .i64) none, .d (.int .i64) none, .d (.sl (.pair (.int .i64) (.pair (.int .i64) (.pair (.int .i64) (.pair (.int .i64) (.int .i64)))))) none, .d (.int .i64) none], .d (.int .i64) none], [.d (.int .i64) none]⟩
noncomputable def tbl (k : Nat) : Tbl := [(82, laws_szCarpetS.spec k)]
theorem e (k : Nat) (o : Nat → St → Option (Int)) (a0_0 a0_1 : Int) (l0_2 : List (Int × Int × Int × Int × Int)) (a0_3 a1 : Int) : T.main tyt (tbl k) o (a0_0, a0_1, l0_2, a0_3, a1) = m k a0_0 a0_1 l0_2 a0_3 a1 := by kernel_rfl
theorem ok : T.ok = true := by kernel_rfl
theorem tblok (k : Nat) : TblOk Tryz.prog (tbl k) := TblOk.cons (laws_szCarpetS.sound k) (TblOk.nil _)
theorem sound (k : Nat) : Sound Tryz.prog 42 (spec k) := by
  have h := fn_ok (F := T) (tbl := tbl) mixed tyok Tryz.func42 (by kernel_rfl) (c0 := bodyOf Tryz.f42) rfl (conv_code _ _ _) rfl rfl ok k (fun j _ => tblok j)
  have e : spec k = ⟨T.ps, T.rs, T.ev tyt tbl k⟩ := congrArg (FnSpec.mk _ _) (funext fun x => ((e k (T.run tyt tbl k) x.1 x.2.1 x.2.2.1 x.2.2.2.1 x.2.2.2.2).trans (by rfl)).symm)
  rw [e]
  exact h
end laws_szShop

namespace laws_szLog
/-! ### laws_szLog: function 9 -/
def m (k : Nat) (a0_0 a0_1 : ByteArray) (a0_2 a1 : Int) : Option (Int) := (if (w64 (a1 - (a0_0.size : Int))) < 0 then (some (-1)) else (if (w64 ((w64 (a1 - (a0_0.size : Int))) - (a0_1.size : Int))) < 0 then (some (-1)) else (some (w64 ((w64 (a1 - (a0_0.size : Int))) - (a0_1.size : Int))))))
def f (k : Nat) (a0_0 a0_1 : ByteArray) (a0_2 a1 : Int) : Option (Int) := m k a0_0 a0_1 a0_2 a1
noncomputable def spec (k : Nat) : FnSpec := ⟨[.ag [.d .str none, .d .str none, .d (.int .i64) none], .d (.int .i64) none], [.d (.int .i64) none], fun x => f k x.1 x.2.1 x.2.2.1 x.2.2.2⟩
noncomputable def T : FnText := ⟨(conv [] (bodyOf Tryz.f9) 0).1, Tryz.f9.results.toList, 20, [], [.ag [.d .str none, .d .str none, .d (.int .i64) none], .d (.int .i64) none], [.d (.int .i64) none]⟩
noncomputable def tbl (k : Nat) : Tbl := []
theorem e (k : Nat) (o : Nat → St → Option (Int)) (a0_0 a0_1 : ByteArray) (a0_2 a1 : Int) : T.main tyt (tbl k) o (a0_0, a0_1, a0_2, a1) = m k a0_0 a0_1 a0_2 a1 := by kernel_rfl
theorem ok : T.ok = true := by kernel_rfl
theorem tblok (k : Nat) : TblOk Tryz.prog (tbl k) := TblOk.nil _
theorem sound (k : Nat) : Sound Tryz.prog 9 (spec k) := by
  have h := fn_ok (F := T) (tbl := tbl) mixed tyok Tryz.func9 (by kernel_rfl) (c0 := bodyOf Tryz.f9) rfl (conv_code _ _ _) rfl rfl ok k (fun j _ => tblok j)
  have e : spec k = ⟨T.ps, T.rs, T.ev tyt tbl k⟩ := congrArg (FnSpec.mk _ _) (funext fun x => ((e k (T.run tyt tbl k) x.1 x.2.1 x.2.2.1 x.2.2.2).trans (by rfl)).symm)
  rw [e]
  exact h
end laws_szLog

namespace laws_szConsole
/-! ### laws_szConsole: function 13 -/
def m (k : Nat) (a0_0 a0_1 : Int) (l0_2 : List (Int × Int × Int × Int × Int)) (a0_3 : Int) (a0_4 a0_5 : ByteArray) (a0_6 a1 : Int) : Option (Int) := ((laws_szShop.f k a0_0 a0_1 l0_2 a0_3 a1).bind fun r1 => (if r1 < 0 then (some (-1)) else ((laws_szLog.f k a0_4 a0_5 a0_6 r1).bind fun r2 => (if r2 < 0 then (some (-1)) else (some r2)))))
def f (k : Nat) (a0_0 a0_1 : Int) (l0_2 : List (Int × Int × Int × Int × Int)) (a0_3 : Int) (a0_4 a0_5 : ByteArray) (a0_6 a1 : Int) : Option (Int) := m k a0_0 a0_1 l0_2 a0_3 a0_4 a0_5 a0_6 a1
noncomputable def spec (k : Nat) : FnSpec := ⟨[.ag [.d (.int .i64) none, .d (.int .i64) none, .d (.sl (.pair (.int .i64) (.pair (.int .i64) (.pair (.int .i64) (.pair (.int .i64) (.int .i64)))))) none, .d (.int .i64) none, .d .str none, .d .str none, .d (.int .i64) none], .d (.int .i64) none], [.d (.int .i64) none], fun x => f k x.1 x.2.1 x.2.2.1 x.2.2.2.1 x.2.2.2.2.1 x.2.2.2.2.2.1 x.2.2.2.2.2.2.1 x.2.2.2.2.2.2.2⟩
noncomputable def T : FnText := ⟨(conv [] (bodyOf Tryz.f13) 0).1, Tryz.f13.results.toList, 18, [], [.ag [.d (.int .i64) none, .d (.int .i64) none, .d (.sl (.pair (.int .i64) (.pair (.int .i64) (.pair (.int .i64) (.pair (.int .i64) (.int .i64)))))) none, .d (.int .i64) none, .d .str none, .d .str none, .d (.int .i64) none], .d (.int .i64) none], [.d (.int .i64) none]⟩
noncomputable def tbl (k : Nat) : Tbl := [(42, laws_szShop.spec k), (9, laws_szLog.spec k)]
theorem e (k : Nat) (o : Nat → St → Option (Int)) (a0_0 a0_1 : Int) (l0_2 : List (Int × Int × Int × Int × Int)) (a0_3 : Int) (a0_4 a0_5 : ByteArray) (a0_6 a1 : Int) : T.main tyt (tbl k) o (a0_0, a0_1, l0_2, a0_3, a0_4, a0_5, a0_6, a1) = m k a0_0 a0_1 l0_2 a0_3 a0_4 a0_5 a0_6 a1 := by kernel_rfl
theorem ok : T.ok = true := by kernel_rfl
theorem tblok (k : Nat) : TblOk Tryz.prog (tbl k) := TblOk.cons (laws_szShop.sound k) (TblOk.cons (laws_szLog.sound k) (TblOk.nil _))
theorem sound (k : Nat) : Sound Tryz.prog 13 (spec k) := by
  have h := fn_ok (F := T) (tbl := tbl) mixed tyok Tryz.func13 (by kernel_rfl) (c0 := bodyOf Tryz.f13) rfl (conv_code _ _ _) rfl rfl ok k (fun j _ => tblok j)
  have e : spec k = ⟨T.ps, T.rs, T.ev tyt tbl k⟩ := congrArg (FnSpec.mk _ _) (funext fun x => ((e k (T.run tyt tbl k) x.1 x.2.1 x.2.2.1 x.2.2.2.1 x.2.2.2.2.1 x.2.2.2.2.2.1 x.2.2.2.2.2.2.1 x.2.2.2.2.2.2.2).trans (by rfl)).symm)
  rw [e]
  exact h
end laws_szConsole

namespace laws_toCarpet
/-! ### laws_toCarpet: function 132 -/
def m (k : Nat) (a0_0 a0_1 a0_2 a0_3 a0_4 : Int) : Option (Int × Int × Int × Int × Int) := (some (a0_0, a0_1, a0_2, a0_3, a0_4))
def f (k : Nat) (a0_0 a0_1 a0_2 a0_3 a0_4 : Int) : Option (Int × Int × Int × Int × Int) := m k a0_0 a0_1 a0_2 a0_3 a0_4
noncomputable def spec (k : Nat) : FnSpec := ⟨[.ag [.d (.int .i64) none, .d (.int .i64) none, .d (.int .i64) none, .d (.int .i64) none, .d (.int .i64) none]], [.ag [.d (.int .i64) none, .d (.int .i64) none, .d (.int .i64) none, .d (.int .i64) none, .d (.int .i64) none]], fun x => f k x.1 x.2.1 x.2.2.1 x.2.2.2.1 x.2.2.2.2⟩
noncomputable def T : FnText := ⟨(conv [] (bodyOf Tryz.f132) 0).1, Tryz.f132.results.toList, 20, [], [.ag [.d (.int .i64) none, .d (.int .i64) none, .d (.int .i64) none, .d (.int .i64) none, .d (.int .i64) none]], [.ag [.d (.int .i64) none, .d (.int .i64) none, .d (.int .i64) none, .d (.int .i64) none, .d (.int .i64) none]]⟩
noncomputable def tbl (k : Nat) : Tbl := []
theorem e (k : Nat) (o : Nat → St → Option (Int × Int × Int × Int × Int)) (a0_0 a0_1 a0_2 a0_3 a0_4 : Int) : T.main tyt (tbl k) o (a0_0, a0_1, a0_2, a0_3, a0_4) = m k a0_0 a0_1 a0_2 a0_3 a0_4 := by kernel_rfl
theorem ok : T.ok = true := by kernel_rfl
theorem tblok (k : Nat) : TblOk Tryz.prog (tbl k) := TblOk.nil _
theorem sound (k : Nat) : Sound Tryz.prog 132 (spec k) := by
  have h := fn_ok (F := T) (tbl := tbl) mixed tyok Tryz.func132 (by kernel_rfl) (c0 := bodyOf Tryz.f132) rfl (conv_code _ _ _) rfl rfl ok k (fun j _ => tblok j)
  have e : spec k = ⟨T.ps, T.rs, T.ev tyt tbl k⟩ := congrArg (FnSpec.mk _ _) (funext fun x => ((e k (T.run tyt tbl k) x.1 x.2.1 x.2.2.1 x.2.2.2.1 x.2.2.2.2).trans (by rfl)).symm)
  rw [e]
  exact h
end laws_toCarpet

namespace laws_toCarpetS
/-! ### laws_toCarpetS: function 92 -/
def b4 (o4 : (List (Int × Int × Int × Int × Int)) → (List (Int × Int × Int × Int × Int)) → Int → Option (List (Int × Int × Int × Int × Int))) (k : Nat) (l0_4 l1_4 : List (Int × Int × Int × Int × Int)) (x2_4 : Int) : Option (List (Int × Int × Int × Int × Int)) := (if x2_4 < (l0_4.length : Int) then ((chk l0_4.length x2_4).bind fun i2 => ((laws_toCarpet.f k ((l0_4.getD i2 (0, 0, 0, 0, 0)).1) (((l0_4.getD i2 (0, 0, 0, 0, 0)).2).1) ((((l0_4.getD i2 (0, 0, 0, 0, 0)).2).2).1) (((((l0_4.getD i2 (0, 0, 0, 0, 0)).2).2).2).1) (((((l0_4.getD i2 (0, 0, 0, 0, 0)).2).2).2).2)).bind fun r3 => ((chk l1_4.length x2_4).bind fun i4 => (o4 l0_4 (upd l1_4 i4 (0, 0, 0, 0, 0) fun e5 => (r3.1, r3.2.1, r3.2.2.1, r3.2.2.2.1, r3.2.2.2.2)) (w64 (x2_4 + 1)))))) else (some l1_4))
def l4 : Nat → (List (Int × Int × Int × Int × Int)) → (List (Int × Int × Int × Int × Int)) → Int → Option (List (Int × Int × Int × Int × Int))
  | 0, _, _, _ => none
  | k + 1, l0_4, l1_4, x2_4 => b4 (laws_toCarpetS.l4 k) k l0_4 l1_4 x2_4
def m (o4 : (List (Int × Int × Int × Int × Int)) → (List (Int × Int × Int × Int × Int)) → Int → Option (List (Int × Int × Int × Int × Int))) (k : Nat) (l0 : List (Int × Int × Int × Int × Int)) : Option (List (Int × Int × Int × Int × Int)) := ((mkl 3518437208883 (l0.length : Int) (l0.length : Int)).bind fun n1 => (o4 l0 (List.replicate n1 ((0, 0, 0, 0, 0) : Int × Int × Int × Int × Int)) 0))
def f (k : Nat) (l0 : List (Int × Int × Int × Int × Int)) : Option (List (Int × Int × Int × Int × Int)) := m (laws_toCarpetS.l4 k) k l0
noncomputable def spec (k : Nat) : FnSpec := ⟨[.d (.sl (.pair (.int .i64) (.pair (.int .i64) (.pair (.int .i64) (.pair (.int .i64) (.int .i64)))))) none], [.d (.sl (.pair (.int .i64) (.pair (.int .i64) (.pair (.int .i64) (.pair (.int .i64) (.int .i64)))))) (some 108)], fun x => f k x⟩
def S4 (l0_4 l1_4 : List (Int × Int × Int × Int × Int)) (x2_4 : Int) : St := ⟨[(0, .val (.sl (.pair (.int .i64) (.pair (.int .i64) (.pair (.int .i64) (.pair (.int .i64) (.int .i64)))))) l0_4), (3, .ref 100), (4, .val (.int .i64) x2_4)], [(100, some (.row 108 (.pair (.int .i64) (.pair (.int .i64) (.pair (.int .i64) (.pair (.int .i64) (.int .i64))))) l1_4))], 1000⟩
noncomputable def T : FnText := ⟨(conv [] (bodyOf Tryz.f92) 0).1, Tryz.f92.results.toList, 23, [(4, [(0, .rd (.sl (.pair (.int .i64) (.pair (.int .i64) (.pair (.int .i64) (.pair (.int .i64) (.int .i64))))))), (3, .own 108 (.pair (.int .i64) (.pair (.int .i64) (.pair (.int .i64) (.pair (.int .i64) (.int .i64))))) 100), (4, .rd (.int .i64))])], [.d (.sl (.pair (.int .i64) (.pair (.int .i64) (.pair (.int .i64) (.pair (.int .i64) (.int .i64)))))) none], [.d (.sl (.pair (.int .i64) (.pair (.int .i64) (.pair (.int .i64) (.pair (.int .i64) (.int .i64)))))) (some 108)]⟩
noncomputable def tbl (k : Nat) : Tbl := [(132, laws_toCarpet.spec k)]
theorem e4 (k : Nat) (o : Nat → St → Option (List (Int × Int × Int × Int × Int))) (l0_4 l1_4 : List (Int × Int × Int × Int × Int)) (x2_4 : Int) : T.step tyt (tbl k) o 4 (S4 l0_4 l1_4 x2_4) = b4 (fun l0_4 l1_4 x2_4 => o 4 (S4 l0_4 l1_4 x2_4)) k l0_4 l1_4 x2_4 := by kernel_rfl
theorem e (k : Nat) (o : Nat → St → Option (List (Int × Int × Int × Int × Int))) (l0 : List (Int × Int × Int × Int × Int)) : T.main tyt (tbl k) o l0 = m (fun l0_4 l1_4 x2_4 => o 4 (S4 l0_4 l1_4 x2_4)) k l0 := by kernel_rfl
theorem ok : T.ok = true := by kernel_rfl
theorem run (k : Nat) : (∀ (l0_4 l1_4 : List (Int × Int × Int × Int × Int)) (x2_4 : Int), T.run tyt tbl k 4 (S4 l0_4 l1_4 x2_4) = laws_toCarpetS.l4 k l0_4 l1_4 x2_4) := by
  induction k with
  | zero => exact fun l0_4 l1_4 x2_4 => rfl
  | succ k ih =>
    exact fun l0_4 l1_4 x2_4 => by
      have q4 : (fun l0_4 l1_4 x2_4 => T.run tyt tbl k 4 (S4 l0_4 l1_4 x2_4)) = laws_toCarpetS.l4 k := by funext l0_4 l1_4 x2_4; exact ih l0_4 l1_4 x2_4
      exact (e4 k (T.run tyt tbl k) l0_4 l1_4 x2_4).trans (by rw [q4]; rfl)
theorem tblok (k : Nat) : TblOk Tryz.prog (tbl k) := TblOk.cons (laws_toCarpet.sound k) (TblOk.nil _)
theorem sound (k : Nat) : Sound Tryz.prog 92 (spec k) := by
  have h := fn_ok (F := T) (tbl := tbl) mixed tyok Tryz.func92 (by kernel_rfl) (c0 := bodyOf Tryz.f92) rfl (conv_code _ _ _) rfl rfl ok k (fun j _ => tblok j)
  have q4 : (fun l0_4 l1_4 x2_4 => T.run tyt tbl k 4 (S4 l0_4 l1_4 x2_4)) = laws_toCarpetS.l4 k := by funext l0_4 l1_4 x2_4; exact (run k) l0_4 l1_4 x2_4
  have e : spec k = ⟨T.ps, T.rs, T.ev tyt tbl k⟩ := congrArg (FnSpec.mk _ _) (funext fun x => ((e k (T.run tyt tbl k) x).trans (by rw [q4]; rfl)).symm)
  rw [e]
  exact h
end laws_toCarpetS

namespace laws_toShop
/-! ### laws_toShop: function 48 -/
def m (k : Nat) (a0_0 a0_1 : Int) (l0_2 : List (Int × Int × Int × Int × Int)) (a0_3 : Int) : Option (Int × Int × List (Int × Int × Int × Int × Int) × Int) := ((laws_toCarpetS.f k l0_2).bind fun r1 => (some (a0_0, a0_1, r1, a0_3)))
def f (k : Nat) (a0_0 a0_1 : Int) (l0_2 : List (Int × Int × Int × Int × Int)) (a0_3 : Int) : Option (Int × Int × List (Int × Int × Int × Int × Int) × Int) := m k a0_0 a0_1 l0_2 a0_3
noncomputable def spec (k : Nat) : FnSpec := ⟨[.ag [.d (.int .i64) none, .d (.int .i64) none, .d (.sl (.pair (.int .i64) (.pair (.int .i64) (.pair (.int .i64) (.pair (.int .i64) (.int .i64)))))) none, .d (.int .i64) none]], [.ag [.d (.int .i64) none, .d (.int .i64) none, .d (.sl (.pair (.int .i64) (.pair (.int .i64) (.pair (.int .i64) (.pair (.int .i64) (.int .i64)))))) (some 108), .d (.int .i64) none]], fun x => f k x.1 x.2.1 x.2.2.1 x.2.2.2⟩
noncomputable def T : FnText := ⟨(conv [] (bodyOf Tryz.f48) 0).1, Tryz.f48.results.toList, 18, [], [.ag [.d (.int .i64) none, .d (.int .i64) none, .d (.sl (.pair (.int .i64) (.pair (.int .i64) (.pair (.int .i64) (.pair (.int .i64) (.int .i64)))))) none, .d (.int .i64) none]], [.ag [.d (.int .i64) none, .d (.int .i64) none, .d (.sl (.pair (.int .i64) (.pair (.int .i64) (.pair (.int .i64) (.pair (.int .i64) (.int .i64)))))) (some 108), .d (.int .i64) none]]⟩
noncomputable def tbl (k : Nat) : Tbl := [(92, laws_toCarpetS.spec k)]
theorem e (k : Nat) (o : Nat → St → Option (Int × Int × List (Int × Int × Int × Int × Int) × Int)) (a0_0 a0_1 : Int) (l0_2 : List (Int × Int × Int × Int × Int)) (a0_3 : Int) : T.main tyt (tbl k) o (a0_0, a0_1, l0_2, a0_3) = m k a0_0 a0_1 l0_2 a0_3 := by kernel_rfl
theorem ok : T.ok = true := by kernel_rfl
theorem tblok (k : Nat) : TblOk Tryz.prog (tbl k) := TblOk.cons (laws_toCarpetS.sound k) (TblOk.nil _)
theorem sound (k : Nat) : Sound Tryz.prog 48 (spec k) := by
  have h := fn_ok (F := T) (tbl := tbl) mixed tyok Tryz.func48 (by kernel_rfl) (c0 := bodyOf Tryz.f48) rfl (conv_code _ _ _) rfl rfl ok k (fun j _ => tblok j)
  have e : spec k = ⟨T.ps, T.rs, T.ev tyt tbl k⟩ := congrArg (FnSpec.mk _ _) (funext fun x => ((e k (T.run tyt tbl k) x.1 x.2.1 x.2.2.1 x.2.2.2).trans (by rfl)).symm)
  rw [e]
  exact h
end laws_toShop

namespace laws_toLog
/-! ### laws_toLog: function 11 -/
def m (k : Nat) (a0_0 a0_1 : ByteArray) (a0_2 : Int) : Option (ByteArray × ByteArray × Int) := (some (a0_0, a0_1, a0_2))
def f (k : Nat) (a0_0 a0_1 : ByteArray) (a0_2 : Int) : Option (ByteArray × ByteArray × Int) := m k a0_0 a0_1 a0_2
noncomputable def spec (k : Nat) : FnSpec := ⟨[.ag [.d .str none, .d .str none, .d (.int .i64) none]], [.ag [.d .str none, .d .str none, .d (.int .i64) none]], fun x => f k x.1 x.2.1 x.2.2⟩
noncomputable def T : FnText := ⟨(conv [] (bodyOf Tryz.f11) 0).1, Tryz.f11.results.toList, 14, [], [.ag [.d .str none, .d .str none, .d (.int .i64) none]], [.ag [.d .str none, .d .str none, .d (.int .i64) none]]⟩
noncomputable def tbl (k : Nat) : Tbl := []
theorem e (k : Nat) (o : Nat → St → Option (ByteArray × ByteArray × Int)) (a0_0 a0_1 : ByteArray) (a0_2 : Int) : T.main tyt (tbl k) o (a0_0, a0_1, a0_2) = m k a0_0 a0_1 a0_2 := by kernel_rfl
theorem ok : T.ok = true := by kernel_rfl
theorem tblok (k : Nat) : TblOk Tryz.prog (tbl k) := TblOk.nil _
theorem sound (k : Nat) : Sound Tryz.prog 11 (spec k) := by
  have h := fn_ok (F := T) (tbl := tbl) mixed tyok Tryz.func11 (by kernel_rfl) (c0 := bodyOf Tryz.f11) rfl (conv_code _ _ _) rfl rfl ok k (fun j _ => tblok j)
  have e : spec k = ⟨T.ps, T.rs, T.ev tyt tbl k⟩ := congrArg (FnSpec.mk _ _) (funext fun x => ((e k (T.run tyt tbl k) x.1 x.2.1 x.2.2).trans (by rfl)).symm)
  rw [e]
  exact h
end laws_toLog

namespace laws_toConsole
/-! ### laws_toConsole: function 15 -/
def m (k : Nat) (a0_0 a0_1 : Int) (l0_2 : List (Int × Int × Int × Int × Int)) (a0_3 : Int) (a0_4 a0_5 : ByteArray) (a0_6 : Int) : Option (Int × Int × List (Int × Int × Int × Int × Int) × Int × ByteArray × ByteArray × Int) := ((laws_toShop.f k a0_0 a0_1 l0_2 a0_3).bind fun r1 => ((laws_toLog.f k a0_4 a0_5 a0_6).bind fun r2 => (some (r1.1, r1.2.1, r1.2.2.1, r1.2.2.2, r2.1, r2.2.1, r2.2.2))))
def f (k : Nat) (a0_0 a0_1 : Int) (l0_2 : List (Int × Int × Int × Int × Int)) (a0_3 : Int) (a0_4 a0_5 : ByteArray) (a0_6 : Int) : Option (Int × Int × List (Int × Int × Int × Int × Int) × Int × ByteArray × ByteArray × Int) := m k a0_0 a0_1 l0_2 a0_3 a0_4 a0_5 a0_6
noncomputable def spec (k : Nat) : FnSpec := ⟨[.ag [.d (.int .i64) none, .d (.int .i64) none, .d (.sl (.pair (.int .i64) (.pair (.int .i64) (.pair (.int .i64) (.pair (.int .i64) (.int .i64)))))) none, .d (.int .i64) none, .d .str none, .d .str none, .d (.int .i64) none]], [.ag [.d (.int .i64) none, .d (.int .i64) none, .d (.sl (.pair (.int .i64) (.pair (.int .i64) (.pair (.int .i64) (.pair (.int .i64) (.int .i64)))))) (some 108), .d (.int .i64) none, .d .str none, .d .str none, .d (.int .i64) none]], fun x => f k x.1 x.2.1 x.2.2.1 x.2.2.2.1 x.2.2.2.2.1 x.2.2.2.2.2.1 x.2.2.2.2.2.2⟩
noncomputable def T : FnText := ⟨(conv [] (bodyOf Tryz.f15) 0).1, Tryz.f15.results.toList, 13, [], [.ag [.d (.int .i64) none, .d (.int .i64) none, .d (.sl (.pair (.int .i64) (.pair (.int .i64) (.pair (.int .i64) (.pair (.int .i64) (.int .i64)))))) none, .d (.int .i64) none, .d .str none, .d .str none, .d (.int .i64) none]], [.ag [.d (.int .i64) none, .d (.int .i64) none, .d (.sl (.pair (.int .i64) (.pair (.int .i64) (.pair (.int .i64) (.pair (.int .i64) (.int .i64)))))) (some 108), .d (.int .i64) none, .d .str none, .d .str none, .d (.int .i64) none]]⟩
noncomputable def tbl (k : Nat) : Tbl := [(48, laws_toShop.spec k), (11, laws_toLog.spec k)]
theorem e (k : Nat) (o : Nat → St → Option (Int × Int × List (Int × Int × Int × Int × Int) × Int × ByteArray × ByteArray × Int)) (a0_0 a0_1 : Int) (l0_2 : List (Int × Int × Int × Int × Int)) (a0_3 : Int) (a0_4 a0_5 : ByteArray) (a0_6 : Int) : T.main tyt (tbl k) o (a0_0, a0_1, l0_2, a0_3, a0_4, a0_5, a0_6) = m k a0_0 a0_1 l0_2 a0_3 a0_4 a0_5 a0_6 := by kernel_rfl
theorem ok : T.ok = true := by kernel_rfl
theorem tblok (k : Nat) : TblOk Tryz.prog (tbl k) := TblOk.cons (laws_toShop.sound k) (TblOk.cons (laws_toLog.sound k) (TblOk.nil _))
theorem sound (k : Nat) : Sound Tryz.prog 15 (spec k) := by
  have h := fn_ok (F := T) (tbl := tbl) mixed tyok Tryz.func15 (by kernel_rfl) (c0 := bodyOf Tryz.f15) rfl (conv_code _ _ _) rfl rfl ok k (fun j _ => tblok j)
  have e : spec k = ⟨T.ps, T.rs, T.ev tyt tbl k⟩ := congrArg (FnSpec.mk _ _) (funext fun x => ((e k (T.run tyt tbl k) x.1 x.2.1 x.2.2.1 x.2.2.2.1 x.2.2.2.2.1 x.2.2.2.2.2.1 x.2.2.2.2.2.2).trans (by rfl)).symm)
  rw [e]
  exact h
end laws_toConsole

namespace spec_l25Own
/-! ### spec_l25Own: function 83 -/
def m (k : Nat) (a0_0 a0_1 : Int) (l0_2 : List (Int × Int × Int × Int × Int)) (a0_3 : Int) : Option (Int × Int × List (Int × Int × Int × Int × Int) × Int) := ((app 3518437208883 ([] : List (Int × Int × Int × Int × Int)) l0_2).bind fun l1 => (some (a0_0, a0_1, l1, a0_3)))
def f (k : Nat) (a0_0 a0_1 : Int) (l0_2 : List (Int × Int × Int × Int × Int)) (a0_3 : Int) : Option (Int × Int × List (Int × Int × Int × Int × Int) × Int) := m k a0_0 a0_1 l0_2 a0_3
noncomputable def spec (k : Nat) : FnSpec := ⟨[.ag [.d (.int .i64) none, .d (.int .i64) none, .d (.sl (.pair (.int .i64) (.pair (.int .i64) (.pair (.int .i64) (.pair (.int .i64) (.int .i64)))))) none, .d (.int .i64) none]], [.ag [.d (.int .i64) none, .d (.int .i64) none, .d (.sl (.pair (.int .i64) (.pair (.int .i64) (.pair (.int .i64) (.pair (.int .i64) (.int .i64)))))) (some 108), .d (.int .i64) none]], fun x => f k x.1 x.2.1 x.2.2.1 x.2.2.2⟩
noncomputable def T : FnText := ⟨(conv [] (bodyOf Tryz.f83) 0).1, Tryz.f83.results.toList, 14, [], [.ag [.d (.int .i64) none, .d (.int .i64) none, .d (.sl (.pair (.int .i64) (.pair (.int .i64) (.pair (.int .i64) (.pair (.int .i64) (.int .i64)))))) none, .d (.int .i64) none]], [.ag [.d (.int .i64) none, .d (.int .i64) none, .d (.sl (.pair (.int .i64) (.pair (.int .i64) (.pair (.int .i64) (.pair (.int .i64) (.int .i64)))))) (some 108), .d (.int .i64) none]]⟩
noncomputable def tbl (k : Nat) : Tbl := []
theorem e (k : Nat) (o : Nat → St → Option (Int × Int × List (Int × Int × Int × Int × Int) × Int)) (a0_0 a0_1 : Int) (l0_2 : List (Int × Int × Int × Int × Int)) (a0_3 : Int) : T.main tyt (tbl k) o (a0_0, a0_1, l0_2, a0_3) = m k a0_0 a0_1 l0_2 a0_3 := by kernel_rfl
theorem ok : T.ok = true := by kernel_rfl
theorem tblok (k : Nat) : TblOk Tryz.prog (tbl k) := TblOk.nil _
theorem sound (k : Nat) : Sound Tryz.prog 83 (spec k) := by
  have h := fn_ok (F := T) (tbl := tbl) mixed tyok Tryz.func83 (by kernel_rfl) (c0 := bodyOf Tryz.f83) rfl (conv_code _ _ _) rfl rfl ok k (fun j _ => tblok j)
  have e : spec k = ⟨T.ps, T.rs, T.ev tyt tbl k⟩ := congrArg (FnSpec.mk _ _) (funext fun x => ((e k (T.run tyt tbl k) x.1 x.2.1 x.2.2.1 x.2.2.2).trans (by rfl)).symm)
  rw [e]
  exact h
end spec_l25Own

namespace spec_l28Own
/-! ### spec_l28Own: function 43 -/
def m (k : Nat) (a0_0 a0_1 : Int) (l0_2 : List (Int × Int × Int × Int × Int)) (a0_3 : Int) (a0_4 a0_5 : ByteArray) (a0_6 : Int) : Option (Int × Int × List (Int × Int × Int × Int × Int) × Int × ByteArray × ByteArray × Int) := ((spec_l25Own.f k a0_0 a0_1 l0_2 a0_3).bind fun r1 => (some (r1.1, r1.2.1, r1.2.2.1, r1.2.2.2, a0_4, a0_5, a0_6)))
def f (k : Nat) (a0_0 a0_1 : Int) (l0_2 : List (Int × Int × Int × Int × Int)) (a0_3 : Int) (a0_4 a0_5 : ByteArray) (a0_6 : Int) : Option (Int × Int × List (Int × Int × Int × Int × Int) × Int × ByteArray × ByteArray × Int) := m k a0_0 a0_1 l0_2 a0_3 a0_4 a0_5 a0_6
noncomputable def spec (k : Nat) : FnSpec := ⟨[.ag [.d (.int .i64) none, .d (.int .i64) none, .d (.sl (.pair (.int .i64) (.pair (.int .i64) (.pair (.int .i64) (.pair (.int .i64) (.int .i64)))))) none, .d (.int .i64) none, .d .str none, .d .str none, .d (.int .i64) none]], [.ag [.d (.int .i64) none, .d (.int .i64) none, .d (.sl (.pair (.int .i64) (.pair (.int .i64) (.pair (.int .i64) (.pair (.int .i64) (.int .i64)))))) (some 108), .d (.int .i64) none, .d .str none, .d .str none, .d (.int .i64) none]], fun x => f k x.1 x.2.1 x.2.2.1 x.2.2.2.1 x.2.2.2.2.1 x.2.2.2.2.2.1 x.2.2.2.2.2.2⟩
noncomputable def T : FnText := ⟨(conv [] (bodyOf Tryz.f43) 0).1, Tryz.f43.results.toList, 9, [], [.ag [.d (.int .i64) none, .d (.int .i64) none, .d (.sl (.pair (.int .i64) (.pair (.int .i64) (.pair (.int .i64) (.pair (.int .i64) (.int .i64)))))) none, .d (.int .i64) none, .d .str none, .d .str none, .d (.int .i64) none]], [.ag [.d (.int .i64) none, .d (.int .i64) none, .d (.sl (.pair (.int .i64) (.pair (.int .i64) (.pair (.int .i64) (.pair (.int .i64) (.int .i64)))))) (some 108), .d (.int .i64) none, .d .str none, .d .str none, .d (.int .i64) none]]⟩
noncomputable def tbl (k : Nat) : Tbl := [(83, spec_l25Own.spec k)]
theorem e (k : Nat) (o : Nat → St → Option (Int × Int × List (Int × Int × Int × Int × Int) × Int × ByteArray × ByteArray × Int)) (a0_0 a0_1 : Int) (l0_2 : List (Int × Int × Int × Int × Int)) (a0_3 : Int) (a0_4 a0_5 : ByteArray) (a0_6 : Int) : T.main tyt (tbl k) o (a0_0, a0_1, l0_2, a0_3, a0_4, a0_5, a0_6) = m k a0_0 a0_1 l0_2 a0_3 a0_4 a0_5 a0_6 := by kernel_rfl
theorem ok : T.ok = true := by kernel_rfl
theorem tblok (k : Nat) : TblOk Tryz.prog (tbl k) := TblOk.cons (spec_l25Own.sound k) (TblOk.nil _)
theorem sound (k : Nat) : Sound Tryz.prog 43 (spec k) := by
  have h := fn_ok (F := T) (tbl := tbl) mixed tyok Tryz.func43 (by kernel_rfl) (c0 := bodyOf Tryz.f43) rfl (conv_code _ _ _) rfl rfl ok k (fun j _ => tblok j)
  have e : spec k = ⟨T.ps, T.rs, T.ev tyt tbl k⟩ := congrArg (FnSpec.mk _ _) (funext fun x => ((e k (T.run tyt tbl k) x.1 x.2.1 x.2.2.1 x.2.2.2.1 x.2.2.2.2.1 x.2.2.2.2.2.1 x.2.2.2.2.2.2).trans (by rfl)).symm)
  rw [e]
  exact h
end spec_l28Own

namespace spec_l1In
/-! ### spec_l1In: function 118 -/
def m (k : Nat) (a0 a1 a2 : Int) : Option (Bool) := (if a1 ≤ a0 then (some (decide (a0 ≤ a2))) else (some false))
def f (k : Nat) (a0 a1 a2 : Int) : Option (Bool) := m k a0 a1 a2
noncomputable def spec (k : Nat) : FnSpec := ⟨[.d (.int .i64) none, .d (.int .i64) none, .d (.int .i64) none], [.d .bool none], fun x => f k x.1 x.2.1 x.2.2⟩
noncomputable def T : FnText := ⟨(conv [] (bodyOf Tryz.f118) 0).1, Tryz.f118.results.toList, 15, [], [.d (.int .i64) none, .d (.int .i64) none, .d (.int .i64) none], [.d .bool none]⟩
noncomputable def tbl (k : Nat) : Tbl := []
theorem e (k : Nat) (o : Nat → St → Option (Bool)) (a0 a1 a2 : Int) : T.main tyt (tbl k) o (a0, a1, a2) = m k a0 a1 a2 := by kernel_rfl
theorem ok : T.ok = true := by kernel_rfl
theorem tblok (k : Nat) : TblOk Tryz.prog (tbl k) := TblOk.nil _
theorem sound (k : Nat) : Sound Tryz.prog 118 (spec k) := by
  have h := fn_ok (F := T) (tbl := tbl) mixed tyok Tryz.func118 (by kernel_rfl) (c0 := bodyOf Tryz.f118) rfl (conv_code _ _ _) rfl rfl ok k (fun j _ => tblok j)
  have e : spec k = ⟨T.ps, T.rs, T.ev tyt tbl k⟩ := congrArg (FnSpec.mk _ _) (funext fun x => ((e k (T.run tyt tbl k) x.1 x.2.1 x.2.2).trans (by rfl)).symm)
  rw [e]
  exact h
end spec_l1In

namespace spec_l2Day
/-! ### spec_l2Day: function 121 -/
def m (k : Nat) (a0 : Int) : Option (Bool) := ((spec_l1In.f k a0 0 4000).bind fun r1 => (some r1))
def f (k : Nat) (a0 : Int) : Option (Bool) := m k a0
noncomputable def spec (k : Nat) : FnSpec := ⟨[.d (.int .i64) none], [.d .bool none], fun x => f k x⟩
noncomputable def T : FnText := ⟨(conv [] (bodyOf Tryz.f121) 0).1, Tryz.f121.results.toList, 5, [], [.d (.int .i64) none], [.d .bool none]⟩
noncomputable def tbl (k : Nat) : Tbl := [(118, spec_l1In.spec k)]
theorem e (k : Nat) (o : Nat → St → Option (Bool)) (a0 : Int) : T.main tyt (tbl k) o a0 = m k a0 := by kernel_rfl
theorem ok : T.ok = true := by kernel_rfl
theorem tblok (k : Nat) : TblOk Tryz.prog (tbl k) := TblOk.cons (spec_l1In.sound k) (TblOk.nil _)
theorem sound (k : Nat) : Sound Tryz.prog 121 (spec k) := by
  have h := fn_ok (F := T) (tbl := tbl) mixed tyok Tryz.func121 (by kernel_rfl) (c0 := bodyOf Tryz.f121) rfl (conv_code _ _ _) rfl rfl ok k (fun j _ => tblok j)
  have e : spec k = ⟨T.ps, T.rs, T.ev tyt tbl k⟩ := congrArg (FnSpec.mk _ _) (funext fun x => ((e k (T.run tyt tbl k) x).trans (by rfl)).symm)
  rw [e]
  exact h
end spec_l2Day

namespace spec_l25Carpet
/-! ### spec_l25Carpet: function 122 -/
def m (k : Nat) (a0_0 a0_1 : Int) (l0_2 : List (Int × Int × Int × Int × Int)) (a0_3 a1_0 a1_1 a1_2 a1_3 a1_4 : Int) : Option (Bool) := ((spec_l1In.f k a1_0 1 500).bind fun r1 => (cond (!r1) (some false) ((spec_l1In.f k a1_1 0 a1_0).bind fun r2 => (cond (!r2) (some false) ((spec_l1In.f k a1_2 0 4).bind fun r3 => (cond (!r3) (some false) ((spec_l1In.f k a1_4 0 a0_0).bind fun r4 => (cond (!r4) (some false) (if a1_2 = 1 then ((spec_l1In.f k a1_3 1 a0_1).bind fun r5 => (some r5)) else (if a1_2 = 0 then (if a1_3 = 0 then (some (decide (a1_1 = 0))) else (some false)) else (if a1_3 = 0 then (some (decide (a1_1 = a1_0))) else (some false))))))))))))
def f (k : Nat) (a0_0 a0_1 : Int) (l0_2 : List (Int × Int × Int × Int × Int)) (a0_3 a1_0 a1_1 a1_2 a1_3 a1_4 : Int) : Option (Bool) := m k a0_0 a0_1 l0_2 a0_3 a1_0 a1_1 a1_2 a1_3 a1_4
noncomputable def spec (k : Nat) : FnSpec := ⟨[.ag [.d (.int .i64) none, .d (.int .i64) none, .d (.sl (.pair (.int .i64) (.pair (.int .i64) (.pair (.int .i64) (.pair (.int .i64) (.int .i64)))))) none, .d (.int .i64) none], .ag [.d (.int .i64) none, .d (.int .i64) none, .d (.int .i64) none, .d (.int .i64) none, .d (.int .i64) none]], [.d .bool none], fun x => f k x.1 x.2.1 x.2.2.1 x.2.2.2.1 x.2.2.2.2.1 x.2.2.2.2.2.1 x.2.2.2.2.2.2.1 x.2.2.2.2.2.2.2.1 x.2.2.2.2.2.2.2.2⟩
noncomputable def T : FnText := ⟨(conv [] (bodyOf Tryz.f122) 0).1, Tryz.f122.results.toList, 60, [], [.ag [.d (.int .i64) none, .d (.int .i64) none, .d (.sl (.pair (.int .i64) (.pair (.int .i64) (.pair (.int .i64) (.pair (.int .i64) (.int .i64)))))) none, .d (.int .i64) none], .ag [.d (.int .i64) none, .d (.int .i64) none, .d (.int .i64) none, .d (.int .i64) none, .d (.int .i64) none]], [.d .bool none]⟩
noncomputable def tbl (k : Nat) : Tbl := [(118, spec_l1In.spec k)]
theorem e (k : Nat) (o : Nat → St → Option (Bool)) (a0_0 a0_1 : Int) (l0_2 : List (Int × Int × Int × Int × Int)) (a0_3 a1_0 a1_1 a1_2 a1_3 a1_4 : Int) : T.main tyt (tbl k) o (a0_0, a0_1, l0_2, a0_3, a1_0, a1_1, a1_2, a1_3, a1_4) = m k a0_0 a0_1 l0_2 a0_3 a1_0 a1_1 a1_2 a1_3 a1_4 := by kernel_rfl
theorem ok : T.ok = true := by kernel_rfl
theorem tblok (k : Nat) : TblOk Tryz.prog (tbl k) := TblOk.cons (spec_l1In.sound k) (TblOk.nil _)
theorem sound (k : Nat) : Sound Tryz.prog 122 (spec k) := by
  have h := fn_ok (F := T) (tbl := tbl) mixed tyok Tryz.func122 (by kernel_rfl) (c0 := bodyOf Tryz.f122) rfl (conv_code _ _ _) rfl rfl ok k (fun j _ => tblok j)
  have e : spec k = ⟨T.ps, T.rs, T.ev tyt tbl k⟩ := congrArg (FnSpec.mk _ _) (funext fun x => ((e k (T.run tyt tbl k) x.1 x.2.1 x.2.2.1 x.2.2.2.1 x.2.2.2.2.1 x.2.2.2.2.2.1 x.2.2.2.2.2.2.1 x.2.2.2.2.2.2.2.1 x.2.2.2.2.2.2.2.2).trans (by rfl)).symm)
  rw [e]
  exact h
end spec_l25Carpet

namespace spec_l25Good
/-! ### spec_l25Good: function 84 -/
def b6 (o14 : Int → Int → (List (Int × Int × Int × Int × Int)) → Int → Int → Int → Option (Bool)) (k : Nat) (x0_6 x1_6 : Int) (l2_6 : List (Int × Int × Int × Int × Int)) (x3_6 x4_6 : Int) : Option (Bool) := (if x4_6 < (l2_6.length : Int) then ((chk l2_6.length x4_6).bind fun i4 => ((spec_l25Carpet.f k x0_6 x1_6 l2_6 x3_6 ((l2_6.getD i4 (0, 0, 0, 0, 0)).1) (((l2_6.getD i4 (0, 0, 0, 0, 0)).2).1) ((((l2_6.getD i4 (0, 0, 0, 0, 0)).2).2).1) (((((l2_6.getD i4 (0, 0, 0, 0, 0)).2).2).2).1) (((((l2_6.getD i4 (0, 0, 0, 0, 0)).2).2).2).2)).bind fun r5 => (cond (!r5) (some false) (o14 x0_6 x1_6 l2_6 x3_6 x4_6 0)))) else (some true))
def b14 (o6 : Int → Int → (List (Int × Int × Int × Int × Int)) → Int → Int → Option (Bool)) (o14 : Int → Int → (List (Int × Int × Int × Int × Int)) → Int → Int → Int → Option (Bool)) (k : Nat) (x0_14 x1_14 : Int) (l2_14 : List (Int × Int × Int × Int × Int)) (x3_14 x4_14 x5_14 : Int) : Option (Bool) := (if x5_14 < x4_14 then ((chk l2_14.length x4_14).bind fun i6 => (if 0 < (((((l2_14.getD i6 (0, 0, 0, 0, 0)).2).2).2).1) then ((chk l2_14.length x5_14).bind fun i7 => ((chk l2_14.length x4_14).bind fun i8 => (if (((((l2_14.getD i7 (0, 0, 0, 0, 0)).2).2).2).1) = (((((l2_14.getD i8 (0, 0, 0, 0, 0)).2).2).2).1) then (some false) else (o14 x0_14 x1_14 l2_14 x3_14 x4_14 (w64 (x5_14 + 1)))))) else (o14 x0_14 x1_14 l2_14 x3_14 x4_14 (w64 (x5_14 + 1))))) else (o6 x0_14 x1_14 l2_14 x3_14 (w64 (x4_14 + 1))))
mutual
def l6 : Nat → Int → Int → (List (Int × Int × Int × Int × Int)) → Int → Int → Option (Bool)
  | 0, _, _, _, _, _ => none
  | k + 1, x0_6, x1_6, l2_6, x3_6, x4_6 => b6 (spec_l25Good.l14 k) k x0_6 x1_6 l2_6 x3_6 x4_6
def l14 : Nat → Int → Int → (List (Int × Int × Int × Int × Int)) → Int → Int → Int → Option (Bool)
  | 0, _, _, _, _, _, _ => none
  | k + 1, x0_14, x1_14, l2_14, x3_14, x4_14, x5_14 => b14 (spec_l25Good.l6 k) (spec_l25Good.l14 k) k x0_14 x1_14 l2_14 x3_14 x4_14 x5_14
end
def m (o6 : Int → Int → (List (Int × Int × Int × Int × Int)) → Int → Int → Option (Bool)) (k : Nat) (a0_0 a0_1 : Int) (l0_2 : List (Int × Int × Int × Int × Int)) (a0_3 : Int) : Option (Bool) := ((spec_l2Day.f k a0_0).bind fun r1 => (cond (!r1) (some false) ((spec_l1In.f k a0_1 1 4).bind fun r2 => (cond (!r2) (some false) ((spec_l1In.f k a0_3 0 1000000).bind fun r3 => (cond (!r3) (some false) (if 8 < (l0_2.length : Int) then (some false) else (o6 a0_0 a0_1 l0_2 a0_3 0))))))))
def f (k : Nat) (a0_0 a0_1 : Int) (l0_2 : List (Int × Int × Int × Int × Int)) (a0_3 : Int) : Option (Bool) := m (spec_l25Good.l6 k) k a0_0 a0_1 l0_2 a0_3
noncomputable def spec (k : Nat) : FnSpec := ⟨[.ag [.d (.int .i64) none, .d (.int .i64) none, .d (.sl (.pair (.int .i64) (.pair (.int .i64) (.pair (.int .i64) (.pair (.int .i64) (.int .i64)))))) none, .d (.int .i64) none]], [.d .bool none], fun x => f k x.1 x.2.1 x.2.2.1 x.2.2.2⟩
def S6 (x0_6 x1_6 : Int) (l2_6 : List (Int × Int × Int × Int × Int)) (x3_6 x4_6 : Int) : St := ⟨[(1, .ptr 100 0), (3, .val (.int .i64) x4_6)], [(100, some (.box [.val (.int .i64) x0_6, .val (.int .i64) x1_6, .val (.sl (.pair (.int .i64) (.pair (.int .i64) (.pair (.int .i64) (.pair (.int .i64) (.int .i64)))))) l2_6, .val (.int .i64) x3_6]))], 1000⟩
def S14 (x0_14 x1_14 : Int) (l2_14 : List (Int × Int × Int × Int × Int)) (x3_14 x4_14 x5_14 : Int) : St := ⟨[(1, .ptr 100 0), (3, .val (.int .i64) x4_14), (4, .val (.int .i64) x5_14)], [(100, some (.box [.val (.int .i64) x0_14, .val (.int .i64) x1_14, .val (.sl (.pair (.int .i64) (.pair (.int .i64) (.pair (.int .i64) (.pair (.int .i64) (.int .i64)))))) l2_14, .val (.int .i64) x3_14]))], 1000⟩
noncomputable def T : FnText := ⟨(conv [] (bodyOf Tryz.f84) 0).1, Tryz.f84.results.toList, 69, [(6, [(1, .bx 100 [.rd (.int .i64), .rd (.int .i64), .rd (.sl (.pair (.int .i64) (.pair (.int .i64) (.pair (.int .i64) (.pair (.int .i64) (.int .i64)))))), .rd (.int .i64)]), (3, .rd (.int .i64))]), (14, [(1, .bx 100 [.rd (.int .i64), .rd (.int .i64), .rd (.sl (.pair (.int .i64) (.pair (.int .i64) (.pair (.int .i64) (.pair (.int .i64) (.int .i64)))))), .rd (.int .i64)]), (3, .rd (.int .i64)), (4, .rd (.int .i64))])], [.ag [.d (.int .i64) none, .d (.int .i64) none, .d (.sl (.pair (.int .i64) (.pair (.int .i64) (.pair (.int .i64) (.pair (.int .i64) (.int .i64)))))) none, .d (.int .i64) none]], [.d .bool none]⟩
noncomputable def tbl (k : Nat) : Tbl := [(121, spec_l2Day.spec k), (118, spec_l1In.spec k), (122, spec_l25Carpet.spec k)]
theorem e6 (k : Nat) (o : Nat → St → Option (Bool)) (x0_6 x1_6 : Int) (l2_6 : List (Int × Int × Int × Int × Int)) (x3_6 x4_6 : Int) : T.step tyt (tbl k) o 6 (S6 x0_6 x1_6 l2_6 x3_6 x4_6) = b6 (fun x0_14 x1_14 l2_14 x3_14 x4_14 x5_14 => o 14 (S14 x0_14 x1_14 l2_14 x3_14 x4_14 x5_14)) k x0_6 x1_6 l2_6 x3_6 x4_6 := by kernel_rfl
theorem e14 (k : Nat) (o : Nat → St → Option (Bool)) (x0_14 x1_14 : Int) (l2_14 : List (Int × Int × Int × Int × Int)) (x3_14 x4_14 x5_14 : Int) : T.step tyt (tbl k) o 14 (S14 x0_14 x1_14 l2_14 x3_14 x4_14 x5_14) = b14 (fun x0_6 x1_6 l2_6 x3_6 x4_6 => o 6 (S6 x0_6 x1_6 l2_6 x3_6 x4_6)) (fun x0_14 x1_14 l2_14 x3_14 x4_14 x5_14 => o 14 (S14 x0_14 x1_14 l2_14 x3_14 x4_14 x5_14)) k x0_14 x1_14 l2_14 x3_14 x4_14 x5_14 := by kernel_rfl
theorem e (k : Nat) (o : Nat → St → Option (Bool)) (a0_0 a0_1 : Int) (l0_2 : List (Int × Int × Int × Int × Int)) (a0_3 : Int) : T.main tyt (tbl k) o (a0_0, a0_1, l0_2, a0_3) = m (fun x0_6 x1_6 l2_6 x3_6 x4_6 => o 6 (S6 x0_6 x1_6 l2_6 x3_6 x4_6)) k a0_0 a0_1 l0_2 a0_3 := by kernel_rfl
theorem ok : T.ok = true := by kernel_rfl
theorem run (k : Nat) : (∀ (x0_6 x1_6 : Int) (l2_6 : List (Int × Int × Int × Int × Int)) (x3_6 x4_6 : Int), T.run tyt tbl k 6 (S6 x0_6 x1_6 l2_6 x3_6 x4_6) = spec_l25Good.l6 k x0_6 x1_6 l2_6 x3_6 x4_6) ∧ (∀ (x0_14 x1_14 : Int) (l2_14 : List (Int × Int × Int × Int × Int)) (x3_14 x4_14 x5_14 : Int), T.run tyt tbl k 14 (S14 x0_14 x1_14 l2_14 x3_14 x4_14 x5_14) = spec_l25Good.l14 k x0_14 x1_14 l2_14 x3_14 x4_14 x5_14) := by
  induction k with
  | zero => exact ⟨fun x0_6 x1_6 l2_6 x3_6 x4_6 => rfl, fun x0_14 x1_14 l2_14 x3_14 x4_14 x5_14 => rfl⟩
  | succ k ih =>
    exact ⟨fun x0_6 x1_6 l2_6 x3_6 x4_6 => by
      have q14 : (fun x0_14 x1_14 l2_14 x3_14 x4_14 x5_14 => T.run tyt tbl k 14 (S14 x0_14 x1_14 l2_14 x3_14 x4_14 x5_14)) = spec_l25Good.l14 k := by funext x0_14 x1_14 l2_14 x3_14 x4_14 x5_14; exact ih.2 x0_14 x1_14 l2_14 x3_14 x4_14 x5_14
      exact (e6 k (T.run tyt tbl k) x0_6 x1_6 l2_6 x3_6 x4_6).trans (by rw [q14]; rfl), fun x0_14 x1_14 l2_14 x3_14 x4_14 x5_14 => by
      have q6 : (fun x0_6 x1_6 l2_6 x3_6 x4_6 => T.run tyt tbl k 6 (S6 x0_6 x1_6 l2_6 x3_6 x4_6)) = spec_l25Good.l6 k := by funext x0_6 x1_6 l2_6 x3_6 x4_6; exact ih.1 x0_6 x1_6 l2_6 x3_6 x4_6
      have q14 : (fun x0_14 x1_14 l2_14 x3_14 x4_14 x5_14 => T.run tyt tbl k 14 (S14 x0_14 x1_14 l2_14 x3_14 x4_14 x5_14)) = spec_l25Good.l14 k := by funext x0_14 x1_14 l2_14 x3_14 x4_14 x5_14; exact ih.2 x0_14 x1_14 l2_14 x3_14 x4_14 x5_14
      exact (e14 k (T.run tyt tbl k) x0_14 x1_14 l2_14 x3_14 x4_14 x5_14).trans (by rw [q6, q14]; rfl)⟩
theorem tblok (k : Nat) : TblOk Tryz.prog (tbl k) := TblOk.cons (spec_l2Day.sound k) (TblOk.cons (spec_l1In.sound k) (TblOk.cons (spec_l25Carpet.sound k) (TblOk.nil _)))
theorem sound (k : Nat) : Sound Tryz.prog 84 (spec k) := by
  have h := fn_ok (F := T) (tbl := tbl) mixed tyok Tryz.func84 (by kernel_rfl) (c0 := bodyOf Tryz.f84) rfl (conv_code _ _ _) rfl rfl ok k (fun j _ => tblok j)
  have q6 : (fun x0_6 x1_6 l2_6 x3_6 x4_6 => T.run tyt tbl k 6 (S6 x0_6 x1_6 l2_6 x3_6 x4_6)) = spec_l25Good.l6 k := by funext x0_6 x1_6 l2_6 x3_6 x4_6; exact (run k).1 x0_6 x1_6 l2_6 x3_6 x4_6
  have e : spec k = ⟨T.ps, T.rs, T.ev tyt tbl k⟩ := congrArg (FnSpec.mk _ _) (funext fun x => ((e k (T.run tyt tbl k) x.1 x.2.1 x.2.2.1 x.2.2.2).trans (by rw [q6]; rfl)).symm)
  rw [e]
  exact h
end spec_l25Good

namespace spec_l1Split
/-! ### spec_l1Split: function 66 -/
def b5 (o5 : ByteArray → Int → List ByteArray → Int → Int → Option (List ByteArray)) (k : Nat) (x0_5 : ByteArray) (x1_5 : Int) (l2_5 : List ByteArray) (x3_5 x4_5 : Int) : Option (List ByteArray) := (if x4_5 < (x0_5.size : Int) then ((chk x0_5.size x4_5).bind fun i1 => (if (byteAt x0_5 i1) = x1_5 then ((cut x0_5.size x3_5 x4_5).bind fun c2 => ((app 8796093022208 l2_5 [(x0_5.extract c2.1 (c2.1 + c2.2))]).bind fun l3 => (o5 x0_5 x1_5 l3 (w64 (x4_5 + 1)) (w64 (x4_5 + 1))))) else (o5 x0_5 x1_5 l2_5 x3_5 (w64 (x4_5 + 1))))) else ((cut x0_5.size x3_5 (x0_5.size : Int)).bind fun c4 => ((app 8796093022208 l2_5 [(x0_5.extract c4.1 (c4.1 + c4.2))]).bind fun l5 => (some l5))))
def l5 : Nat → ByteArray → Int → List ByteArray → Int → Int → Option (List ByteArray)
  | 0, _, _, _, _, _ => none
  | k + 1, x0_5, x1_5, l2_5, x3_5, x4_5 => b5 (spec_l1Split.l5 k) k x0_5 x1_5 l2_5 x3_5 x4_5
def m (o5 : ByteArray → Int → List ByteArray → Int → Int → Option (List ByteArray)) (k : Nat) (a0 : ByteArray) (a1 : Int) : Option (List ByteArray) := (o5 a0 a1 ([] : List (ByteArray)) 0 0)
def f (k : Nat) (a0 : ByteArray) (a1 : Int) : Option (List ByteArray) := m (spec_l1Split.l5 k) k a0 a1
noncomputable def spec (k : Nat) : FnSpec := ⟨[.d .str none, .d (.int .u8) none], [.d (.sl .str) (some 9)], fun x => f k x.1 x.2⟩
def S5 (x0_5 : ByteArray) (x1_5 : Int) (l2_5 : List ByteArray) (x3_5 x4_5 : Int) : St := ⟨[(0, .val .str x0_5), (1, .val (.int .u8) x1_5), (5, .ref 100), (6, .val (.int .i64) x3_5), (7, .val (.int .i64) x4_5)], [(100, some (.row 9 .str l2_5))], 1000⟩
noncomputable def T : FnText := ⟨(conv [] (bodyOf Tryz.f66) 0).1, Tryz.f66.results.toList, 35, [(5, [(0, .rd .str), (1, .rd (.int .u8)), (5, .own 9 .str 100), (6, .rd (.int .i64)), (7, .rd (.int .i64))])], [.d .str none, .d (.int .u8) none], [.d (.sl .str) (some 9)]⟩
noncomputable def tbl (k : Nat) : Tbl := []
theorem e5 (k : Nat) (o : Nat → St → Option (List ByteArray)) (x0_5 : ByteArray) (x1_5 : Int) (l2_5 : List ByteArray) (x3_5 x4_5 : Int) : T.step tyt (tbl k) o 5 (S5 x0_5 x1_5 l2_5 x3_5 x4_5) = b5 (fun x0_5 x1_5 l2_5 x3_5 x4_5 => o 5 (S5 x0_5 x1_5 l2_5 x3_5 x4_5)) k x0_5 x1_5 l2_5 x3_5 x4_5 := by kernel_rfl
theorem e (k : Nat) (o : Nat → St → Option (List ByteArray)) (a0 : ByteArray) (a1 : Int) : T.main tyt (tbl k) o (a0, a1) = m (fun x0_5 x1_5 l2_5 x3_5 x4_5 => o 5 (S5 x0_5 x1_5 l2_5 x3_5 x4_5)) k a0 a1 := by kernel_rfl
theorem ok : T.ok = true := by kernel_rfl
theorem run (k : Nat) : (∀ (x0_5 : ByteArray) (x1_5 : Int) (l2_5 : List ByteArray) (x3_5 x4_5 : Int), T.run tyt tbl k 5 (S5 x0_5 x1_5 l2_5 x3_5 x4_5) = spec_l1Split.l5 k x0_5 x1_5 l2_5 x3_5 x4_5) := by
  induction k with
  | zero => exact fun x0_5 x1_5 l2_5 x3_5 x4_5 => rfl
  | succ k ih =>
    exact fun x0_5 x1_5 l2_5 x3_5 x4_5 => by
      have q5 : (fun x0_5 x1_5 l2_5 x3_5 x4_5 => T.run tyt tbl k 5 (S5 x0_5 x1_5 l2_5 x3_5 x4_5)) = spec_l1Split.l5 k := by funext x0_5 x1_5 l2_5 x3_5 x4_5; exact ih x0_5 x1_5 l2_5 x3_5 x4_5
      exact (e5 k (T.run tyt tbl k) x0_5 x1_5 l2_5 x3_5 x4_5).trans (by rw [q5]; rfl)
theorem tblok (k : Nat) : TblOk Tryz.prog (tbl k) := TblOk.nil _
theorem sound (k : Nat) : Sound Tryz.prog 66 (spec k) := by
  have h := fn_ok (F := T) (tbl := tbl) mixed tyok Tryz.func66 (by kernel_rfl) (c0 := bodyOf Tryz.f66) rfl (conv_code _ _ _) rfl rfl ok k (fun j _ => tblok j)
  have q5 : (fun x0_5 x1_5 l2_5 x3_5 x4_5 => T.run tyt tbl k 5 (S5 x0_5 x1_5 l2_5 x3_5 x4_5)) = spec_l1Split.l5 k := by funext x0_5 x1_5 l2_5 x3_5 x4_5; exact (run k) x0_5 x1_5 l2_5 x3_5 x4_5
  have e : spec k = ⟨T.ps, T.rs, T.ev tyt tbl k⟩ := congrArg (FnSpec.mk _ _) (funext fun x => ((e k (T.run tyt tbl k) x.1 x.2).trans (by rw [q5]; rfl)).symm)
  rw [e]
  exact h
end spec_l1Split

namespace spec_l1Num
/-! ### spec_l1Num: function 73, that calls itself -/
def m (self : Int → Option (ByteArray)) (k : Nat) (a0 : Int) : Option (ByteArray) := (if a0 < 0 then ((self (w64 (0 - a0))).bind fun r1 => ((catS (⟨#[45]⟩ : ByteArray) r1).bind fun s2 => (some s2))) else (if a0 < 10 then ((cut ((⟨#[48, 49, 50, 51, 52, 53, 54, 55, 56, 57]⟩ : ByteArray).size) a0 (w64 (a0 + 1))).bind fun c3 => (some ((⟨#[48, 49, 50, 51, 52, 53, 54, 55, 56, 57]⟩ : ByteArray).extract c3.1 (c3.1 + c3.2)))) else ((quo .i64 a0 10).bind fun q4 => ((self q4).bind fun r5 => ((rem a0 10).bind fun q6 => ((rem a0 10).bind fun q7 => ((cut ((⟨#[48, 49, 50, 51, 52, 53, 54, 55, 56, 57]⟩ : ByteArray).size) q6 (w64 (q7 + 1))).bind fun c8 => ((catS r5 ((⟨#[48, 49, 50, 51, 52, 53, 54, 55, 56, 57]⟩ : ByteArray).extract c8.1 (c8.1 + c8.2))).bind fun s9 => (some s9)))))))))
def f : Nat → Int → Option (ByteArray)
  | 0, _ => none
  | k + 1, a0 => m (f k) (k + 1) a0
noncomputable def spec (k : Nat) : FnSpec := ⟨[.d (.int .i64) none], [.d .str none], fun x => f k x⟩
noncomputable def T : FnText := ⟨(conv [] (bodyOf Tryz.f73) 0).1, Tryz.f73.results.toList, 25, [], [.d (.int .i64) none], [.d .str none]⟩
noncomputable def tbl (k0 k : Nat) : Tbl := [(73, spec k0)]
theorem e (k0 k : Nat) (o : Nat → St → Option (ByteArray)) (a0 : Int) : T.main tyt (tbl k0 k) o a0 = m (f k0) k a0 := by kernel_rfl
theorem ok : T.ok = true := by kernel_rfl
theorem tblok (k0 k : Nat) (hs : Sound Tryz.prog 73 (spec k0)) : TblOk Tryz.prog (tbl k0 k) := TblOk.cons hs (TblOk.nil _)
theorem sound (k : Nat) : Sound Tryz.prog 73 (spec k) := by
  induction k with
  | zero => exact ⟨fun args w => enters_fn Tryz.func73 (by kernel_rfl) rfl args w, fun x r hx => nomatch (show none = some r from hx)⟩
  | succ k0 ih =>
  have h := fn_ok (F := T) (tbl := tbl k0) mixed tyok Tryz.func73 (by kernel_rfl) (c0 := bodyOf Tryz.f73) rfl (conv_code _ _ _) rfl rfl ok (k0 + 1) (fun j _ => tblok k0 j ih)
  have e : spec (k0 + 1) = ⟨T.ps, T.rs, T.ev tyt (tbl k0) (k0 + 1)⟩ := congrArg (FnSpec.mk _ _) (funext fun x => ((e k0 (k0 + 1) (T.run tyt (tbl k0) (k0 + 1)) x).trans (by rfl)).symm)
  rw [e]
  exact h
end spec_l1Num

namespace spec_l27Plain
/-! ### spec_l27Plain: function 85 -/
def b3 (o3 : ByteArray → Int → Int → Option (Bool)) (k : Nat) (x0_3 : ByteArray) (x1_3 x2_3 : Int) : Option (Bool) := (if x2_3 < (x0_3.size : Int) then ((chk x0_3.size x2_3).bind fun i1 => ((spec_l1In.f k (w64 ((byteAt x0_3 i1))) 32 126).bind fun r2 => (cond (!r2) (some false) ((chk x0_3.size x2_3).bind fun i3 => (if (byteAt x0_3 i3) = 35 then (some false) else (o3 x0_3 x1_3 (w64 (x2_3 + 1)))))))) else (some (decide ((x0_3.size : Int) ≤ x1_3))))
def l3 : Nat → ByteArray → Int → Int → Option (Bool)
  | 0, _, _, _ => none
  | k + 1, x0_3, x1_3, x2_3 => b3 (spec_l27Plain.l3 k) k x0_3 x1_3 x2_3
def m (o3 : ByteArray → Int → Int → Option (Bool)) (k : Nat) (a0 : ByteArray) (a1 : Int) : Option (Bool) := (o3 a0 a1 0)
def f (k : Nat) (a0 : ByteArray) (a1 : Int) : Option (Bool) := m (spec_l27Plain.l3 k) k a0 a1
noncomputable def spec (k : Nat) : FnSpec := ⟨[.d .str none, .d (.int .i64) none], [.d .bool none], fun x => f k x.1 x.2⟩
def S3 (x0_3 : ByteArray) (x1_3 x2_3 : Int) : St := ⟨[(0, .val .str x0_3), (1, .val (.int .i64) x1_3), (5, .val (.int .i64) x2_3)], [], 1000⟩
noncomputable def T : FnText := ⟨(conv [] (bodyOf Tryz.f85) 0).1, Tryz.f85.results.toList, 28, [(3, [(0, .rd .str), (1, .rd (.int .i64)), (5, .rd (.int .i64))])], [.d .str none, .d (.int .i64) none], [.d .bool none]⟩
noncomputable def tbl (k : Nat) : Tbl := [(118, spec_l1In.spec k)]
theorem e3 (k : Nat) (o : Nat → St → Option (Bool)) (x0_3 : ByteArray) (x1_3 x2_3 : Int) : T.step tyt (tbl k) o 3 (S3 x0_3 x1_3 x2_3) = b3 (fun x0_3 x1_3 x2_3 => o 3 (S3 x0_3 x1_3 x2_3)) k x0_3 x1_3 x2_3 := by kernel_rfl
theorem e (k : Nat) (o : Nat → St → Option (Bool)) (a0 : ByteArray) (a1 : Int) : T.main tyt (tbl k) o (a0, a1) = m (fun x0_3 x1_3 x2_3 => o 3 (S3 x0_3 x1_3 x2_3)) k a0 a1 := by kernel_rfl
theorem ok : T.ok = true := by kernel_rfl
theorem run (k : Nat) : (∀ (x0_3 : ByteArray) (x1_3 x2_3 : Int), T.run tyt tbl k 3 (S3 x0_3 x1_3 x2_3) = spec_l27Plain.l3 k x0_3 x1_3 x2_3) := by
  induction k with
  | zero => exact fun x0_3 x1_3 x2_3 => rfl
  | succ k ih =>
    exact fun x0_3 x1_3 x2_3 => by
      have q3 : (fun x0_3 x1_3 x2_3 => T.run tyt tbl k 3 (S3 x0_3 x1_3 x2_3)) = spec_l27Plain.l3 k := by funext x0_3 x1_3 x2_3; exact ih x0_3 x1_3 x2_3
      exact (e3 k (T.run tyt tbl k) x0_3 x1_3 x2_3).trans (by rw [q3]; rfl)
theorem tblok (k : Nat) : TblOk Tryz.prog (tbl k) := TblOk.cons (spec_l1In.sound k) (TblOk.nil _)
theorem sound (k : Nat) : Sound Tryz.prog 85 (spec k) := by
  have h := fn_ok (F := T) (tbl := tbl) mixed tyok Tryz.func85 (by kernel_rfl) (c0 := bodyOf Tryz.f85) rfl (conv_code _ _ _) rfl rfl ok k (fun j _ => tblok j)
  have q3 : (fun x0_3 x1_3 x2_3 => T.run tyt tbl k 3 (S3 x0_3 x1_3 x2_3)) = spec_l27Plain.l3 k := by funext x0_3 x1_3 x2_3; exact (run k) x0_3 x1_3 x2_3
  have e : spec k = ⟨T.ps, T.rs, T.ev tyt tbl k⟩ := congrArg (FnSpec.mk _ _) (funext fun x => ((e k (T.run tyt tbl k) x.1 x.2).trans (by rw [q3]; rfl)).symm)
  rw [e]
  exact h
end spec_l27Plain

namespace spec_l1Stands
/-! ### spec_l1Stands: function 86 -/
def b3 (o3 : ByteArray → Int → Int → Option (Bool)) (k : Nat) (x0_3 : ByteArray) (x1_3 x2_3 : Int) : Option (Bool) := (if x2_3 < (x0_3.size : Int) then ((chk x0_3.size x2_3).bind fun i1 => (if (byteAt x0_3 i1) = x1_3 then (some true) else (o3 x0_3 x1_3 (w64 (x2_3 + 1))))) else (some false))
def l3 : Nat → ByteArray → Int → Int → Option (Bool)
  | 0, _, _, _ => none
  | k + 1, x0_3, x1_3, x2_3 => b3 (spec_l1Stands.l3 k) k x0_3 x1_3 x2_3
def m (o3 : ByteArray → Int → Int → Option (Bool)) (k : Nat) (a0 : ByteArray) (a1 : Int) : Option (Bool) := (o3 a0 a1 0)
def f (k : Nat) (a0 : ByteArray) (a1 : Int) : Option (Bool) := m (spec_l1Stands.l3 k) k a0 a1
noncomputable def spec (k : Nat) : FnSpec := ⟨[.d .str none, .d (.int .u8) none], [.d .bool none], fun x => f k x.1 x.2⟩
def S3 (x0_3 : ByteArray) (x1_3 x2_3 : Int) : St := ⟨[(0, .val .str x0_3), (1, .val (.int .u8) x1_3), (5, .val (.int .i64) x2_3)], [], 1000⟩
noncomputable def T : FnText := ⟨(conv [] (bodyOf Tryz.f86) 0).1, Tryz.f86.results.toList, 17, [(3, [(0, .rd .str), (1, .rd (.int .u8)), (5, .rd (.int .i64))])], [.d .str none, .d (.int .u8) none], [.d .bool none]⟩
noncomputable def tbl (k : Nat) : Tbl := []
theorem e3 (k : Nat) (o : Nat → St → Option (Bool)) (x0_3 : ByteArray) (x1_3 x2_3 : Int) : T.step tyt (tbl k) o 3 (S3 x0_3 x1_3 x2_3) = b3 (fun x0_3 x1_3 x2_3 => o 3 (S3 x0_3 x1_3 x2_3)) k x0_3 x1_3 x2_3 := by kernel_rfl
theorem e (k : Nat) (o : Nat → St → Option (Bool)) (a0 : ByteArray) (a1 : Int) : T.main tyt (tbl k) o (a0, a1) = m (fun x0_3 x1_3 x2_3 => o 3 (S3 x0_3 x1_3 x2_3)) k a0 a1 := by kernel_rfl
theorem ok : T.ok = true := by kernel_rfl
theorem run (k : Nat) : (∀ (x0_3 : ByteArray) (x1_3 x2_3 : Int), T.run tyt tbl k 3 (S3 x0_3 x1_3 x2_3) = spec_l1Stands.l3 k x0_3 x1_3 x2_3) := by
  induction k with
  | zero => exact fun x0_3 x1_3 x2_3 => rfl
  | succ k ih =>
    exact fun x0_3 x1_3 x2_3 => by
      have q3 : (fun x0_3 x1_3 x2_3 => T.run tyt tbl k 3 (S3 x0_3 x1_3 x2_3)) = spec_l1Stands.l3 k := by funext x0_3 x1_3 x2_3; exact ih x0_3 x1_3 x2_3
      exact (e3 k (T.run tyt tbl k) x0_3 x1_3 x2_3).trans (by rw [q3]; rfl)
theorem tblok (k : Nat) : TblOk Tryz.prog (tbl k) := TblOk.nil _
theorem sound (k : Nat) : Sound Tryz.prog 86 (spec k) := by
  have h := fn_ok (F := T) (tbl := tbl) mixed tyok Tryz.func86 (by kernel_rfl) (c0 := bodyOf Tryz.f86) rfl (conv_code _ _ _) rfl rfl ok k (fun j _ => tblok j)
  have q3 : (fun x0_3 x1_3 x2_3 => T.run tyt tbl k 3 (S3 x0_3 x1_3 x2_3)) = spec_l1Stands.l3 k := by funext x0_3 x1_3 x2_3; exact (run k) x0_3 x1_3 x2_3
  have e : spec k = ⟨T.ps, T.rs, T.ev tyt tbl k⟩ := congrArg (FnSpec.mk _ _) (funext fun x => ((e k (T.run tyt tbl k) x.1 x.2).trans (by rw [q3]; rfl)).symm)
  rw [e]
  exact h
end spec_l1Stands

namespace spec_l27Good
/-! ### spec_l27Good: function 45 -/
def m (k : Nat) (a0_0 a0_1 : ByteArray) : Option (Bool) := (if ¬ a0_0 = (⟨#[]⟩ : ByteArray) then ((spec_l27Plain.f k a0_0 160).bind fun r1 => (cond r1 ((spec_l1Stands.f k a0_0 64).bind fun r2 => (cond (!r2) ((spec_l27Plain.f k a0_1 200).bind fun r3 => (some r3)) (some false))) (some false))) else (some false))
def f (k : Nat) (a0_0 a0_1 : ByteArray) : Option (Bool) := m k a0_0 a0_1
noncomputable def spec (k : Nat) : FnSpec := ⟨[.ag [.d .str none, .d .str none]], [.d .bool none], fun x => f k x.1 x.2⟩
noncomputable def T : FnText := ⟨(conv [] (bodyOf Tryz.f45) 0).1, Tryz.f45.results.toList, 22, [], [.ag [.d .str none, .d .str none]], [.d .bool none]⟩
noncomputable def tbl (k : Nat) : Tbl := [(85, spec_l27Plain.spec k), (86, spec_l1Stands.spec k)]
theorem e (k : Nat) (o : Nat → St → Option (Bool)) (a0_0 a0_1 : ByteArray) : T.main tyt (tbl k) o (a0_0, a0_1) = m k a0_0 a0_1 := by kernel_rfl
theorem ok : T.ok = true := by kernel_rfl
theorem tblok (k : Nat) : TblOk Tryz.prog (tbl k) := TblOk.cons (spec_l27Plain.sound k) (TblOk.cons (spec_l1Stands.sound k) (TblOk.nil _))
theorem sound (k : Nat) : Sound Tryz.prog 45 (spec k) := by
  have h := fn_ok (F := T) (tbl := tbl) mixed tyok Tryz.func45 (by kernel_rfl) (c0 := bodyOf Tryz.f45) rfl (conv_code _ _ _) rfl rfl ok k (fun j _ => tblok j)
  have e : spec k = ⟨T.ps, T.rs, T.ev tyt tbl k⟩ := congrArg (FnSpec.mk _ _) (funext fun x => ((e k (T.run tyt tbl k) x.1 x.2).trans (by rfl)).symm)
  rw [e]
  exact h
end spec_l27Good

namespace spec_l1Sum
/-! ### spec_l1Sum: function 161 -/
def b4 (o4 : ByteArray → Int → Int → Option (Int)) (k : Nat) (x0_4 : ByteArray) (x1_4 x2_4 : Int) : Option (Int) := (if x2_4 < (x0_4.size : Int) then ((chk x0_4.size x2_4).bind fun i1 => ((rem (w64 ((w64 ((w64 (41 * x1_4)) + (w64 ((byteAt x0_4 i1))))) + 1)) 999979).bind fun q2 => (o4 x0_4 q2 (w64 (x2_4 + 1))))) else (some x1_4))
def l4 : Nat → ByteArray → Int → Int → Option (Int)
  | 0, _, _, _ => none
  | k + 1, x0_4, x1_4, x2_4 => b4 (spec_l1Sum.l4 k) k x0_4 x1_4 x2_4
def m (o4 : ByteArray → Int → Int → Option (Int)) (k : Nat) (a0 : ByteArray) : Option (Int) := (o4 a0 7 0)
def f (k : Nat) (a0 : ByteArray) : Option (Int) := m (spec_l1Sum.l4 k) k a0
noncomputable def spec (k : Nat) : FnSpec := ⟨[.d .str none], [.d (.int .i64) none], fun x => f k x⟩
def S4 (x0_4 : ByteArray) (x1_4 x2_4 : Int) : St := ⟨[(0, .val .str x0_4), (3, .val (.int .i64) x1_4), (4, .val (.int .i64) x2_4)], [], 1000⟩
noncomputable def T : FnText := ⟨(conv [] (bodyOf Tryz.f161) 0).1, Tryz.f161.results.toList, 21, [(4, [(0, .rd .str), (3, .rd (.int .i64)), (4, .rd (.int .i64))])], [.d .str none], [.d (.int .i64) none]⟩
noncomputable def tbl (k : Nat) : Tbl := []
theorem e4 (k : Nat) (o : Nat → St → Option (Int)) (x0_4 : ByteArray) (x1_4 x2_4 : Int) : T.step tyt (tbl k) o 4 (S4 x0_4 x1_4 x2_4) = b4 (fun x0_4 x1_4 x2_4 => o 4 (S4 x0_4 x1_4 x2_4)) k x0_4 x1_4 x2_4 := by kernel_rfl
theorem e (k : Nat) (o : Nat → St → Option (Int)) (a0 : ByteArray) : T.main tyt (tbl k) o a0 = m (fun x0_4 x1_4 x2_4 => o 4 (S4 x0_4 x1_4 x2_4)) k a0 := by kernel_rfl
theorem ok : T.ok = true := by kernel_rfl
theorem run (k : Nat) : (∀ (x0_4 : ByteArray) (x1_4 x2_4 : Int), T.run tyt tbl k 4 (S4 x0_4 x1_4 x2_4) = spec_l1Sum.l4 k x0_4 x1_4 x2_4) := by
  induction k with
  | zero => exact fun x0_4 x1_4 x2_4 => rfl
  | succ k ih =>
    exact fun x0_4 x1_4 x2_4 => by
      have q4 : (fun x0_4 x1_4 x2_4 => T.run tyt tbl k 4 (S4 x0_4 x1_4 x2_4)) = spec_l1Sum.l4 k := by funext x0_4 x1_4 x2_4; exact ih x0_4 x1_4 x2_4
      exact (e4 k (T.run tyt tbl k) x0_4 x1_4 x2_4).trans (by rw [q4]; rfl)
theorem tblok (k : Nat) : TblOk Tryz.prog (tbl k) := TblOk.nil _
theorem sound (k : Nat) : Sound Tryz.prog 161 (spec k) := by
  have h := fn_ok (F := T) (tbl := tbl) mixed tyok Tryz.func161 (by kernel_rfl) (c0 := bodyOf Tryz.f161) rfl (conv_code _ _ _) rfl rfl ok k (fun j _ => tblok j)
  have q4 : (fun x0_4 x1_4 x2_4 => T.run tyt tbl k 4 (S4 x0_4 x1_4 x2_4)) = spec_l1Sum.l4 k := by funext x0_4 x1_4 x2_4; exact (run k) x0_4 x1_4 x2_4
  have e : spec k = ⟨T.ps, T.rs, T.ev tyt tbl k⟩ := congrArg (FnSpec.mk _ _) (funext fun x => ((e k (T.run tyt tbl k) x).trans (by rw [q4]; rfl)).symm)
  rw [e]
  exact h
end spec_l1Sum

namespace spec_l1Seal
/-! ### spec_l1Seal: function 131 -/
def m (k : Nat) (a0 : ByteArray) : Option (ByteArray) := ((catS a0 (⟨#[35]⟩ : ByteArray)).bind fun s1 => ((spec_l1Sum.f k a0).bind fun r2 => ((spec_l1Num.f k r2).bind fun r3 => ((catS s1 r3).bind fun s4 => (some s4)))))
def f (k : Nat) (a0 : ByteArray) : Option (ByteArray) := m k a0
noncomputable def spec (k : Nat) : FnSpec := ⟨[.d .str none], [.d .str none], fun x => f k x⟩
noncomputable def T : FnText := ⟨(conv [] (bodyOf Tryz.f131) 0).1, Tryz.f131.results.toList, 9, [], [.d .str none], [.d .str none]⟩
noncomputable def tbl (k : Nat) : Tbl := [(161, spec_l1Sum.spec k), (73, spec_l1Num.spec k)]
theorem e (k : Nat) (o : Nat → St → Option (ByteArray)) (a0 : ByteArray) : T.main tyt (tbl k) o a0 = m k a0 := by kernel_rfl
theorem ok : T.ok = true := by kernel_rfl
theorem tblok (k : Nat) : TblOk Tryz.prog (tbl k) := TblOk.cons (spec_l1Sum.sound k) (TblOk.cons (spec_l1Num.sound k) (TblOk.nil _))
theorem sound (k : Nat) : Sound Tryz.prog 131 (spec k) := by
  have h := fn_ok (F := T) (tbl := tbl) mixed tyok Tryz.func131 (by kernel_rfl) (c0 := bodyOf Tryz.f131) rfl (conv_code _ _ _) rfl rfl ok k (fun j _ => tblok j)
  have e : spec k = ⟨T.ps, T.rs, T.ev tyt tbl k⟩ := congrArg (FnSpec.mk _ _) (funext fun x => ((e k (T.run tyt tbl k) x).trans (by rfl)).symm)
  rw [e]
  exact h
end spec_l1Seal

namespace spec_l27Line
/-! ### spec_l27Line: function 91 -/
def m (k : Nat) (a0 : Int) (a1_0 a1_1 : ByteArray) : Option (ByteArray) := ((spec_l1Num.f k a0).bind fun r1 => ((catS r1 (⟨#[32]⟩ : ByteArray)).bind fun s2 => ((catS s2 a1_0).bind fun s3 => ((catS s3 (⟨#[64]⟩ : ByteArray)).bind fun s4 => ((catS s4 a1_1).bind fun s5 => ((spec_l1Seal.f k s5).bind fun r6 => ((catS r6 (⟨#[10]⟩ : ByteArray)).bind fun s7 => (some s7))))))))
def f (k : Nat) (a0 : Int) (a1_0 a1_1 : ByteArray) : Option (ByteArray) := m k a0 a1_0 a1_1
noncomputable def spec (k : Nat) : FnSpec := ⟨[.d (.int .i64) none, .ag [.d .str none, .d .str none]], [.d .str none], fun x => f k x.1 x.2.1 x.2.2⟩
noncomputable def T : FnText := ⟨(conv [] (bodyOf Tryz.f91) 0).1, Tryz.f91.results.toList, 17, [], [.d (.int .i64) none, .ag [.d .str none, .d .str none]], [.d .str none]⟩
noncomputable def tbl (k : Nat) : Tbl := [(73, spec_l1Num.spec k), (131, spec_l1Seal.spec k)]
theorem e (k : Nat) (o : Nat → St → Option (ByteArray)) (a0 : Int) (a1_0 a1_1 : ByteArray) : T.main tyt (tbl k) o (a0, a1_0, a1_1) = m k a0 a1_0 a1_1 := by kernel_rfl
theorem ok : T.ok = true := by kernel_rfl
theorem tblok (k : Nat) : TblOk Tryz.prog (tbl k) := TblOk.cons (spec_l1Num.sound k) (TblOk.cons (spec_l1Seal.sound k) (TblOk.nil _))
theorem sound (k : Nat) : Sound Tryz.prog 91 (spec k) := by
  have h := fn_ok (F := T) (tbl := tbl) mixed tyok Tryz.func91 (by kernel_rfl) (c0 := bodyOf Tryz.f91) rfl (conv_code _ _ _) rfl rfl ok k (fun j _ => tblok j)
  have e : spec k = ⟨T.ps, T.rs, T.ev tyt tbl k⟩ := congrArg (FnSpec.mk _ _) (funext fun x => ((e k (T.run tyt tbl k) x.1 x.2.1 x.2.2).trans (by rfl)).symm)
  rw [e]
  exact h
end spec_l27Line

namespace spec_l27Read
/-! ### spec_l27Read: function 120 -/
def m (k : Nat) (a0 : ByteArray) (a1 : Int) : Option (ByteArray × ByteArray × Bool) := ((spec_l1Num.f k a1).bind fun r1 => ((catS r1 (⟨#[32]⟩ : ByteArray)).bind fun s2 => ((spec_l1Split.f k a0 35).bind fun r3 => ((chk r3.length 0).bind fun i4 => (if ((r3.getD i4 ByteArray.empty).size : Int) < (s2.size : Int) then (some (ByteArray.empty, ByteArray.empty, false)) else ((cutTo ((r3.getD i4 ByteArray.empty).size) (s2.size : Int)).bind fun m6 => (if ¬ ((r3.getD i4 ByteArray.empty).extract 0 m6) = s2 then (some (ByteArray.empty, ByteArray.empty, false)) else ((cut ((r3.getD i4 ByteArray.empty).size) (s2.size : Int) ((r3.getD i4 ByteArray.empty).size : Int)).bind fun c7 => ((spec_l1Split.f k ((r3.getD i4 ByteArray.empty).extract c7.1 (c7.1 + c7.2)) 64).bind fun r8 => ((chk r8.length 0).bind fun i9 => (if ((r8.getD i9 ByteArray.empty).size : Int) = (((r3.getD i4 ByteArray.empty).extract c7.1 (c7.1 + c7.2)).size : Int) then (some (ByteArray.empty, ByteArray.empty, false)) else ((cut (((r3.getD i4 ByteArray.empty).extract c7.1 (c7.1 + c7.2)).size) (w64 (((r8.getD i9 ByteArray.empty).size : Int) + 1)) (((r3.getD i4 ByteArray.empty).extract c7.1 (c7.1 + c7.2)).size : Int)).bind fun c10 => ((spec_l27Good.f k (r8.getD i9 ByteArray.empty) (((r3.getD i4 ByteArray.empty).extract c7.1 (c7.1 + c7.2)).extract c10.1 (c10.1 + c10.2))).bind fun r11 => (cond r11 ((spec_l27Line.f k a1 (r8.getD i9 ByteArray.empty) (((r3.getD i4 ByteArray.empty).extract c7.1 (c7.1 + c7.2)).extract c10.1 (c10.1 + c10.2))).bind fun r12 => ((catS a0 (⟨#[10]⟩ : ByteArray)).bind fun s13 => (some ((r8.getD i9 ByteArray.empty), (((r3.getD i4 ByteArray.empty).extract c7.1 (c7.1 + c7.2)).extract c10.1 (c10.1 + c10.2)), (decide (r12 = s13)))))) (some ((r8.getD i9 ByteArray.empty), (((r3.getD i4 ByteArray.empty).extract c7.1 (c7.1 + c7.2)).extract c10.1 (c10.1 + c10.2)), false))))))))))))))))
def f (k : Nat) (a0 : ByteArray) (a1 : Int) : Option (ByteArray × ByteArray × Bool) := m k a0 a1
noncomputable def spec (k : Nat) : FnSpec := ⟨[.d .str none, .d (.int .i64) none], [.ag [.d .str none, .d .str none], .d .bool none], fun x => f k x.1 x.2⟩
noncomputable def T : FnText := ⟨(conv [] (bodyOf Tryz.f120) 0).1, Tryz.f120.results.toList, 64, [], [.d .str none, .d (.int .i64) none], [.ag [.d .str none, .d .str none], .d .bool none]⟩
noncomputable def tbl (k : Nat) : Tbl := [(73, spec_l1Num.spec k), (66, spec_l1Split.spec k), (45, spec_l27Good.spec k), (91, spec_l27Line.spec k)]
theorem e (k : Nat) (o : Nat → St → Option (ByteArray × ByteArray × Bool)) (a0 : ByteArray) (a1 : Int) : T.main tyt (tbl k) o (a0, a1) = m k a0 a1 := by kernel_rfl
theorem ok : T.ok = true := by kernel_rfl
theorem tblok (k : Nat) : TblOk Tryz.prog (tbl k) := TblOk.cons (spec_l1Num.sound k) (TblOk.cons (spec_l1Split.sound k) (TblOk.cons (spec_l27Good.sound k) (TblOk.cons (spec_l27Line.sound k) (TblOk.nil _))))
theorem sound (k : Nat) : Sound Tryz.prog 120 (spec k) := by
  have h := fn_ok (F := T) (tbl := tbl) mixed tyok Tryz.func120 (by kernel_rfl) (c0 := bodyOf Tryz.f120) rfl (conv_code _ _ _) rfl rfl ok k (fun j _ => tblok j)
  have e : spec k = ⟨T.ps, T.rs, T.ev tyt tbl k⟩ := congrArg (FnSpec.mk _ _) (funext fun x => ((e k (T.run tyt tbl k) x.1 x.2).trans (by rfl)).symm)
  rw [e]
  exact h
end spec_l27Read

namespace spec_l27Open
/-! ### spec_l27Open: function 81 -/
def b4 (o4 : ByteArray → (List (ByteArray × ByteArray)) → Int → Option (List (ByteArray × ByteArray) × Int)) (k : Nat) (x0_4 : ByteArray) (l1_4 : List (ByteArray × ByteArray)) (x2_4 : Int) : Option (List (ByteArray × ByteArray) × Int) := (if x2_4 < (x0_4.size : Int) then (if (l1_4.length : Int) < 60 then ((cut x0_4.size x2_4 (x0_4.size : Int)).bind fun c1 => ((spec_l1Split.f k (x0_4.extract c1.1 (c1.1 + c1.2)) 10).bind fun r2 => ((chk r2.length 0).bind fun i3 => ((spec_l27Read.f k (r2.getD i3 ByteArray.empty) (l1_4.length : Int)).bind fun r4 => (if (r2.length : Int) < 2 then (some (l1_4, x2_4)) else (cond (!r4.2.2) (some (l1_4, x2_4)) ((app 4398046511104 l1_4 [(r4.1, r4.2.1)]).bind fun l5 => ((chk r2.length 0).bind fun i6 => (o4 x0_4 l5 (w64 ((w64 (x2_4 + ((r2.getD i6 ByteArray.empty).size : Int))) + 1))))))))))) else (some (l1_4, x2_4))) else (some (l1_4, x2_4)))
def l4 : Nat → ByteArray → (List (ByteArray × ByteArray)) → Int → Option (List (ByteArray × ByteArray) × Int)
  | 0, _, _, _ => none
  | k + 1, x0_4, l1_4, x2_4 => b4 (spec_l27Open.l4 k) k x0_4 l1_4 x2_4
def m (o4 : ByteArray → (List (ByteArray × ByteArray)) → Int → Option (List (ByteArray × ByteArray) × Int)) (k : Nat) (a0 : ByteArray) : Option (List (ByteArray × ByteArray) × Int) := (o4 a0 ([] : List (ByteArray × ByteArray)) 0)
def f (k : Nat) (a0 : ByteArray) : Option (List (ByteArray × ByteArray) × Int) := m (spec_l27Open.l4 k) k a0
noncomputable def spec (k : Nat) : FnSpec := ⟨[.d .str none], [.d (.sl (.pair .str .str)) (some 55), .d (.int .i64) none], fun x => f k x⟩
def S4 (x0_4 : ByteArray) (l1_4 : List (ByteArray × ByteArray)) (x2_4 : Int) : St := ⟨[(0, .val .str x0_4), (4, .ref 100), (5, .val (.int .i64) x2_4)], [(100, some (.row 55 (.pair .str .str) l1_4))], 1000⟩
noncomputable def T : FnText := ⟨(conv [] (bodyOf Tryz.f81) 0).1, Tryz.f81.results.toList, 52, [(4, [(0, .rd .str), (4, .own 55 (.pair .str .str) 100), (5, .rd (.int .i64))])], [.d .str none], [.d (.sl (.pair .str .str)) (some 55), .d (.int .i64) none]⟩
noncomputable def tbl (k : Nat) : Tbl := [(66, spec_l1Split.spec k), (120, spec_l27Read.spec k)]
theorem e4 (k : Nat) (o : Nat → St → Option (List (ByteArray × ByteArray) × Int)) (x0_4 : ByteArray) (l1_4 : List (ByteArray × ByteArray)) (x2_4 : Int) : T.step tyt (tbl k) o 4 (S4 x0_4 l1_4 x2_4) = b4 (fun x0_4 l1_4 x2_4 => o 4 (S4 x0_4 l1_4 x2_4)) k x0_4 l1_4 x2_4 := by kernel_rfl
theorem e (k : Nat) (o : Nat → St → Option (List (ByteArray × ByteArray) × Int)) (a0 : ByteArray) : T.main tyt (tbl k) o a0 = m (fun x0_4 l1_4 x2_4 => o 4 (S4 x0_4 l1_4 x2_4)) k a0 := by kernel_rfl
theorem ok : T.ok = true := by kernel_rfl
theorem run (k : Nat) : (∀ (x0_4 : ByteArray) (l1_4 : List (ByteArray × ByteArray)) (x2_4 : Int), T.run tyt tbl k 4 (S4 x0_4 l1_4 x2_4) = spec_l27Open.l4 k x0_4 l1_4 x2_4) := by
  induction k with
  | zero => exact fun x0_4 l1_4 x2_4 => rfl
  | succ k ih =>
    exact fun x0_4 l1_4 x2_4 => by
      have q4 : (fun x0_4 l1_4 x2_4 => T.run tyt tbl k 4 (S4 x0_4 l1_4 x2_4)) = spec_l27Open.l4 k := by funext x0_4 l1_4 x2_4; exact ih x0_4 l1_4 x2_4
      exact (e4 k (T.run tyt tbl k) x0_4 l1_4 x2_4).trans (by rw [q4]; rfl)
theorem tblok (k : Nat) : TblOk Tryz.prog (tbl k) := TblOk.cons (spec_l1Split.sound k) (TblOk.cons (spec_l27Read.sound k) (TblOk.nil _))
theorem sound (k : Nat) : Sound Tryz.prog 81 (spec k) := by
  have h := fn_ok (F := T) (tbl := tbl) mixed tyok Tryz.func81 (by kernel_rfl) (c0 := bodyOf Tryz.f81) rfl (conv_code _ _ _) rfl rfl ok k (fun j _ => tblok j)
  have q4 : (fun x0_4 l1_4 x2_4 => T.run tyt tbl k 4 (S4 x0_4 l1_4 x2_4)) = spec_l27Open.l4 k := by funext x0_4 l1_4 x2_4; exact (run k) x0_4 l1_4 x2_4
  have e : spec k = ⟨T.ps, T.rs, T.ev tyt tbl k⟩ := congrArg (FnSpec.mk _ _) (funext fun x => ((e k (T.run tyt tbl k) x).trans (by rw [q4]; rfl)).symm)
  rw [e]
  exact h
end spec_l27Open

namespace spec_l27Log
/-! ### spec_l27Log: function 40 -/
def m (k : Nat) (a0_0 a0_1 : ByteArray) (a0_2 : Int) : Option (Bool) := (if 30000 < (w64 ((a0_0.size : Int) + (a0_1.size : Int))) then (some false) else ((catS a0_0 a0_1).bind fun s1 => ((spec_l27Open.f k s1).bind fun r2 => ((spec_l27Open.f k a0_0).bind fun r3 => (if r2.2 = (w64 ((a0_0.size : Int) + (a0_1.size : Int))) then (if r3.2 = (a0_0.size : Int) then (some (decide ((r2.1.length : Int) = a0_2))) else (some false)) else (some false))))))
def f (k : Nat) (a0_0 a0_1 : ByteArray) (a0_2 : Int) : Option (Bool) := m k a0_0 a0_1 a0_2
noncomputable def spec (k : Nat) : FnSpec := ⟨[.ag [.d .str none, .d .str none, .d (.int .i64) none]], [.d .bool none], fun x => f k x.1 x.2.1 x.2.2⟩
noncomputable def T : FnText := ⟨(conv [] (bodyOf Tryz.f40) 0).1, Tryz.f40.results.toList, 53, [], [.ag [.d .str none, .d .str none, .d (.int .i64) none]], [.d .bool none]⟩
noncomputable def tbl (k : Nat) : Tbl := [(81, spec_l27Open.spec k)]
theorem e (k : Nat) (o : Nat → St → Option (Bool)) (a0_0 a0_1 : ByteArray) (a0_2 : Int) : T.main tyt (tbl k) o (a0_0, a0_1, a0_2) = m k a0_0 a0_1 a0_2 := by kernel_rfl
theorem ok : T.ok = true := by kernel_rfl
theorem tblok (k : Nat) : TblOk Tryz.prog (tbl k) := TblOk.cons (spec_l27Open.sound k) (TblOk.nil _)
theorem sound (k : Nat) : Sound Tryz.prog 40 (spec k) := by
  have h := fn_ok (F := T) (tbl := tbl) mixed tyok Tryz.func40 (by kernel_rfl) (c0 := bodyOf Tryz.f40) rfl (conv_code _ _ _) rfl rfl ok k (fun j _ => tblok j)
  have e : spec k = ⟨T.ps, T.rs, T.ev tyt tbl k⟩ := congrArg (FnSpec.mk _ _) (funext fun x => ((e k (T.run tyt tbl k) x.1 x.2.1 x.2.2).trans (by rfl)).symm)
  rw [e]
  exact h
end spec_l27Log

namespace spec_l28Good
/-! ### spec_l28Good: function 44 -/
def m (k : Nat) (a0_0 a0_1 : Int) (l0_2 : List (Int × Int × Int × Int × Int)) (a0_3 : Int) (a0_4 a0_5 : ByteArray) (a0_6 : Int) : Option (Bool) := ((spec_l25Good.f k a0_0 a0_1 l0_2 a0_3).bind fun r1 => (cond r1 ((spec_l27Log.f k a0_4 a0_5 a0_6).bind fun r2 => (some r2)) (some false)))
def f (k : Nat) (a0_0 a0_1 : Int) (l0_2 : List (Int × Int × Int × Int × Int)) (a0_3 : Int) (a0_4 a0_5 : ByteArray) (a0_6 : Int) : Option (Bool) := m k a0_0 a0_1 l0_2 a0_3 a0_4 a0_5 a0_6
noncomputable def spec (k : Nat) : FnSpec := ⟨[.ag [.d (.int .i64) none, .d (.int .i64) none, .d (.sl (.pair (.int .i64) (.pair (.int .i64) (.pair (.int .i64) (.pair (.int .i64) (.int .i64)))))) none, .d (.int .i64) none, .d .str none, .d .str none, .d (.int .i64) none]], [.d .bool none], fun x => f k x.1 x.2.1 x.2.2.1 x.2.2.2.1 x.2.2.2.2.1 x.2.2.2.2.2.1 x.2.2.2.2.2.2⟩
noncomputable def T : FnText := ⟨(conv [] (bodyOf Tryz.f44) 0).1, Tryz.f44.results.toList, 11, [], [.ag [.d (.int .i64) none, .d (.int .i64) none, .d (.sl (.pair (.int .i64) (.pair (.int .i64) (.pair (.int .i64) (.pair (.int .i64) (.int .i64)))))) none, .d (.int .i64) none, .d .str none, .d .str none, .d (.int .i64) none]], [.d .bool none]⟩
noncomputable def tbl (k : Nat) : Tbl := [(84, spec_l25Good.spec k), (40, spec_l27Log.spec k)]
theorem e (k : Nat) (o : Nat → St → Option (Bool)) (a0_0 a0_1 : Int) (l0_2 : List (Int × Int × Int × Int × Int)) (a0_3 : Int) (a0_4 a0_5 : ByteArray) (a0_6 : Int) : T.main tyt (tbl k) o (a0_0, a0_1, l0_2, a0_3, a0_4, a0_5, a0_6) = m k a0_0 a0_1 l0_2 a0_3 a0_4 a0_5 a0_6 := by kernel_rfl
theorem ok : T.ok = true := by kernel_rfl
theorem tblok (k : Nat) : TblOk Tryz.prog (tbl k) := TblOk.cons (spec_l25Good.sound k) (TblOk.cons (spec_l27Log.sound k) (TblOk.nil _))
theorem sound (k : Nat) : Sound Tryz.prog 44 (spec k) := by
  have h := fn_ok (F := T) (tbl := tbl) mixed tyok Tryz.func44 (by kernel_rfl) (c0 := bodyOf Tryz.f44) rfl (conv_code _ _ _) rfl rfl ok k (fun j _ => tblok j)
  have e : spec k = ⟨T.ps, T.rs, T.ev tyt tbl k⟩ := congrArg (FnSpec.mk _ _) (funext fun x => ((e k (T.run tyt tbl k) x.1 x.2.1 x.2.2.1 x.2.2.2.1 x.2.2.2.2.1 x.2.2.2.2.2.1 x.2.2.2.2.2.2).trans (by rfl)).symm)
  rw [e]
  exact h
end spec_l28Good

namespace spec_l1Read
/-! ### spec_l1Read: function 123 -/
def b2 (o10 : ByteArray → ByteArray → Int → Int → Option (Int × Bool)) (k : Nat) (x0_2 x1_2 : ByteArray) : Option (Int × Bool) := ((spec_l1In.f k (x1_2.size : Int) 1 6).bind fun r3 => (cond (!r3) (some (0, false)) (o10 x0_2 x1_2 0 0)))
def b10 (o10 : ByteArray → ByteArray → Int → Int → Option (Int × Bool)) (o17 : ByteArray → Int → Option (Int × Bool)) (k : Nat) (x0_10 x1_10 : ByteArray) (x2_10 x3_10 : Int) : Option (Int × Bool) := (if x3_10 < (x1_10.size : Int) then ((chk x1_10.size x3_10).bind fun i4 => (if (byteAt x1_10 i4) < 48 then (some (0, false)) else ((chk x1_10.size x3_10).bind fun i5 => (if 57 < (byteAt x1_10 i5) then (some (0, false)) else ((chk x1_10.size x3_10).bind fun i6 => (o10 x0_10 x1_10 (w64 ((w64 (10 * x2_10)) + (w64 ((IntKind.u8.wrap ((byteAt x1_10 i6) - 48)))))) (w64 (x3_10 + 1)))))))) else (if (x1_10.size : Int) < (x0_10.size : Int) then (o17 x0_10 (w64 (0 - x2_10))) else (o17 x0_10 x2_10)))
def b17 (k : Nat) (x0_17 : ByteArray) (x1_17 : Int) : Option (Int × Bool) := ((spec_l1Num.f k x1_17).bind fun r7 => (if ¬ r7 = x0_17 then (some (0, false)) else (some (x1_17, true))))
mutual
def l2 : Nat → ByteArray → ByteArray → Option (Int × Bool)
  | 0, _, _ => none
  | k + 1, x0_2, x1_2 => b2 (spec_l1Read.l10 k) k x0_2 x1_2
def l10 : Nat → ByteArray → ByteArray → Int → Int → Option (Int × Bool)
  | 0, _, _, _, _ => none
  | k + 1, x0_10, x1_10, x2_10, x3_10 => b10 (spec_l1Read.l10 k) (spec_l1Read.l17 k) k x0_10 x1_10 x2_10 x3_10
def l17 : Nat → ByteArray → Int → Option (Int × Bool)
  | 0, _, _ => none
  | k + 1, x0_17, x1_17 => b17 k x0_17 x1_17
end
def m (o2 : ByteArray → ByteArray → Option (Int × Bool)) (k : Nat) (a0 : ByteArray) : Option (Int × Bool) := (if 1 < (a0.size : Int) then ((chk a0.size 0).bind fun i1 => (if (byteAt a0 i1) = 45 then ((cut a0.size 1 (a0.size : Int)).bind fun c2 => (o2 a0 (a0.extract c2.1 (c2.1 + c2.2)))) else (o2 a0 a0))) else (o2 a0 a0))
def f (k : Nat) (a0 : ByteArray) : Option (Int × Bool) := m (spec_l1Read.l2 k) k a0
noncomputable def spec (k : Nat) : FnSpec := ⟨[.d .str none], [.d (.int .i64) none, .d .bool none], fun x => f k x⟩
def S2 (x0_2 x1_2 : ByteArray) : St := ⟨[(0, .val .str x0_2), (4, .val .str x1_2)], [], 1000⟩
def S10 (x0_10 x1_10 : ByteArray) (x2_10 x3_10 : Int) : St := ⟨[(0, .val .str x0_10), (4, .val .str x1_10), (5, .val (.int .i64) x2_10), (6, .val (.int .i64) x3_10)], [], 1000⟩
def S17 (x0_17 : ByteArray) (x1_17 : Int) : St := ⟨[(0, .val .str x0_17), (5, .val (.int .i64) x1_17)], [], 1000⟩
noncomputable def T : FnText := ⟨(conv [2, 17] (bodyOf Tryz.f123) 0).1, Tryz.f123.results.toList, 58, [(2, [(0, .rd .str), (4, .rd .str)]), (10, [(0, .rd .str), (4, .rd .str), (5, .rd (.int .i64)), (6, .rd (.int .i64))]), (17, [(0, .rd .str), (5, .rd (.int .i64))])], [.d .str none], [.d (.int .i64) none, .d .bool none]⟩
noncomputable def tbl (k : Nat) : Tbl := [(118, spec_l1In.spec k), (73, spec_l1Num.spec k)]
theorem e2 (k : Nat) (o : Nat → St → Option (Int × Bool)) (x0_2 x1_2 : ByteArray) : T.step tyt (tbl k) o 2 (S2 x0_2 x1_2) = b2 (fun x0_10 x1_10 x2_10 x3_10 => o 10 (S10 x0_10 x1_10 x2_10 x3_10)) k x0_2 x1_2 := by kernel_rfl
theorem e10 (k : Nat) (o : Nat → St → Option (Int × Bool)) (x0_10 x1_10 : ByteArray) (x2_10 x3_10 : Int) : T.step tyt (tbl k) o 10 (S10 x0_10 x1_10 x2_10 x3_10) = b10 (fun x0_10 x1_10 x2_10 x3_10 => o 10 (S10 x0_10 x1_10 x2_10 x3_10)) (fun x0_17 x1_17 => o 17 (S17 x0_17 x1_17)) k x0_10 x1_10 x2_10 x3_10 := by kernel_rfl
theorem e17 (k : Nat) (o : Nat → St → Option (Int × Bool)) (x0_17 : ByteArray) (x1_17 : Int) : T.step tyt (tbl k) o 17 (S17 x0_17 x1_17) = b17 k x0_17 x1_17 := by kernel_rfl
theorem e (k : Nat) (o : Nat → St → Option (Int × Bool)) (a0 : ByteArray) : T.main tyt (tbl k) o a0 = m (fun x0_2 x1_2 => o 2 (S2 x0_2 x1_2)) k a0 := by kernel_rfl
theorem ok : T.ok = true := by kernel_rfl
theorem run (k : Nat) : (∀ (x0_2 x1_2 : ByteArray), T.run tyt tbl k 2 (S2 x0_2 x1_2) = spec_l1Read.l2 k x0_2 x1_2) ∧ (∀ (x0_10 x1_10 : ByteArray) (x2_10 x3_10 : Int), T.run tyt tbl k 10 (S10 x0_10 x1_10 x2_10 x3_10) = spec_l1Read.l10 k x0_10 x1_10 x2_10 x3_10) ∧ (∀ (x0_17 : ByteArray) (x1_17 : Int), T.run tyt tbl k 17 (S17 x0_17 x1_17) = spec_l1Read.l17 k x0_17 x1_17) := by
  induction k with
  | zero => exact ⟨fun x0_2 x1_2 => rfl, fun x0_10 x1_10 x2_10 x3_10 => rfl, fun x0_17 x1_17 => rfl⟩
  | succ k ih =>
    exact ⟨fun x0_2 x1_2 => by
      have q10 : (fun x0_10 x1_10 x2_10 x3_10 => T.run tyt tbl k 10 (S10 x0_10 x1_10 x2_10 x3_10)) = spec_l1Read.l10 k := by funext x0_10 x1_10 x2_10 x3_10; exact ih.2.1 x0_10 x1_10 x2_10 x3_10
      exact (e2 k (T.run tyt tbl k) x0_2 x1_2).trans (by rw [q10]; rfl), fun x0_10 x1_10 x2_10 x3_10 => by
      have q10 : (fun x0_10 x1_10 x2_10 x3_10 => T.run tyt tbl k 10 (S10 x0_10 x1_10 x2_10 x3_10)) = spec_l1Read.l10 k := by funext x0_10 x1_10 x2_10 x3_10; exact ih.2.1 x0_10 x1_10 x2_10 x3_10
      have q17 : (fun x0_17 x1_17 => T.run tyt tbl k 17 (S17 x0_17 x1_17)) = spec_l1Read.l17 k := by funext x0_17 x1_17; exact ih.2.2 x0_17 x1_17
      exact (e10 k (T.run tyt tbl k) x0_10 x1_10 x2_10 x3_10).trans (by rw [q10, q17]; rfl), fun x0_17 x1_17 => by
      exact (e17 k (T.run tyt tbl k) x0_17 x1_17).trans (by rfl)⟩
theorem tblok (k : Nat) : TblOk Tryz.prog (tbl k) := TblOk.cons (spec_l1In.sound k) (TblOk.cons (spec_l1Num.sound k) (TblOk.nil _))
theorem sound (k : Nat) : Sound Tryz.prog 123 (spec k) := by
  have h := fn_ok (F := T) (tbl := tbl) mixed tyok Tryz.func123 (by kernel_rfl) (c0 := bodyOf Tryz.f123) rfl (conv_code _ _ _) rfl rfl ok k (fun j _ => tblok j)
  have q2 : (fun x0_2 x1_2 => T.run tyt tbl k 2 (S2 x0_2 x1_2)) = spec_l1Read.l2 k := by funext x0_2 x1_2; exact (run k).1 x0_2 x1_2
  have e : spec k = ⟨T.ps, T.rs, T.ev tyt tbl k⟩ := congrArg (FnSpec.mk _ _) (funext fun x => ((e k (T.run tyt tbl k) x).trans (by rw [q2]; rfl)).symm)
  rw [e]
  exact h
end spec_l1Read

namespace spec_ParseInt
/-! ### spec_ParseInt: function 87 -/
def m (k : Nat) (a0 : ByteArray) : Option (Int × Bool) := ((spec_l1Read.f k a0).bind fun r1 => (some (r1.1, r1.2)))
def f (k : Nat) (a0 : ByteArray) : Option (Int × Bool) := m k a0
noncomputable def spec (k : Nat) : FnSpec := ⟨[.d .str none], [.d (.int .i64) none, .d .bool none], fun x => f k x⟩
noncomputable def T : FnText := ⟨(conv [] (bodyOf Tryz.f87) 0).1, Tryz.f87.results.toList, 8, [], [.d .str none], [.d (.int .i64) none, .d .bool none]⟩
noncomputable def tbl (k : Nat) : Tbl := [(123, spec_l1Read.spec k)]
theorem e (k : Nat) (o : Nat → St → Option (Int × Bool)) (a0 : ByteArray) : T.main tyt (tbl k) o a0 = m k a0 := by kernel_rfl
theorem ok : T.ok = true := by kernel_rfl
theorem tblok (k : Nat) : TblOk Tryz.prog (tbl k) := TblOk.cons (spec_l1Read.sound k) (TblOk.nil _)
theorem sound (k : Nat) : Sound Tryz.prog 87 (spec k) := by
  have h := fn_ok (F := T) (tbl := tbl) mixed tyok Tryz.func87 (by kernel_rfl) (c0 := bodyOf Tryz.f87) rfl (conv_code _ _ _) rfl rfl ok k (fun j _ => tblok j)
  have e : spec k = ⟨T.ps, T.rs, T.ev tyt tbl k⟩ := congrArg (FnSpec.mk _ _) (funext fun x => ((e k (T.run tyt tbl k) x).trans (by rfl)).symm)
  rw [e]
  exact h
end spec_ParseInt

namespace spec_FreeLooms
/-! ### spec_FreeLooms: function 124 -/
def b7 (o14 : Int → Int → (List (Int × Int × Int × Int × Int)) → Int → List Int → Int → Bool → Int → Option (List Int × Bool)) (k : Nat) (x0_7 x1_7 : Int) (l2_7 : List (Int × Int × Int × Int × Int)) (x3_7 : Int) (l4_7 : List Int) (x5_7 : Int) : Option (List Int × Bool) := (if x5_7 ≤ x1_7 then (o14 x0_7 x1_7 l2_7 x3_7 l4_7 x5_7 true 0) else (some (l4_7, true)))
def b14 (o7 : Int → Int → (List (Int × Int × Int × Int × Int)) → Int → List Int → Int → Option (List Int × Bool)) (o14 : Int → Int → (List (Int × Int × Int × Int × Int)) → Int → List Int → Int → Bool → Int → Option (List Int × Bool)) (k : Nat) (x0_14 x1_14 : Int) (l2_14 : List (Int × Int × Int × Int × Int)) (x3_14 : Int) (l4_14 : List Int) (x5_14 : Int) (x6_14 : Bool) (x7_14 : Int) : Option (List Int × Bool) := (if x7_14 < (l2_14.length : Int) then (cond x6_14 ((chk l2_14.length x7_14).bind fun i2 => (o14 x0_14 x1_14 l2_14 x3_14 l4_14 x5_14 (decide (¬ (((((l2_14.getD i2 (0, 0, 0, 0, 0)).2).2).2).1) = x5_14)) (w64 (x7_14 + 1)))) (o14 x0_14 x1_14 l2_14 x3_14 l4_14 x5_14 false (w64 (x7_14 + 1)))) else (cond x6_14 ((app 17592186044416 l4_14 [x5_14]).bind fun l3 => (o7 x0_14 x1_14 l2_14 x3_14 l3 (w64 (x5_14 + 1)))) (o7 x0_14 x1_14 l2_14 x3_14 l4_14 (w64 (x5_14 + 1)))))
mutual
def l7 : Nat → Int → Int → (List (Int × Int × Int × Int × Int)) → Int → List Int → Int → Option (List Int × Bool)
  | 0, _, _, _, _, _, _ => none
  | k + 1, x0_7, x1_7, l2_7, x3_7, l4_7, x5_7 => b7 (spec_FreeLooms.l14 k) k x0_7 x1_7 l2_7 x3_7 l4_7 x5_7
def l14 : Nat → Int → Int → (List (Int × Int × Int × Int × Int)) → Int → List Int → Int → Bool → Int → Option (List Int × Bool)
  | 0, _, _, _, _, _, _, _, _ => none
  | k + 1, x0_14, x1_14, l2_14, x3_14, l4_14, x5_14, x6_14, x7_14 => b14 (spec_FreeLooms.l7 k) (spec_FreeLooms.l14 k) k x0_14 x1_14 l2_14 x3_14 l4_14 x5_14 x6_14 x7_14
end
def m (o7 : Int → Int → (List (Int × Int × Int × Int × Int)) → Int → List Int → Int → Option (List Int × Bool)) (k : Nat) (a0_0 a0_1 : Int) (l0_2 : List (Int × Int × Int × Int × Int)) (a0_3 : Int) : Option (List Int × Bool) := ((spec_l25Good.f k a0_0 a0_1 l0_2 a0_3).bind fun r1 => (cond (!r1) (some (([] : List (Int)), false)) (o7 a0_0 a0_1 l0_2 a0_3 ([] : List (Int)) 1)))
def f (k : Nat) (a0_0 a0_1 : Int) (l0_2 : List (Int × Int × Int × Int × Int)) (a0_3 : Int) : Option (List Int × Bool) := m (spec_FreeLooms.l7 k) k a0_0 a0_1 l0_2 a0_3
noncomputable def spec (k : Nat) : FnSpec := ⟨[.ag [.d (.int .i64) none, .d (.int .i64) none, .d (.sl (.pair (.int .i64) (.pair (.int .i64) (.pair (.int .i64) (.pair (.int .i64) (.int .i64)))))) none, .d (.int .i64) none]], [.d (.sl (.int .i64)) (some 3), .d .bool none], fun x => f k x.1 x.2.1 x.2.2.1 x.2.2.2⟩
def S7 (x0_7 x1_7 : Int) (l2_7 : List (Int × Int × Int × Int × Int)) (x3_7 : Int) (l4_7 : List Int) (x5_7 : Int) : St := ⟨[(1, .ptr 100 0), (4, .ref 101), (5, .val (.int .i64) x5_7)], [(101, some (.row 3 (.int .i64) l4_7)), (100, some (.box [.val (.int .i64) x0_7, .val (.int .i64) x1_7, .val (.sl (.pair (.int .i64) (.pair (.int .i64) (.pair (.int .i64) (.pair (.int .i64) (.int .i64)))))) l2_7, .val (.int .i64) x3_7]))], 1000⟩
def S14 (x0_14 x1_14 : Int) (l2_14 : List (Int × Int × Int × Int × Int)) (x3_14 : Int) (l4_14 : List Int) (x5_14 : Int) (x6_14 : Bool) (x7_14 : Int) : St := ⟨[(1, .ptr 100 0), (4, .ref 101), (5, .val (.int .i64) x5_14), (6, .val .bool x6_14), (7, .val (.int .i64) x7_14)], [(101, some (.row 3 (.int .i64) l4_14)), (100, some (.box [.val (.int .i64) x0_14, .val (.int .i64) x1_14, .val (.sl (.pair (.int .i64) (.pair (.int .i64) (.pair (.int .i64) (.pair (.int .i64) (.int .i64)))))) l2_14, .val (.int .i64) x3_14]))], 1000⟩
noncomputable def T : FnText := ⟨(conv [] (bodyOf Tryz.f124) 0).1, Tryz.f124.results.toList, 43, [(7, [(1, .bx 100 [.rd (.int .i64), .rd (.int .i64), .rd (.sl (.pair (.int .i64) (.pair (.int .i64) (.pair (.int .i64) (.pair (.int .i64) (.int .i64)))))), .rd (.int .i64)]), (4, .own 3 (.int .i64) 101), (5, .rd (.int .i64))]), (14, [(1, .bx 100 [.rd (.int .i64), .rd (.int .i64), .rd (.sl (.pair (.int .i64) (.pair (.int .i64) (.pair (.int .i64) (.pair (.int .i64) (.int .i64)))))), .rd (.int .i64)]), (4, .own 3 (.int .i64) 101), (5, .rd (.int .i64)), (6, .rd .bool), (7, .rd (.int .i64))])], [.ag [.d (.int .i64) none, .d (.int .i64) none, .d (.sl (.pair (.int .i64) (.pair (.int .i64) (.pair (.int .i64) (.pair (.int .i64) (.int .i64)))))) none, .d (.int .i64) none]], [.d (.sl (.int .i64)) (some 3), .d .bool none]⟩
noncomputable def tbl (k : Nat) : Tbl := [(84, spec_l25Good.spec k)]
theorem e7 (k : Nat) (o : Nat → St → Option (List Int × Bool)) (x0_7 x1_7 : Int) (l2_7 : List (Int × Int × Int × Int × Int)) (x3_7 : Int) (l4_7 : List Int) (x5_7 : Int) : T.step tyt (tbl k) o 7 (S7 x0_7 x1_7 l2_7 x3_7 l4_7 x5_7) = b7 (fun x0_14 x1_14 l2_14 x3_14 l4_14 x5_14 x6_14 x7_14 => o 14 (S14 x0_14 x1_14 l2_14 x3_14 l4_14 x5_14 x6_14 x7_14)) k x0_7 x1_7 l2_7 x3_7 l4_7 x5_7 := by kernel_rfl
theorem e14 (k : Nat) (o : Nat → St → Option (List Int × Bool)) (x0_14 x1_14 : Int) (l2_14 : List (Int × Int × Int × Int × Int)) (x3_14 : Int) (l4_14 : List Int) (x5_14 : Int) (x6_14 : Bool) (x7_14 : Int) : T.step tyt (tbl k) o 14 (S14 x0_14 x1_14 l2_14 x3_14 l4_14 x5_14 x6_14 x7_14) = b14 (fun x0_7 x1_7 l2_7 x3_7 l4_7 x5_7 => o 7 (S7 x0_7 x1_7 l2_7 x3_7 l4_7 x5_7)) (fun x0_14 x1_14 l2_14 x3_14 l4_14 x5_14 x6_14 x7_14 => o 14 (S14 x0_14 x1_14 l2_14 x3_14 l4_14 x5_14 x6_14 x7_14)) k x0_14 x1_14 l2_14 x3_14 l4_14 x5_14 x6_14 x7_14 := by kernel_rfl
theorem e (k : Nat) (o : Nat → St → Option (List Int × Bool)) (a0_0 a0_1 : Int) (l0_2 : List (Int × Int × Int × Int × Int)) (a0_3 : Int) : T.main tyt (tbl k) o (a0_0, a0_1, l0_2, a0_3) = m (fun x0_7 x1_7 l2_7 x3_7 l4_7 x5_7 => o 7 (S7 x0_7 x1_7 l2_7 x3_7 l4_7 x5_7)) k a0_0 a0_1 l0_2 a0_3 := by kernel_rfl
theorem ok : T.ok = true := by kernel_rfl
theorem run (k : Nat) : (∀ (x0_7 x1_7 : Int) (l2_7 : List (Int × Int × Int × Int × Int)) (x3_7 : Int) (l4_7 : List Int) (x5_7 : Int), T.run tyt tbl k 7 (S7 x0_7 x1_7 l2_7 x3_7 l4_7 x5_7) = spec_FreeLooms.l7 k x0_7 x1_7 l2_7 x3_7 l4_7 x5_7) ∧ (∀ (x0_14 x1_14 : Int) (l2_14 : List (Int × Int × Int × Int × Int)) (x3_14 : Int) (l4_14 : List Int) (x5_14 : Int) (x6_14 : Bool) (x7_14 : Int), T.run tyt tbl k 14 (S14 x0_14 x1_14 l2_14 x3_14 l4_14 x5_14 x6_14 x7_14) = spec_FreeLooms.l14 k x0_14 x1_14 l2_14 x3_14 l4_14 x5_14 x6_14 x7_14) := by
  induction k with
  | zero => exact ⟨fun x0_7 x1_7 l2_7 x3_7 l4_7 x5_7 => rfl, fun x0_14 x1_14 l2_14 x3_14 l4_14 x5_14 x6_14 x7_14 => rfl⟩
  | succ k ih =>
    exact ⟨fun x0_7 x1_7 l2_7 x3_7 l4_7 x5_7 => by
      have q14 : (fun x0_14 x1_14 l2_14 x3_14 l4_14 x5_14 x6_14 x7_14 => T.run tyt tbl k 14 (S14 x0_14 x1_14 l2_14 x3_14 l4_14 x5_14 x6_14 x7_14)) = spec_FreeLooms.l14 k := by funext x0_14 x1_14 l2_14 x3_14 l4_14 x5_14 x6_14 x7_14; exact ih.2 x0_14 x1_14 l2_14 x3_14 l4_14 x5_14 x6_14 x7_14
      exact (e7 k (T.run tyt tbl k) x0_7 x1_7 l2_7 x3_7 l4_7 x5_7).trans (by rw [q14]; rfl), fun x0_14 x1_14 l2_14 x3_14 l4_14 x5_14 x6_14 x7_14 => by
      have q7 : (fun x0_7 x1_7 l2_7 x3_7 l4_7 x5_7 => T.run tyt tbl k 7 (S7 x0_7 x1_7 l2_7 x3_7 l4_7 x5_7)) = spec_FreeLooms.l7 k := by funext x0_7 x1_7 l2_7 x3_7 l4_7 x5_7; exact ih.1 x0_7 x1_7 l2_7 x3_7 l4_7 x5_7
      have q14 : (fun x0_14 x1_14 l2_14 x3_14 l4_14 x5_14 x6_14 x7_14 => T.run tyt tbl k 14 (S14 x0_14 x1_14 l2_14 x3_14 l4_14 x5_14 x6_14 x7_14)) = spec_FreeLooms.l14 k := by funext x0_14 x1_14 l2_14 x3_14 l4_14 x5_14 x6_14 x7_14; exact ih.2 x0_14 x1_14 l2_14 x3_14 l4_14 x5_14 x6_14 x7_14
      exact (e14 k (T.run tyt tbl k) x0_14 x1_14 l2_14 x3_14 l4_14 x5_14 x6_14 x7_14).trans (by rw [q7, q14]; rfl)⟩
theorem tblok (k : Nat) : TblOk Tryz.prog (tbl k) := TblOk.cons (spec_l25Good.sound k) (TblOk.nil _)
theorem sound (k : Nat) : Sound Tryz.prog 124 (spec k) := by
  have h := fn_ok (F := T) (tbl := tbl) mixed tyok Tryz.func124 (by kernel_rfl) (c0 := bodyOf Tryz.f124) rfl (conv_code _ _ _) rfl rfl ok k (fun j _ => tblok j)
  have q7 : (fun x0_7 x1_7 l2_7 x3_7 l4_7 x5_7 => T.run tyt tbl k 7 (S7 x0_7 x1_7 l2_7 x3_7 l4_7 x5_7)) = spec_FreeLooms.l7 k := by funext x0_7 x1_7 l2_7 x3_7 l4_7 x5_7; exact (run k).1 x0_7 x1_7 l2_7 x3_7 l4_7 x5_7
  have e : spec k = ⟨T.ps, T.rs, T.ev tyt tbl k⟩ := congrArg (FnSpec.mk _ _) (funext fun x => ((e k (T.run tyt tbl k) x.1 x.2.1 x.2.2.1 x.2.2.2).trans (by rw [q7]; rfl)).symm)
  rw [e]
  exact h
end spec_FreeLooms

namespace spec_l28List
/-! ### spec_l28List: function 125 -/
def b10 (o10 : List Int → ByteArray → Int → Option (ByteArray)) (k : Nat) (l0_10 : List Int) (x1_10 : ByteArray) (x2_10 : Int) : Option (ByteArray) := (if x2_10 < (l0_10.length : Int) then ((catS x1_10 (⟨#[32]⟩ : ByteArray)).bind fun s3 => ((chk l0_10.length x2_10).bind fun i4 => ((spec_l1Num.f k (l0_10.getD i4 0)).bind fun r5 => ((catS s3 r5).bind fun s6 => (o10 l0_10 s6 (w64 (x2_10 + 1))))))) else (some x1_10))
def l10 : Nat → List Int → ByteArray → Int → Option (ByteArray)
  | 0, _, _, _ => none
  | k + 1, l0_10, x1_10, x2_10 => b10 (spec_l28List.l10 k) k l0_10 x1_10 x2_10
def m (o10 : List Int → ByteArray → Int → Option (ByteArray)) (k : Nat) (l0 : List Int) (a1 : Bool) : Option (ByteArray) := (cond (!a1) (some (⟨#[63]⟩ : ByteArray)) (if (l0.length : Int) = 0 then (some (⟨#[110, 111, 110, 101]⟩ : ByteArray)) else ((chk l0.length 0).bind fun i1 => ((spec_l1Num.f k (l0.getD i1 0)).bind fun r2 => (o10 l0 r2 1)))))
def f (k : Nat) (l0 : List Int) (a1 : Bool) : Option (ByteArray) := m (spec_l28List.l10 k) k l0 a1
noncomputable def spec (k : Nat) : FnSpec := ⟨[.d (.sl (.int .i64)) none, .d .bool none], [.d .str none], fun x => f k x.1 x.2⟩
def S10 (l0_10 : List Int) (x1_10 : ByteArray) (x2_10 : Int) : St := ⟨[(0, .val (.sl (.int .i64)) l0_10), (5, .val .str x1_10), (6, .val (.int .i64) x2_10)], [], 1000⟩
noncomputable def T : FnText := ⟨(conv [] (bodyOf Tryz.f125) 0).1, Tryz.f125.results.toList, 31, [(10, [(0, .rd (.sl (.int .i64))), (5, .rd .str), (6, .rd (.int .i64))])], [.d (.sl (.int .i64)) none, .d .bool none], [.d .str none]⟩
noncomputable def tbl (k : Nat) : Tbl := [(73, spec_l1Num.spec k)]
theorem e10 (k : Nat) (o : Nat → St → Option (ByteArray)) (l0_10 : List Int) (x1_10 : ByteArray) (x2_10 : Int) : T.step tyt (tbl k) o 10 (S10 l0_10 x1_10 x2_10) = b10 (fun l0_10 x1_10 x2_10 => o 10 (S10 l0_10 x1_10 x2_10)) k l0_10 x1_10 x2_10 := by kernel_rfl
theorem e (k : Nat) (o : Nat → St → Option (ByteArray)) (l0 : List Int) (a1 : Bool) : T.main tyt (tbl k) o (l0, a1) = m (fun l0_10 x1_10 x2_10 => o 10 (S10 l0_10 x1_10 x2_10)) k l0 a1 := by kernel_rfl
theorem ok : T.ok = true := by kernel_rfl
theorem run (k : Nat) : (∀ (l0_10 : List Int) (x1_10 : ByteArray) (x2_10 : Int), T.run tyt tbl k 10 (S10 l0_10 x1_10 x2_10) = spec_l28List.l10 k l0_10 x1_10 x2_10) := by
  induction k with
  | zero => exact fun l0_10 x1_10 x2_10 => rfl
  | succ k ih =>
    exact fun l0_10 x1_10 x2_10 => by
      have q10 : (fun l0_10 x1_10 x2_10 => T.run tyt tbl k 10 (S10 l0_10 x1_10 x2_10)) = spec_l28List.l10 k := by funext l0_10 x1_10 x2_10; exact ih l0_10 x1_10 x2_10
      exact (e10 k (T.run tyt tbl k) l0_10 x1_10 x2_10).trans (by rw [q10]; rfl)
theorem tblok (k : Nat) : TblOk Tryz.prog (tbl k) := TblOk.cons (spec_l1Num.sound k) (TblOk.nil _)
theorem sound (k : Nat) : Sound Tryz.prog 125 (spec k) := by
  have h := fn_ok (F := T) (tbl := tbl) mixed tyok Tryz.func125 (by kernel_rfl) (c0 := bodyOf Tryz.f125) rfl (conv_code _ _ _) rfl rfl ok k (fun j _ => tblok j)
  have q10 : (fun l0_10 x1_10 x2_10 => T.run tyt tbl k 10 (S10 l0_10 x1_10 x2_10)) = spec_l28List.l10 k := by funext l0_10 x1_10 x2_10; exact (run k) l0_10 x1_10 x2_10
  have e : spec k = ⟨T.ps, T.rs, T.ev tyt tbl k⟩ := congrArg (FnSpec.mk _ _) (funext fun x => ((e k (T.run tyt tbl k) x.1 x.2).trans (by rw [q10]; rfl)).symm)
  rw [e]
  exact h
end spec_l28List

namespace spec_RowsLeft
/-! ### spec_RowsLeft: function 126 -/
def b7 (o7 : Int → Int → (List (Int × Int × Int × Int × Int)) → Int → Int → Int → Option (Int × Bool)) (k : Nat) (x0_7 x1_7 : Int) (l2_7 : List (Int × Int × Int × Int × Int)) (x3_7 x4_7 x5_7 : Int) : Option (Int × Bool) := (if x5_7 < (l2_7.length : Int) then ((chk l2_7.length x5_7).bind fun i2 => ((chk l2_7.length x5_7).bind fun i3 => (o7 x0_7 x1_7 l2_7 x3_7 (w64 ((w64 (x4_7 + ((l2_7.getD i2 (0, 0, 0, 0, 0)).1))) - (((l2_7.getD i3 (0, 0, 0, 0, 0)).2).1))) (w64 (x5_7 + 1))))) else (some (x4_7, true)))
def l7 : Nat → Int → Int → (List (Int × Int × Int × Int × Int)) → Int → Int → Int → Option (Int × Bool)
  | 0, _, _, _, _, _, _ => none
  | k + 1, x0_7, x1_7, l2_7, x3_7, x4_7, x5_7 => b7 (spec_RowsLeft.l7 k) k x0_7 x1_7 l2_7 x3_7 x4_7 x5_7
def m (o7 : Int → Int → (List (Int × Int × Int × Int × Int)) → Int → Int → Int → Option (Int × Bool)) (k : Nat) (a0_0 a0_1 : Int) (l0_2 : List (Int × Int × Int × Int × Int)) (a0_3 : Int) : Option (Int × Bool) := ((spec_l25Good.f k a0_0 a0_1 l0_2 a0_3).bind fun r1 => (cond (!r1) (some (0, false)) (o7 a0_0 a0_1 l0_2 a0_3 0 0)))
def f (k : Nat) (a0_0 a0_1 : Int) (l0_2 : List (Int × Int × Int × Int × Int)) (a0_3 : Int) : Option (Int × Bool) := m (spec_RowsLeft.l7 k) k a0_0 a0_1 l0_2 a0_3
noncomputable def spec (k : Nat) : FnSpec := ⟨[.ag [.d (.int .i64) none, .d (.int .i64) none, .d (.sl (.pair (.int .i64) (.pair (.int .i64) (.pair (.int .i64) (.pair (.int .i64) (.int .i64)))))) none, .d (.int .i64) none]], [.d (.int .i64) none, .d .bool none], fun x => f k x.1 x.2.1 x.2.2.1 x.2.2.2⟩
def S7 (x0_7 x1_7 : Int) (l2_7 : List (Int × Int × Int × Int × Int)) (x3_7 x4_7 x5_7 : Int) : St := ⟨[(1, .ptr 100 0), (4, .val (.int .i64) x4_7), (5, .val (.int .i64) x5_7)], [(100, some (.box [.val (.int .i64) x0_7, .val (.int .i64) x1_7, .val (.sl (.pair (.int .i64) (.pair (.int .i64) (.pair (.int .i64) (.pair (.int .i64) (.int .i64)))))) l2_7, .val (.int .i64) x3_7]))], 1000⟩
noncomputable def T : FnText := ⟨(conv [] (bodyOf Tryz.f126) 0).1, Tryz.f126.results.toList, 32, [(7, [(1, .bx 100 [.rd (.int .i64), .rd (.int .i64), .rd (.sl (.pair (.int .i64) (.pair (.int .i64) (.pair (.int .i64) (.pair (.int .i64) (.int .i64)))))), .rd (.int .i64)]), (4, .rd (.int .i64)), (5, .rd (.int .i64))])], [.ag [.d (.int .i64) none, .d (.int .i64) none, .d (.sl (.pair (.int .i64) (.pair (.int .i64) (.pair (.int .i64) (.pair (.int .i64) (.int .i64)))))) none, .d (.int .i64) none]], [.d (.int .i64) none, .d .bool none]⟩
noncomputable def tbl (k : Nat) : Tbl := [(84, spec_l25Good.spec k)]
theorem e7 (k : Nat) (o : Nat → St → Option (Int × Bool)) (x0_7 x1_7 : Int) (l2_7 : List (Int × Int × Int × Int × Int)) (x3_7 x4_7 x5_7 : Int) : T.step tyt (tbl k) o 7 (S7 x0_7 x1_7 l2_7 x3_7 x4_7 x5_7) = b7 (fun x0_7 x1_7 l2_7 x3_7 x4_7 x5_7 => o 7 (S7 x0_7 x1_7 l2_7 x3_7 x4_7 x5_7)) k x0_7 x1_7 l2_7 x3_7 x4_7 x5_7 := by kernel_rfl
theorem e (k : Nat) (o : Nat → St → Option (Int × Bool)) (a0_0 a0_1 : Int) (l0_2 : List (Int × Int × Int × Int × Int)) (a0_3 : Int) : T.main tyt (tbl k) o (a0_0, a0_1, l0_2, a0_3) = m (fun x0_7 x1_7 l2_7 x3_7 x4_7 x5_7 => o 7 (S7 x0_7 x1_7 l2_7 x3_7 x4_7 x5_7)) k a0_0 a0_1 l0_2 a0_3 := by kernel_rfl
theorem ok : T.ok = true := by kernel_rfl
theorem run (k : Nat) : (∀ (x0_7 x1_7 : Int) (l2_7 : List (Int × Int × Int × Int × Int)) (x3_7 x4_7 x5_7 : Int), T.run tyt tbl k 7 (S7 x0_7 x1_7 l2_7 x3_7 x4_7 x5_7) = spec_RowsLeft.l7 k x0_7 x1_7 l2_7 x3_7 x4_7 x5_7) := by
  induction k with
  | zero => exact fun x0_7 x1_7 l2_7 x3_7 x4_7 x5_7 => rfl
  | succ k ih =>
    exact fun x0_7 x1_7 l2_7 x3_7 x4_7 x5_7 => by
      have q7 : (fun x0_7 x1_7 l2_7 x3_7 x4_7 x5_7 => T.run tyt tbl k 7 (S7 x0_7 x1_7 l2_7 x3_7 x4_7 x5_7)) = spec_RowsLeft.l7 k := by funext x0_7 x1_7 l2_7 x3_7 x4_7 x5_7; exact ih x0_7 x1_7 l2_7 x3_7 x4_7 x5_7
      exact (e7 k (T.run tyt tbl k) x0_7 x1_7 l2_7 x3_7 x4_7 x5_7).trans (by rw [q7]; rfl)
theorem tblok (k : Nat) : TblOk Tryz.prog (tbl k) := TblOk.cons (spec_l25Good.sound k) (TblOk.nil _)
theorem sound (k : Nat) : Sound Tryz.prog 126 (spec k) := by
  have h := fn_ok (F := T) (tbl := tbl) mixed tyok Tryz.func126 (by kernel_rfl) (c0 := bodyOf Tryz.f126) rfl (conv_code _ _ _) rfl rfl ok k (fun j _ => tblok j)
  have q7 : (fun x0_7 x1_7 l2_7 x3_7 x4_7 x5_7 => T.run tyt tbl k 7 (S7 x0_7 x1_7 l2_7 x3_7 x4_7 x5_7)) = spec_RowsLeft.l7 k := by funext x0_7 x1_7 l2_7 x3_7 x4_7 x5_7; exact (run k) x0_7 x1_7 l2_7 x3_7 x4_7 x5_7
  have e : spec k = ⟨T.ps, T.rs, T.ev tyt tbl k⟩ := congrArg (FnSpec.mk _ _) (funext fun x => ((e k (T.run tyt tbl k) x.1 x.2.1 x.2.2.1 x.2.2.2).trans (by rw [q7]; rfl)).symm)
  rw [e]
  exact h
end spec_RowsLeft

namespace spec_CarpetStates
/-! ### spec_CarpetStates: function 127 -/
def b7 (o7 : Int → Int → (List (Int × Int × Int × Int × Int)) → Int → List Int → Int → Option (List Int × Bool)) (k : Nat) (x0_7 x1_7 : Int) (l2_7 : List (Int × Int × Int × Int × Int)) (x3_7 : Int) (l4_7 : List Int) (x5_7 : Int) : Option (List Int × Bool) := (if x5_7 < (l2_7.length : Int) then ((chk l2_7.length x5_7).bind fun i3 => ((chk l4_7.length ((((l2_7.getD i3 (0, 0, 0, 0, 0)).2).2).1)).bind fun i4 => ((chk l4_7.length ((((l2_7.getD i3 (0, 0, 0, 0, 0)).2).2).1)).bind fun i5 => (o7 x0_7 x1_7 l2_7 x3_7 (l4_7.set i5 (w64 ((l4_7.getD i4 0) + 1))) (w64 (x5_7 + 1)))))) else (some (l4_7, true)))
def l7 : Nat → Int → Int → (List (Int × Int × Int × Int × Int)) → Int → List Int → Int → Option (List Int × Bool)
  | 0, _, _, _, _, _, _ => none
  | k + 1, x0_7, x1_7, l2_7, x3_7, l4_7, x5_7 => b7 (spec_CarpetStates.l7 k) k x0_7 x1_7 l2_7 x3_7 l4_7 x5_7
def m (o7 : Int → Int → (List (Int × Int × Int × Int × Int)) → Int → List Int → Int → Option (List Int × Bool)) (k : Nat) (a0_0 a0_1 : Int) (l0_2 : List (Int × Int × Int × Int × Int)) (a0_3 : Int) : Option (List Int × Bool) := ((spec_l25Good.f k a0_0 a0_1 l0_2 a0_3).bind fun r1 => (cond (!r1) (some (([] : List (Int)), false)) ((mkl 17592186044416 5 5).bind fun n2 => (o7 a0_0 a0_1 l0_2 a0_3 (List.replicate n2 (0 : Int)) 0))))
def f (k : Nat) (a0_0 a0_1 : Int) (l0_2 : List (Int × Int × Int × Int × Int)) (a0_3 : Int) : Option (List Int × Bool) := m (spec_CarpetStates.l7 k) k a0_0 a0_1 l0_2 a0_3
noncomputable def spec (k : Nat) : FnSpec := ⟨[.ag [.d (.int .i64) none, .d (.int .i64) none, .d (.sl (.pair (.int .i64) (.pair (.int .i64) (.pair (.int .i64) (.pair (.int .i64) (.int .i64)))))) none, .d (.int .i64) none]], [.d (.sl (.int .i64)) (some 3), .d .bool none], fun x => f k x.1 x.2.1 x.2.2.1 x.2.2.2⟩
def S7 (x0_7 x1_7 : Int) (l2_7 : List (Int × Int × Int × Int × Int)) (x3_7 : Int) (l4_7 : List Int) (x5_7 : Int) : St := ⟨[(1, .ptr 100 0), (4, .ref 101), (5, .val (.int .i64) x5_7)], [(101, some (.row 3 (.int .i64) l4_7)), (100, some (.box [.val (.int .i64) x0_7, .val (.int .i64) x1_7, .val (.sl (.pair (.int .i64) (.pair (.int .i64) (.pair (.int .i64) (.pair (.int .i64) (.int .i64)))))) l2_7, .val (.int .i64) x3_7]))], 1000⟩
noncomputable def T : FnText := ⟨(conv [] (bodyOf Tryz.f127) 0).1, Tryz.f127.results.toList, 34, [(7, [(1, .bx 100 [.rd (.int .i64), .rd (.int .i64), .rd (.sl (.pair (.int .i64) (.pair (.int .i64) (.pair (.int .i64) (.pair (.int .i64) (.int .i64)))))), .rd (.int .i64)]), (4, .own 3 (.int .i64) 101), (5, .rd (.int .i64))])], [.ag [.d (.int .i64) none, .d (.int .i64) none, .d (.sl (.pair (.int .i64) (.pair (.int .i64) (.pair (.int .i64) (.pair (.int .i64) (.int .i64)))))) none, .d (.int .i64) none]], [.d (.sl (.int .i64)) (some 3), .d .bool none]⟩
noncomputable def tbl (k : Nat) : Tbl := [(84, spec_l25Good.spec k)]
theorem e7 (k : Nat) (o : Nat → St → Option (List Int × Bool)) (x0_7 x1_7 : Int) (l2_7 : List (Int × Int × Int × Int × Int)) (x3_7 : Int) (l4_7 : List Int) (x5_7 : Int) : T.step tyt (tbl k) o 7 (S7 x0_7 x1_7 l2_7 x3_7 l4_7 x5_7) = b7 (fun x0_7 x1_7 l2_7 x3_7 l4_7 x5_7 => o 7 (S7 x0_7 x1_7 l2_7 x3_7 l4_7 x5_7)) k x0_7 x1_7 l2_7 x3_7 l4_7 x5_7 := by kernel_rfl
theorem e (k : Nat) (o : Nat → St → Option (List Int × Bool)) (a0_0 a0_1 : Int) (l0_2 : List (Int × Int × Int × Int × Int)) (a0_3 : Int) : T.main tyt (tbl k) o (a0_0, a0_1, l0_2, a0_3) = m (fun x0_7 x1_7 l2_7 x3_7 l4_7 x5_7 => o 7 (S7 x0_7 x1_7 l2_7 x3_7 l4_7 x5_7)) k a0_0 a0_1 l0_2 a0_3 := by kernel_rfl
theorem ok : T.ok = true := by kernel_rfl
theorem run (k : Nat) : (∀ (x0_7 x1_7 : Int) (l2_7 : List (Int × Int × Int × Int × Int)) (x3_7 : Int) (l4_7 : List Int) (x5_7 : Int), T.run tyt tbl k 7 (S7 x0_7 x1_7 l2_7 x3_7 l4_7 x5_7) = spec_CarpetStates.l7 k x0_7 x1_7 l2_7 x3_7 l4_7 x5_7) := by
  induction k with
  | zero => exact fun x0_7 x1_7 l2_7 x3_7 l4_7 x5_7 => rfl
  | succ k ih =>
    exact fun x0_7 x1_7 l2_7 x3_7 l4_7 x5_7 => by
      have q7 : (fun x0_7 x1_7 l2_7 x3_7 l4_7 x5_7 => T.run tyt tbl k 7 (S7 x0_7 x1_7 l2_7 x3_7 l4_7 x5_7)) = spec_CarpetStates.l7 k := by funext x0_7 x1_7 l2_7 x3_7 l4_7 x5_7; exact ih x0_7 x1_7 l2_7 x3_7 l4_7 x5_7
      exact (e7 k (T.run tyt tbl k) x0_7 x1_7 l2_7 x3_7 l4_7 x5_7).trans (by rw [q7]; rfl)
theorem tblok (k : Nat) : TblOk Tryz.prog (tbl k) := TblOk.cons (spec_l25Good.sound k) (TblOk.nil _)
theorem sound (k : Nat) : Sound Tryz.prog 127 (spec k) := by
  have h := fn_ok (F := T) (tbl := tbl) mixed tyok Tryz.func127 (by kernel_rfl) (c0 := bodyOf Tryz.f127) rfl (conv_code _ _ _) rfl rfl ok k (fun j _ => tblok j)
  have q7 : (fun x0_7 x1_7 l2_7 x3_7 l4_7 x5_7 => T.run tyt tbl k 7 (S7 x0_7 x1_7 l2_7 x3_7 l4_7 x5_7)) = spec_CarpetStates.l7 k := by funext x0_7 x1_7 l2_7 x3_7 l4_7 x5_7; exact (run k) x0_7 x1_7 l2_7 x3_7 l4_7 x5_7
  have e : spec k = ⟨T.ps, T.rs, T.ev tyt tbl k⟩ := congrArg (FnSpec.mk _ _) (funext fun x => ((e k (T.run tyt tbl k) x.1 x.2.1 x.2.2.1 x.2.2.2).trans (by rw [q7]; rfl)).symm)
  rw [e]
  exact h
end spec_CarpetStates

namespace spec_l1Most
/-! ### spec_l1Most: function 109 -/
def m (k : Nat) (a0 a1 : Int) : Option (Int) := (if a1 < a0 then (some a0) else (some a1))
def f (k : Nat) (a0 a1 : Int) : Option (Int) := m k a0 a1
noncomputable def spec (k : Nat) : FnSpec := ⟨[.d (.int .i64) none, .d (.int .i64) none], [.d (.int .i64) none], fun x => f k x.1 x.2⟩
noncomputable def T : FnText := ⟨(conv [] (bodyOf Tryz.f109) 0).1, Tryz.f109.results.toList, 10, [], [.d (.int .i64) none, .d (.int .i64) none], [.d (.int .i64) none]⟩
noncomputable def tbl (k : Nat) : Tbl := []
theorem e (k : Nat) (o : Nat → St → Option (Int)) (a0 a1 : Int) : T.main tyt (tbl k) o (a0, a1) = m k a0 a1 := by kernel_rfl
theorem ok : T.ok = true := by kernel_rfl
theorem tblok (k : Nat) : TblOk Tryz.prog (tbl k) := TblOk.nil _
theorem sound (k : Nat) : Sound Tryz.prog 109 (spec k) := by
  have h := fn_ok (F := T) (tbl := tbl) mixed tyok Tryz.func109 (by kernel_rfl) (c0 := bodyOf Tryz.f109) rfl (conv_code _ _ _) rfl rfl ok k (fun j _ => tblok j)
  have e : spec k = ⟨T.ps, T.rs, T.ev tyt tbl k⟩ := congrArg (FnSpec.mk _ _) (funext fun x => ((e k (T.run tyt tbl k) x.1 x.2).trans (by rfl)).symm)
  rw [e]
  exact h
end spec_l1Most

namespace spec_DaysToSell
/-! ### spec_DaysToSell: function 128 -/
def b7 (o7 : Int → Int → (List (Int × Int × Int × Int × Int)) → Int → Int → Int → Option (Int × Bool)) (k : Nat) (x0_7 x1_7 : Int) (l2_7 : List (Int × Int × Int × Int × Int)) (x3_7 x4_7 x5_7 : Int) : Option (Int × Bool) := (if x5_7 < (l2_7.length : Int) then ((chk l2_7.length x5_7).bind fun i2 => ((spec_l1Most.f k 0 (w64 ((w64 ((((((l2_7.getD i2 (0, 0, 0, 0, 0)).2).2).2).2) + 3)) - x0_7))).bind fun r3 => (if ((((l2_7.getD i2 (0, 0, 0, 0, 0)).2).2).1) = 3 then (if (w64 (x0_7 + r3)) ≤ 4000 then (if x4_7 < 0 then (o7 x0_7 x1_7 l2_7 x3_7 r3 (w64 (x5_7 + 1))) else (if r3 < x4_7 then (o7 x0_7 x1_7 l2_7 x3_7 r3 (w64 (x5_7 + 1))) else (o7 x0_7 x1_7 l2_7 x3_7 x4_7 (w64 (x5_7 + 1))))) else (o7 x0_7 x1_7 l2_7 x3_7 x4_7 (w64 (x5_7 + 1)))) else (o7 x0_7 x1_7 l2_7 x3_7 x4_7 (w64 (x5_7 + 1)))))) else (if x4_7 < 0 then (some (0, false)) else (some (x4_7, true))))
def l7 : Nat → Int → Int → (List (Int × Int × Int × Int × Int)) → Int → Int → Int → Option (Int × Bool)
  | 0, _, _, _, _, _, _ => none
  | k + 1, x0_7, x1_7, l2_7, x3_7, x4_7, x5_7 => b7 (spec_DaysToSell.l7 k) k x0_7 x1_7 l2_7 x3_7 x4_7 x5_7
def m (o7 : Int → Int → (List (Int × Int × Int × Int × Int)) → Int → Int → Int → Option (Int × Bool)) (k : Nat) (a0_0 a0_1 : Int) (l0_2 : List (Int × Int × Int × Int × Int)) (a0_3 : Int) : Option (Int × Bool) := ((spec_l25Good.f k a0_0 a0_1 l0_2 a0_3).bind fun r1 => (cond (!r1) (some (0, false)) (o7 a0_0 a0_1 l0_2 a0_3 (-1) 0)))
def f (k : Nat) (a0_0 a0_1 : Int) (l0_2 : List (Int × Int × Int × Int × Int)) (a0_3 : Int) : Option (Int × Bool) := m (spec_DaysToSell.l7 k) k a0_0 a0_1 l0_2 a0_3
noncomputable def spec (k : Nat) : FnSpec := ⟨[.ag [.d (.int .i64) none, .d (.int .i64) none, .d (.sl (.pair (.int .i64) (.pair (.int .i64) (.pair (.int .i64) (.pair (.int .i64) (.int .i64)))))) none, .d (.int .i64) none]], [.d (.int .i64) none, .d .bool none], fun x => f k x.1 x.2.1 x.2.2.1 x.2.2.2⟩
def S7 (x0_7 x1_7 : Int) (l2_7 : List (Int × Int × Int × Int × Int)) (x3_7 x4_7 x5_7 : Int) : St := ⟨[(1, .ptr 100 0), (4, .val (.int .i64) x4_7), (5, .val (.int .i64) x5_7)], [(100, some (.box [.val (.int .i64) x0_7, .val (.int .i64) x1_7, .val (.sl (.pair (.int .i64) (.pair (.int .i64) (.pair (.int .i64) (.pair (.int .i64) (.int .i64)))))) l2_7, .val (.int .i64) x3_7]))], 1000⟩
noncomputable def T : FnText := ⟨(conv [] (bodyOf Tryz.f128) 0).1, Tryz.f128.results.toList, 53, [(7, [(1, .bx 100 [.rd (.int .i64), .rd (.int .i64), .rd (.sl (.pair (.int .i64) (.pair (.int .i64) (.pair (.int .i64) (.pair (.int .i64) (.int .i64)))))), .rd (.int .i64)]), (4, .rd (.int .i64)), (5, .rd (.int .i64))])], [.ag [.d (.int .i64) none, .d (.int .i64) none, .d (.sl (.pair (.int .i64) (.pair (.int .i64) (.pair (.int .i64) (.pair (.int .i64) (.int .i64)))))) none, .d (.int .i64) none]], [.d (.int .i64) none, .d .bool none]⟩
noncomputable def tbl (k : Nat) : Tbl := [(84, spec_l25Good.spec k), (109, spec_l1Most.spec k)]
theorem e7 (k : Nat) (o : Nat → St → Option (Int × Bool)) (x0_7 x1_7 : Int) (l2_7 : List (Int × Int × Int × Int × Int)) (x3_7 x4_7 x5_7 : Int) : T.step tyt (tbl k) o 7 (S7 x0_7 x1_7 l2_7 x3_7 x4_7 x5_7) = b7 (fun x0_7 x1_7 l2_7 x3_7 x4_7 x5_7 => o 7 (S7 x0_7 x1_7 l2_7 x3_7 x4_7 x5_7)) k x0_7 x1_7 l2_7 x3_7 x4_7 x5_7 := by kernel_rfl
theorem e (k : Nat) (o : Nat → St → Option (Int × Bool)) (a0_0 a0_1 : Int) (l0_2 : List (Int × Int × Int × Int × Int)) (a0_3 : Int) : T.main tyt (tbl k) o (a0_0, a0_1, l0_2, a0_3) = m (fun x0_7 x1_7 l2_7 x3_7 x4_7 x5_7 => o 7 (S7 x0_7 x1_7 l2_7 x3_7 x4_7 x5_7)) k a0_0 a0_1 l0_2 a0_3 := by kernel_rfl
theorem ok : T.ok = true := by kernel_rfl
theorem run (k : Nat) : (∀ (x0_7 x1_7 : Int) (l2_7 : List (Int × Int × Int × Int × Int)) (x3_7 x4_7 x5_7 : Int), T.run tyt tbl k 7 (S7 x0_7 x1_7 l2_7 x3_7 x4_7 x5_7) = spec_DaysToSell.l7 k x0_7 x1_7 l2_7 x3_7 x4_7 x5_7) := by
  induction k with
  | zero => exact fun x0_7 x1_7 l2_7 x3_7 x4_7 x5_7 => rfl
  | succ k ih =>
    exact fun x0_7 x1_7 l2_7 x3_7 x4_7 x5_7 => by
      have q7 : (fun x0_7 x1_7 l2_7 x3_7 x4_7 x5_7 => T.run tyt tbl k 7 (S7 x0_7 x1_7 l2_7 x3_7 x4_7 x5_7)) = spec_DaysToSell.l7 k := by funext x0_7 x1_7 l2_7 x3_7 x4_7 x5_7; exact ih x0_7 x1_7 l2_7 x3_7 x4_7 x5_7
      exact (e7 k (T.run tyt tbl k) x0_7 x1_7 l2_7 x3_7 x4_7 x5_7).trans (by rw [q7]; rfl)
theorem tblok (k : Nat) : TblOk Tryz.prog (tbl k) := TblOk.cons (spec_l25Good.sound k) (TblOk.cons (spec_l1Most.sound k) (TblOk.nil _))
theorem sound (k : Nat) : Sound Tryz.prog 128 (spec k) := by
  have h := fn_ok (F := T) (tbl := tbl) mixed tyok Tryz.func128 (by kernel_rfl) (c0 := bodyOf Tryz.f128) rfl (conv_code _ _ _) rfl rfl ok k (fun j _ => tblok j)
  have q7 : (fun x0_7 x1_7 l2_7 x3_7 x4_7 x5_7 => T.run tyt tbl k 7 (S7 x0_7 x1_7 l2_7 x3_7 x4_7 x5_7)) = spec_DaysToSell.l7 k := by funext x0_7 x1_7 l2_7 x3_7 x4_7 x5_7; exact (run k) x0_7 x1_7 l2_7 x3_7 x4_7 x5_7
  have e : spec k = ⟨T.ps, T.rs, T.ev tyt tbl k⟩ := congrArg (FnSpec.mk _ _) (funext fun x => ((e k (T.run tyt tbl k) x.1 x.2.1 x.2.2.1 x.2.2.2).trans (by rw [q7]; rfl)).symm)
  rw [e]
  exact h
end spec_DaysToSell

namespace spec_l28Word
/-! ### spec_l28Word: function 88 -/
def m (k : Nat) (a0_0 a0_1 : Int) (l0_2 : List (Int × Int × Int × Int × Int)) (a0_3 : Int) (a1 : ByteArray) : Option (ByteArray) := (if a1 = (⟨#[100, 97, 121]⟩ : ByteArray) then ((spec_l1Num.f k a0_0).bind fun r1 => (some r1)) else (if a1 = (⟨#[109, 111, 110, 101, 121]⟩ : ByteArray) then ((spec_l1Num.f k a0_3).bind fun r2 => (some r2)) else (if a1 = (⟨#[102, 114, 101, 101]⟩ : ByteArray) then ((spec_FreeLooms.f k a0_0 a0_1 l0_2 a0_3).bind fun r3 => ((spec_l28List.f k r3.1 r3.2).bind fun r4 => (some r4))) else (if a1 = (⟨#[114, 111, 119, 115]⟩ : ByteArray) then ((spec_RowsLeft.f k a0_0 a0_1 l0_2 a0_3).bind fun r5 => ((spec_l1Num.f k r5.1).bind fun r6 => (some r6))) else (if a1 = (⟨#[115, 116, 97, 116, 101, 115]⟩ : ByteArray) then ((spec_CarpetStates.f k a0_0 a0_1 l0_2 a0_3).bind fun r7 => ((spec_l28List.f k r7.1 r7.2).bind fun r8 => (some r8))) else (if a1 = (⟨#[110, 101, 120, 116]⟩ : ByteArray) then ((spec_DaysToSell.f k a0_0 a0_1 l0_2 a0_3).bind fun r9 => (cond r9.2 ((spec_l1Num.f k r9.1).bind fun r10 => (some r10)) (some (⟨#[63]⟩ : ByteArray)))) else (some (⟨#[63]⟩ : ByteArray))))))))
def f (k : Nat) (a0_0 a0_1 : Int) (l0_2 : List (Int × Int × Int × Int × Int)) (a0_3 : Int) (a1 : ByteArray) : Option (ByteArray) := m k a0_0 a0_1 l0_2 a0_3 a1
noncomputable def spec (k : Nat) : FnSpec := ⟨[.ag [.d (.int .i64) none, .d (.int .i64) none, .d (.sl (.pair (.int .i64) (.pair (.int .i64) (.pair (.int .i64) (.pair (.int .i64) (.int .i64)))))) none, .d (.int .i64) none], .d .str none], [.d .str none], fun x => f k x.1 x.2.1 x.2.2.1 x.2.2.2.1 x.2.2.2.2⟩
noncomputable def T : FnText := ⟨(conv [] (bodyOf Tryz.f88) 0).1, Tryz.f88.results.toList, 63, [], [.ag [.d (.int .i64) none, .d (.int .i64) none, .d (.sl (.pair (.int .i64) (.pair (.int .i64) (.pair (.int .i64) (.pair (.int .i64) (.int .i64)))))) none, .d (.int .i64) none], .d .str none], [.d .str none]⟩
noncomputable def tbl (k : Nat) : Tbl := [(73, spec_l1Num.spec k), (124, spec_FreeLooms.spec k), (125, spec_l28List.spec k), (126, spec_RowsLeft.spec k), (127, spec_CarpetStates.spec k), (128, spec_DaysToSell.spec k)]
theorem e (k : Nat) (o : Nat → St → Option (ByteArray)) (a0_0 a0_1 : Int) (l0_2 : List (Int × Int × Int × Int × Int)) (a0_3 : Int) (a1 : ByteArray) : T.main tyt (tbl k) o (a0_0, a0_1, l0_2, a0_3, a1) = m k a0_0 a0_1 l0_2 a0_3 a1 := by kernel_rfl
theorem ok : T.ok = true := by kernel_rfl
theorem tblok (k : Nat) : TblOk Tryz.prog (tbl k) := TblOk.cons (spec_l1Num.sound k) (TblOk.cons (spec_FreeLooms.sound k) (TblOk.cons (spec_l28List.sound k) (TblOk.cons (spec_RowsLeft.sound k) (TblOk.cons (spec_CarpetStates.sound k) (TblOk.cons (spec_DaysToSell.sound k) (TblOk.nil _))))))
theorem sound (k : Nat) : Sound Tryz.prog 88 (spec k) := by
  have h := fn_ok (F := T) (tbl := tbl) mixed tyok Tryz.func88 (by kernel_rfl) (c0 := bodyOf Tryz.f88) rfl (conv_code _ _ _) rfl rfl ok k (fun j _ => tblok j)
  have e : spec k = ⟨T.ps, T.rs, T.ev tyt tbl k⟩ := congrArg (FnSpec.mk _ _) (funext fun x => ((e k (T.run tyt tbl k) x.1 x.2.1 x.2.2.1 x.2.2.2.1 x.2.2.2.2).trans (by rfl)).symm)
  rw [e]
  exact h
end spec_l28Word

namespace spec_l25Step
/-! ### spec_l25Step: function 168 -/
def m (k : Nat) (a0_0 a0_1 : Int) (l0_2 : List (Int × Int × Int × Int × Int)) (a0_3 a1_0 a1_1 a1_2 : Int) : Option (Bool) := (if a1_0 = 1 then (if a1_1 = 0 then (some (decide (1 ≤ a1_2))) else (some false)) else (if a1_0 = 2 then (if a1_1 = 0 then ((spec_l1In.f k a1_2 1 500).bind fun r1 => (some r1)) else (some false)) else ((spec_l1In.f k a1_1 0 (w64 ((l0_2.length : Int) - 1))).bind fun r2 => (cond (!r2) (some false) (if a1_0 = 3 then ((spec_l1In.f k a1_2 1 a0_1).bind fun r3 => (some r3)) else (if a1_0 = 4 then ((spec_l1In.f k a1_2 1 20).bind fun r4 => (some r4)) else (if a1_0 = 7 then (some (decide (1 ≤ a1_2))) else (if a1_0 = 5 then (some (decide (a1_2 = 0))) else (if a1_0 = 6 then (some (decide (a1_2 = 0))) else (some false))))))))))
def f (k : Nat) (a0_0 a0_1 : Int) (l0_2 : List (Int × Int × Int × Int × Int)) (a0_3 a1_0 a1_1 a1_2 : Int) : Option (Bool) := m k a0_0 a0_1 l0_2 a0_3 a1_0 a1_1 a1_2
noncomputable def spec (k : Nat) : FnSpec := ⟨[.ag [.d (.int .i64) none, .d (.int .i64) none, .d (.sl (.pair (.int .i64) (.pair (.int .i64) (.pair (.int .i64) (.pair (.int .i64) (.int .i64)))))) none, .d (.int .i64) none], .ag [.d (.int .i64) none, .d (.int .i64) none, .d (.int .i64) none]], [.d .bool none], fun x => f k x.1 x.2.1 x.2.2.1 x.2.2.2.1 x.2.2.2.2.1 x.2.2.2.2.2.1 x.2.2.2.2.2.2⟩
noncomputable def T : FnText := ⟨(conv [] (bodyOf Tryz.f168) 0).1, Tryz.f168.results.toList, 67, [], [.ag [.d (.int .i64) none, .d (.int .i64) none, .d (.sl (.pair (.int .i64) (.pair (.int .i64) (.pair (.int .i64) (.pair (.int .i64) (.int .i64)))))) none, .d (.int .i64) none], .ag [.d (.int .i64) none, .d (.int .i64) none, .d (.int .i64) none]], [.d .bool none]⟩
noncomputable def tbl (k : Nat) : Tbl := [(118, spec_l1In.spec k)]
theorem e (k : Nat) (o : Nat → St → Option (Bool)) (a0_0 a0_1 : Int) (l0_2 : List (Int × Int × Int × Int × Int)) (a0_3 a1_0 a1_1 a1_2 : Int) : T.main tyt (tbl k) o (a0_0, a0_1, l0_2, a0_3, a1_0, a1_1, a1_2) = m k a0_0 a0_1 l0_2 a0_3 a1_0 a1_1 a1_2 := by kernel_rfl
theorem ok : T.ok = true := by kernel_rfl
theorem tblok (k : Nat) : TblOk Tryz.prog (tbl k) := TblOk.cons (spec_l1In.sound k) (TblOk.nil _)
theorem sound (k : Nat) : Sound Tryz.prog 168 (spec k) := by
  have h := fn_ok (F := T) (tbl := tbl) mixed tyok Tryz.func168 (by kernel_rfl) (c0 := bodyOf Tryz.f168) rfl (conv_code _ _ _) rfl rfl ok k (fun j _ => tblok j)
  have e : spec k = ⟨T.ps, T.rs, T.ev tyt tbl k⟩ := congrArg (FnSpec.mk _ _) (funext fun x => ((e k (T.run tyt tbl k) x.1 x.2.1 x.2.2.1 x.2.2.2.1 x.2.2.2.2.1 x.2.2.2.2.2.1 x.2.2.2.2.2.2).trans (by rfl)).symm)
  rw [e]
  exact h
end spec_l25Step

namespace spec_l25Change
/-! ### spec_l25Change: function 185 -/
def m (k : Nat) (a0_0 a0_1 a0_2 a0_3 a0_4 a1_0 a1_1 a1_2 a2 : Int) : Option (Int × Int × Int × Int × Int × Bool) := (if a1_0 = 3 then (some (a0_0, a0_1, 1, a1_2, a2, (decide (a0_2 = 0)))) else (if a1_0 = 4 then (if a0_2 = 1 then (some (a0_0, (w64 (a0_1 + a1_2)), a0_2, a0_3, a2, (decide (1 ≤ (w64 (a2 - a0_4)))))) else (some (a0_0, (w64 (a0_1 + a1_2)), a0_2, a0_3, a2, false))) else (if a1_0 = 5 then (some (a0_0, a0_1, 2, 0, a2, (decide (a0_2 = 1)))) else (if a1_0 = 6 then (some (a0_0, a0_1, 3, a0_3, a2, (decide (a0_2 = 2)))) else (if a0_2 = 3 then (some (a0_0, a0_1, 4, a0_3, a2, (decide (3 ≤ (w64 (a2 - a0_4)))))) else (some (a0_0, a0_1, 4, a0_3, a2, false)))))))
def f (k : Nat) (a0_0 a0_1 a0_2 a0_3 a0_4 a1_0 a1_1 a1_2 a2 : Int) : Option (Int × Int × Int × Int × Int × Bool) := m k a0_0 a0_1 a0_2 a0_3 a0_4 a1_0 a1_1 a1_2 a2
noncomputable def spec (k : Nat) : FnSpec := ⟨[.ag [.d (.int .i64) none, .d (.int .i64) none, .d (.int .i64) none, .d (.int .i64) none, .d (.int .i64) none], .ag [.d (.int .i64) none, .d (.int .i64) none, .d (.int .i64) none], .d (.int .i64) none], [.ag [.d (.int .i64) none, .d (.int .i64) none, .d (.int .i64) none, .d (.int .i64) none, .d (.int .i64) none], .d .bool none], fun x => f k x.1 x.2.1 x.2.2.1 x.2.2.2.1 x.2.2.2.2.1 x.2.2.2.2.2.1 x.2.2.2.2.2.2.1 x.2.2.2.2.2.2.2.1 x.2.2.2.2.2.2.2.2⟩
noncomputable def T : FnText := ⟨(conv [] (bodyOf Tryz.f185) 0).1, Tryz.f185.results.toList, 68, [], [.ag [.d (.int .i64) none, .d (.int .i64) none, .d (.int .i64) none, .d (.int .i64) none, .d (.int .i64) none], .ag [.d (.int .i64) none, .d (.int .i64) none, .d (.int .i64) none], .d (.int .i64) none], [.ag [.d (.int .i64) none, .d (.int .i64) none, .d (.int .i64) none, .d (.int .i64) none, .d (.int .i64) none], .d .bool none]⟩
noncomputable def tbl (k : Nat) : Tbl := []
theorem e (k : Nat) (o : Nat → St → Option (Int × Int × Int × Int × Int × Bool)) (a0_0 a0_1 a0_2 a0_3 a0_4 a1_0 a1_1 a1_2 a2 : Int) : T.main tyt (tbl k) o (a0_0, a0_1, a0_2, a0_3, a0_4, a1_0, a1_1, a1_2, a2) = m k a0_0 a0_1 a0_2 a0_3 a0_4 a1_0 a1_1 a1_2 a2 := by kernel_rfl
theorem ok : T.ok = true := by kernel_rfl
theorem tblok (k : Nat) : TblOk Tryz.prog (tbl k) := TblOk.nil _
theorem sound (k : Nat) : Sound Tryz.prog 185 (spec k) := by
  have h := fn_ok (F := T) (tbl := tbl) mixed tyok Tryz.func185 (by kernel_rfl) (c0 := bodyOf Tryz.f185) rfl (conv_code _ _ _) rfl rfl ok k (fun j _ => tblok j)
  have e : spec k = ⟨T.ps, T.rs, T.ev tyt tbl k⟩ := congrArg (FnSpec.mk _ _) (funext fun x => ((e k (T.run tyt tbl k) x.1 x.2.1 x.2.2.1 x.2.2.2.1 x.2.2.2.2.1 x.2.2.2.2.2.1 x.2.2.2.2.2.2.1 x.2.2.2.2.2.2.2.1 x.2.2.2.2.2.2.2.2).trans (by rfl)).symm)
  rw [e]
  exact h
end spec_l25Change

namespace spec_l25Make
/-! ### spec_l25Make: function 169 -/
def b2 (k : Nat) (x0_2 x1_2 : Int) (l2_2 : List (Int × Int × Int × Int × Int)) (x3_2 x4_2 x5_2 x6_2 x7_2 x8_2 : Int) (l9_2 : List (Int × Int × Int × Int × Int)) (x10_2 x11_2 x12_2 : Int) (l13_2 : List (Int × Int × Int × Int × Int)) (x14_2 : Int) : Option (Int × Int × List (Int × Int × Int × Int × Int) × Int × Bool) := ((chk l2_2.length x5_2).bind fun i4 => ((spec_l25Change.f k ((l2_2.getD i4 (0, 0, 0, 0, 0)).1) (((l2_2.getD i4 (0, 0, 0, 0, 0)).2).1) ((((l2_2.getD i4 (0, 0, 0, 0, 0)).2).2).1) (((((l2_2.getD i4 (0, 0, 0, 0, 0)).2).2).2).1) (((((l2_2.getD i4 (0, 0, 0, 0, 0)).2).2).2).2) x4_2 x5_2 x6_2 x0_2).bind fun r5 => ((chk l13_2.length x5_2).bind fun i6 => (cond r5.2.2.2.2.2 ((spec_l25Good.f k x11_2 x12_2 (upd l13_2 i6 (0, 0, 0, 0, 0) fun e7 => (r5.1, r5.2.1, r5.2.2.1, r5.2.2.2.1, r5.2.2.2.2.1)) x14_2).bind fun r8 => (some (x11_2, x12_2, (upd l13_2 i6 (0, 0, 0, 0, 0) fun e7 => (r5.1, r5.2.1, r5.2.2.1, r5.2.2.2.1, r5.2.2.2.2.1)), x14_2, r8))) (some (x11_2, x12_2, (upd l13_2 i6 (0, 0, 0, 0, 0) fun e7 => (r5.1, r5.2.1, r5.2.2.1, r5.2.2.2.1, r5.2.2.2.2.1)), x14_2, false))))))
def l2 : Nat → Int → Int → (List (Int × Int × Int × Int × Int)) → Int → Int → Int → Int → Int → Int → (List (Int × Int × Int × Int × Int)) → Int → Int → Int → (List (Int × Int × Int × Int × Int)) → Int → Option (Int × Int × List (Int × Int × Int × Int × Int) × Int × Bool)
  | 0, _, _, _, _, _, _, _, _, _, _, _, _, _, _, _ => none
  | k + 1, x0_2, x1_2, l2_2, x3_2, x4_2, x5_2, x6_2, x7_2, x8_2, l9_2, x10_2, x11_2, x12_2, l13_2, x14_2 => b2 k x0_2 x1_2 l2_2 x3_2 x4_2 x5_2 x6_2 x7_2 x8_2 l9_2 x10_2 x11_2 x12_2 l13_2 x14_2
def m (o2 : Int → Int → (List (Int × Int × Int × Int × Int)) → Int → Int → Int → Int → Int → Int → (List (Int × Int × Int × Int × Int)) → Int → Int → Int → (List (Int × Int × Int × Int × Int)) → Int → Option (Int × Int × List (Int × Int × Int × Int × Int) × Int × Bool)) (k : Nat) (a0_0 a0_1 : Int) (l0_2 : List (Int × Int × Int × Int × Int)) (a0_3 a1_0 a1_1 a1_2 : Int) : Option (Int × Int × List (Int × Int × Int × Int × Int) × Int × Bool) := ((spec_l25Own.f k a0_0 a0_1 l0_2 a0_3).bind fun r1 => (if a1_0 = 1 then (if (w64 (4000 - a0_0)) < a1_2 then (some (r1.1, r1.2.1, r1.2.2.1, r1.2.2.2, false)) else (some ((w64 (a0_0 + a1_2)), r1.2.1, r1.2.2.1, r1.2.2.2, true))) else (if a1_0 = 2 then ((app 3518437208883 r1.2.2.1 [(a1_2, 0, 0, 0, a0_0)]).bind fun l2 => ((spec_l25Good.f k r1.1 r1.2.1 l2 r1.2.2.2).bind fun r3 => (some (r1.1, r1.2.1, l2, r1.2.2.2, r3)))) else (if a1_0 = 7 then (if (w64 (1000000 - a0_3)) < a1_2 then (some (r1.1, r1.2.1, r1.2.2.1, r1.2.2.2, false)) else (o2 a0_0 a0_1 l0_2 a0_3 a1_0 a1_1 a1_2 0 0 [] 0 r1.1 r1.2.1 r1.2.2.1 (w64 (a0_3 + a1_2)))) else (o2 a0_0 a0_1 l0_2 a0_3 a1_0 a1_1 a1_2 0 0 [] 0 r1.1 r1.2.1 r1.2.2.1 r1.2.2.2)))))
def f (k : Nat) (a0_0 a0_1 : Int) (l0_2 : List (Int × Int × Int × Int × Int)) (a0_3 a1_0 a1_1 a1_2 : Int) : Option (Int × Int × List (Int × Int × Int × Int × Int) × Int × Bool) := m (spec_l25Make.l2 k) k a0_0 a0_1 l0_2 a0_3 a1_0 a1_1 a1_2
noncomputable def spec (k : Nat) : FnSpec := ⟨[.ag [.d (.int .i64) none, .d (.int .i64) none, .d (.sl (.pair (.int .i64) (.pair (.int .i64) (.pair (.int .i64) (.pair (.int .i64) (.int .i64)))))) none, .d (.int .i64) none], .ag [.d (.int .i64) none, .d (.int .i64) none, .d (.int .i64) none]], [.ag [.d (.int .i64) none, .d (.int .i64) none, .d (.sl (.pair (.int .i64) (.pair (.int .i64) (.pair (.int .i64) (.pair (.int .i64) (.int .i64)))))) (some 108), .d (.int .i64) none], .d .bool none], fun x => f k x.1 x.2.1 x.2.2.1 x.2.2.2.1 x.2.2.2.2.1 x.2.2.2.2.2.1 x.2.2.2.2.2.2⟩
def S2 (x0_2 x1_2 : Int) (l2_2 : List (Int × Int × Int × Int × Int)) (x3_2 x4_2 x5_2 x6_2 x7_2 x8_2 : Int) (l9_2 : List (Int × Int × Int × Int × Int)) (x10_2 x11_2 x12_2 : Int) (l13_2 : List (Int × Int × Int × Int × Int)) (x14_2 : Int) : St := ⟨[(2, .ptr 100 0), (3, .ptr 101 0), (4, .ptr 102 0), (6, .ptr 103 0)], [(103, some (.box [.val (.int .i64) x11_2, .val (.int .i64) x12_2, .ref 104, .val (.int .i64) x14_2])), (104, some (.row 108 (.pair (.int .i64) (.pair (.int .i64) (.pair (.int .i64) (.pair (.int .i64) (.int .i64))))) l13_2)), (102, some (.box [.val (.int .i64) x7_2, .val (.int .i64) x8_2, .val (.sl (.pair (.int .i64) (.pair (.int .i64) (.pair (.int .i64) (.pair (.int .i64) (.int .i64)))))) l9_2, .val (.int .i64) x10_2])), (101, some (.box [.val (.int .i64) x4_2, .val (.int .i64) x5_2, .val (.int .i64) x6_2])), (100, some (.box [.val (.int .i64) x0_2, .val (.int .i64) x1_2, .val (.sl (.pair (.int .i64) (.pair (.int .i64) (.pair (.int .i64) (.pair (.int .i64) (.int .i64)))))) l2_2, .val (.int .i64) x3_2]))], 1000⟩
noncomputable def T : FnText := ⟨(conv [2] (bodyOf Tryz.f169) 0).1, Tryz.f169.results.toList, 84, [(2, [(2, .bx 100 [.rd (.int .i64), .rd (.int .i64), .rd (.sl (.pair (.int .i64) (.pair (.int .i64) (.pair (.int .i64) (.pair (.int .i64) (.int .i64)))))), .rd (.int .i64)]), (3, .bx 101 [.rd (.int .i64), .rd (.int .i64), .rd (.int .i64)]), (4, .bx 102 [.rd (.int .i64), .rd (.int .i64), .rd (.sl (.pair (.int .i64) (.pair (.int .i64) (.pair (.int .i64) (.pair (.int .i64) (.int .i64)))))), .rd (.int .i64)]), (6, .bx 103 [.rd (.int .i64), .rd (.int .i64), .own 108 (.pair (.int .i64) (.pair (.int .i64) (.pair (.int .i64) (.pair (.int .i64) (.int .i64))))) 104, .rd (.int .i64)])])], [.ag [.d (.int .i64) none, .d (.int .i64) none, .d (.sl (.pair (.int .i64) (.pair (.int .i64) (.pair (.int .i64) (.pair (.int .i64) (.int .i64)))))) none, .d (.int .i64) none], .ag [.d (.int .i64) none, .d (.int .i64) none, .d (.int .i64) none]], [.ag [.d (.int .i64) none, .d (.int .i64) none, .d (.sl (.pair (.int .i64) (.pair (.int .i64) (.pair (.int .i64) (.pair (.int .i64) (.int .i64)))))) (some 108), .d (.int .i64) none], .d .bool none]⟩
noncomputable def tbl (k : Nat) : Tbl := [(83, spec_l25Own.spec k), (84, spec_l25Good.spec k), (185, spec_l25Change.spec k)]
theorem e2 (k : Nat) (o : Nat → St → Option (Int × Int × List (Int × Int × Int × Int × Int) × Int × Bool)) (x0_2 x1_2 : Int) (l2_2 : List (Int × Int × Int × Int × Int)) (x3_2 x4_2 x5_2 x6_2 x7_2 x8_2 : Int) (l9_2 : List (Int × Int × Int × Int × Int)) (x10_2 x11_2 x12_2 : Int) (l13_2 : List (Int × Int × Int × Int × Int)) (x14_2 : Int) : T.step tyt (tbl k) o 2 (S2 x0_2 x1_2 l2_2 x3_2 x4_2 x5_2 x6_2 x7_2 x8_2 l9_2 x10_2 x11_2 x12_2 l13_2 x14_2) = b2 k x0_2 x1_2 l2_2 x3_2 x4_2 x5_2 x6_2 x7_2 x8_2 l9_2 x10_2 x11_2 x12_2 l13_2 x14_2 := by kernel_rfl
theorem e (k : Nat) (o : Nat → St → Option (Int × Int × List (Int × Int × Int × Int × Int) × Int × Bool)) (a0_0 a0_1 : Int) (l0_2 : List (Int × Int × Int × Int × Int)) (a0_3 a1_0 a1_1 a1_2 : Int) : T.main tyt (tbl k) o (a0_0, a0_1, l0_2, a0_3, a1_0, a1_1, a1_2) = m (fun x0_2 x1_2 l2_2 x3_2 x4_2 x5_2 x6_2 x7_2 x8_2 l9_2 x10_2 x11_2 x12_2 l13_2 x14_2 => o 2 (S2 x0_2 x1_2 l2_2 x3_2 x4_2 x5_2 x6_2 x7_2 x8_2 l9_2 x10_2 x11_2 x12_2 l13_2 x14_2)) k a0_0 a0_1 l0_2 a0_3 a1_0 a1_1 a1_2 := by kernel_rfl
theorem ok : T.ok = true := by kernel_rfl
theorem run (k : Nat) : (∀ (x0_2 x1_2 : Int) (l2_2 : List (Int × Int × Int × Int × Int)) (x3_2 x4_2 x5_2 x6_2 x7_2 x8_2 : Int) (l9_2 : List (Int × Int × Int × Int × Int)) (x10_2 x11_2 x12_2 : Int) (l13_2 : List (Int × Int × Int × Int × Int)) (x14_2 : Int), T.run tyt tbl k 2 (S2 x0_2 x1_2 l2_2 x3_2 x4_2 x5_2 x6_2 x7_2 x8_2 l9_2 x10_2 x11_2 x12_2 l13_2 x14_2) = spec_l25Make.l2 k x0_2 x1_2 l2_2 x3_2 x4_2 x5_2 x6_2 x7_2 x8_2 l9_2 x10_2 x11_2 x12_2 l13_2 x14_2) := by
  induction k with
  | zero => exact fun x0_2 x1_2 l2_2 x3_2 x4_2 x5_2 x6_2 x7_2 x8_2 l9_2 x10_2 x11_2 x12_2 l13_2 x14_2 => rfl
  | succ k ih =>
    exact fun x0_2 x1_2 l2_2 x3_2 x4_2 x5_2 x6_2 x7_2 x8_2 l9_2 x10_2 x11_2 x12_2 l13_2 x14_2 => by
      exact (e2 k (T.run tyt tbl k) x0_2 x1_2 l2_2 x3_2 x4_2 x5_2 x6_2 x7_2 x8_2 l9_2 x10_2 x11_2 x12_2 l13_2 x14_2).trans (by rfl)
theorem tblok (k : Nat) : TblOk Tryz.prog (tbl k) := TblOk.cons (spec_l25Own.sound k) (TblOk.cons (spec_l25Good.sound k) (TblOk.cons (spec_l25Change.sound k) (TblOk.nil _)))
theorem sound (k : Nat) : Sound Tryz.prog 169 (spec k) := by
  have h := fn_ok (F := T) (tbl := tbl) mixed tyok Tryz.func169 (by kernel_rfl) (c0 := bodyOf Tryz.f169) rfl (conv_code _ _ _) rfl rfl ok k (fun j _ => tblok j)
  have q2 : (fun x0_2 x1_2 l2_2 x3_2 x4_2 x5_2 x6_2 x7_2 x8_2 l9_2 x10_2 x11_2 x12_2 l13_2 x14_2 => T.run tyt tbl k 2 (S2 x0_2 x1_2 l2_2 x3_2 x4_2 x5_2 x6_2 x7_2 x8_2 l9_2 x10_2 x11_2 x12_2 l13_2 x14_2)) = spec_l25Make.l2 k := by funext x0_2 x1_2 l2_2 x3_2 x4_2 x5_2 x6_2 x7_2 x8_2 l9_2 x10_2 x11_2 x12_2 l13_2 x14_2; exact (run k) x0_2 x1_2 l2_2 x3_2 x4_2 x5_2 x6_2 x7_2 x8_2 l9_2 x10_2 x11_2 x12_2 l13_2 x14_2
  have e : spec k = ⟨T.ps, T.rs, T.ev tyt tbl k⟩ := congrArg (FnSpec.mk _ _) (funext fun x => ((e k (T.run tyt tbl k) x.1 x.2.1 x.2.2.1 x.2.2.2.1 x.2.2.2.2.1 x.2.2.2.2.2.1 x.2.2.2.2.2.2).trans (by rw [q2]; rfl)).symm)
  rw [e]
  exact h
end spec_l25Make

namespace spec_StepShop
/-! ### spec_StepShop: function 148 -/
def m (k : Nat) (a0_0 a0_1 : Int) (l0_2 : List (Int × Int × Int × Int × Int)) (a0_3 a1_0 a1_1 a1_2 : Int) : Option (Int × Int × List (Int × Int × Int × Int × Int) × Int × Bool) := ((spec_l25Good.f k a0_0 a0_1 l0_2 a0_3).bind fun r1 => (cond (!r1) (some (0, 0, [], 0, false)) ((spec_l25Step.f k a0_0 a0_1 l0_2 a0_3 a1_0 a1_1 a1_2).bind fun r2 => (cond (!r2) (some (0, 0, [], 0, false)) ((spec_l25Make.f k a0_0 a0_1 l0_2 a0_3 a1_0 a1_1 a1_2).bind fun r3 => (cond (!r3.2.2.2.2) (some (0, 0, [], 0, false)) (some (r3.1, r3.2.1, r3.2.2.1, r3.2.2.2.1, true))))))))
def f (k : Nat) (a0_0 a0_1 : Int) (l0_2 : List (Int × Int × Int × Int × Int)) (a0_3 a1_0 a1_1 a1_2 : Int) : Option (Int × Int × List (Int × Int × Int × Int × Int) × Int × Bool) := m k a0_0 a0_1 l0_2 a0_3 a1_0 a1_1 a1_2
noncomputable def spec (k : Nat) : FnSpec := ⟨[.ag [.d (.int .i64) none, .d (.int .i64) none, .d (.sl (.pair (.int .i64) (.pair (.int .i64) (.pair (.int .i64) (.pair (.int .i64) (.int .i64)))))) none, .d (.int .i64) none], .ag [.d (.int .i64) none, .d (.int .i64) none, .d (.int .i64) none]], [.ag [.d (.int .i64) none, .d (.int .i64) none, .d (.sl (.pair (.int .i64) (.pair (.int .i64) (.pair (.int .i64) (.pair (.int .i64) (.int .i64)))))) (some 108), .d (.int .i64) none], .d .bool none], fun x => f k x.1 x.2.1 x.2.2.1 x.2.2.2.1 x.2.2.2.2.1 x.2.2.2.2.2.1 x.2.2.2.2.2.2⟩
noncomputable def T : FnText := ⟨(conv [] (bodyOf Tryz.f148) 0).1, Tryz.f148.results.toList, 28, [], [.ag [.d (.int .i64) none, .d (.int .i64) none, .d (.sl (.pair (.int .i64) (.pair (.int .i64) (.pair (.int .i64) (.pair (.int .i64) (.int .i64)))))) none, .d (.int .i64) none], .ag [.d (.int .i64) none, .d (.int .i64) none, .d (.int .i64) none]], [.ag [.d (.int .i64) none, .d (.int .i64) none, .d (.sl (.pair (.int .i64) (.pair (.int .i64) (.pair (.int .i64) (.pair (.int .i64) (.int .i64)))))) (some 108), .d (.int .i64) none], .d .bool none]⟩
noncomputable def tbl (k : Nat) : Tbl := [(84, spec_l25Good.spec k), (168, spec_l25Step.spec k), (169, spec_l25Make.spec k)]
theorem e (k : Nat) (o : Nat → St → Option (Int × Int × List (Int × Int × Int × Int × Int) × Int × Bool)) (a0_0 a0_1 : Int) (l0_2 : List (Int × Int × Int × Int × Int)) (a0_3 a1_0 a1_1 a1_2 : Int) : T.main tyt (tbl k) o (a0_0, a0_1, l0_2, a0_3, a1_0, a1_1, a1_2) = m k a0_0 a0_1 l0_2 a0_3 a1_0 a1_1 a1_2 := by kernel_rfl
theorem ok : T.ok = true := by kernel_rfl
theorem tblok (k : Nat) : TblOk Tryz.prog (tbl k) := TblOk.cons (spec_l25Good.sound k) (TblOk.cons (spec_l25Step.sound k) (TblOk.cons (spec_l25Make.sound k) (TblOk.nil _)))
theorem sound (k : Nat) : Sound Tryz.prog 148 (spec k) := by
  have h := fn_ok (F := T) (tbl := tbl) mixed tyok Tryz.func148 (by kernel_rfl) (c0 := bodyOf Tryz.f148) rfl (conv_code _ _ _) rfl rfl ok k (fun j _ => tblok j)
  have e : spec k = ⟨T.ps, T.rs, T.ev tyt tbl k⟩ := congrArg (FnSpec.mk _ _) (funext fun x => ((e k (T.run tyt tbl k) x.1 x.2.1 x.2.2.1 x.2.2.2.1 x.2.2.2.2.1 x.2.2.2.2.2.1 x.2.2.2.2.2.2).trans (by rfl)).symm)
  rw [e]
  exact h
end spec_StepShop

namespace spec_l25Text
/-! ### spec_l25Text: function 74 -/
def m (k : Nat) (a0_0 a0_1 a0_2 a0_3 a0_4 : Int) : Option (ByteArray) := ((chk [(⟨#[119, 97, 105, 116, 115]⟩ : ByteArray), (⟨#[119, 111, 118, 101, 110]⟩ : ByteArray), (⟨#[111, 102, 102]⟩ : ByteArray), (⟨#[119, 97, 115, 104, 101, 100]⟩ : ByteArray), (⟨#[115, 111, 108, 100]⟩ : ByteArray)].length a0_2).bind fun i1 => ((catS ([(⟨#[119, 97, 105, 116, 115]⟩ : ByteArray), (⟨#[119, 111, 118, 101, 110]⟩ : ByteArray), (⟨#[111, 102, 102]⟩ : ByteArray), (⟨#[119, 97, 115, 104, 101, 100]⟩ : ByteArray), (⟨#[115, 111, 108, 100]⟩ : ByteArray)].getD i1 ByteArray.empty) (⟨#[32]⟩ : ByteArray)).bind fun s2 => ((spec_l1Num.f k a0_1).bind fun r3 => ((catS s2 r3).bind fun s4 => ((catS s4 (⟨#[47]⟩ : ByteArray)).bind fun s5 => ((spec_l1Num.f k a0_0).bind fun r6 => ((catS s5 r6).bind fun s7 => (if 0 < a0_3 then ((catS s7 (⟨#[32, 111, 110, 32]⟩ : ByteArray)).bind fun s8 => ((spec_l1Num.f k a0_3).bind fun r9 => ((catS s8 r9).bind fun s10 => (some s10)))) else (some s7)))))))))
def f (k : Nat) (a0_0 a0_1 a0_2 a0_3 a0_4 : Int) : Option (ByteArray) := m k a0_0 a0_1 a0_2 a0_3 a0_4
noncomputable def spec (k : Nat) : FnSpec := ⟨[.ag [.d (.int .i64) none, .d (.int .i64) none, .d (.int .i64) none, .d (.int .i64) none, .d (.int .i64) none]], [.d .str none], fun x => f k x.1 x.2.1 x.2.2.1 x.2.2.2.1 x.2.2.2.2⟩
noncomputable def T : FnText := ⟨(conv [] (bodyOf Tryz.f74) 0).1, Tryz.f74.results.toList, 29, [], [.ag [.d (.int .i64) none, .d (.int .i64) none, .d (.int .i64) none, .d (.int .i64) none, .d (.int .i64) none]], [.d .str none]⟩
noncomputable def tbl (k : Nat) : Tbl := [(73, spec_l1Num.spec k)]
theorem e (k : Nat) (o : Nat → St → Option (ByteArray)) (a0_0 a0_1 a0_2 a0_3 a0_4 : Int) : T.main tyt (tbl k) o (a0_0, a0_1, a0_2, a0_3, a0_4) = m k a0_0 a0_1 a0_2 a0_3 a0_4 := by kernel_rfl
theorem ok : T.ok = true := by kernel_rfl
theorem tblok (k : Nat) : TblOk Tryz.prog (tbl k) := TblOk.cons (spec_l1Num.sound k) (TblOk.nil _)
theorem sound (k : Nat) : Sound Tryz.prog 74 (spec k) := by
  have h := fn_ok (F := T) (tbl := tbl) mixed tyok Tryz.func74 (by kernel_rfl) (c0 := bodyOf Tryz.f74) rfl (conv_code _ _ _) rfl rfl ok k (fun j _ => tblok j)
  have e : spec k = ⟨T.ps, T.rs, T.ev tyt tbl k⟩ := congrArg (FnSpec.mk _ _) (funext fun x => ((e k (T.run tyt tbl k) x.1 x.2.1 x.2.2.1 x.2.2.2.1 x.2.2.2.2).trans (by rfl)).symm)
  rw [e]
  exact h
end spec_l25Text

namespace spec_CarpetText
/-! ### spec_CarpetText: function 160 -/
def m (k : Nat) (a0_0 a0_1 : Int) (l0_2 : List (Int × Int × Int × Int × Int)) (a0_3 a1 : Int) : Option (ByteArray × Bool) := ((spec_l25Good.f k a0_0 a0_1 l0_2 a0_3).bind fun r1 => (cond (!r1) (some ((⟨#[]⟩ : ByteArray), false)) ((spec_l1In.f k a1 0 (w64 ((l0_2.length : Int) - 1))).bind fun r2 => (cond (!r2) (some ((⟨#[]⟩ : ByteArray), false)) ((chk l0_2.length a1).bind fun i3 => ((spec_l25Text.f k ((l0_2.getD i3 (0, 0, 0, 0, 0)).1) (((l0_2.getD i3 (0, 0, 0, 0, 0)).2).1) ((((l0_2.getD i3 (0, 0, 0, 0, 0)).2).2).1) (((((l0_2.getD i3 (0, 0, 0, 0, 0)).2).2).2).1) (((((l0_2.getD i3 (0, 0, 0, 0, 0)).2).2).2).2)).bind fun r4 => (some (r4, true))))))))
def f (k : Nat) (a0_0 a0_1 : Int) (l0_2 : List (Int × Int × Int × Int × Int)) (a0_3 a1 : Int) : Option (ByteArray × Bool) := m k a0_0 a0_1 l0_2 a0_3 a1
noncomputable def spec (k : Nat) : FnSpec := ⟨[.ag [.d (.int .i64) none, .d (.int .i64) none, .d (.sl (.pair (.int .i64) (.pair (.int .i64) (.pair (.int .i64) (.pair (.int .i64) (.int .i64)))))) none, .d (.int .i64) none], .d (.int .i64) none], [.d .str none, .d .bool none], fun x => f k x.1 x.2.1 x.2.2.1 x.2.2.2.1 x.2.2.2.2⟩
noncomputable def T : FnText := ⟨(conv [] (bodyOf Tryz.f160) 0).1, Tryz.f160.results.toList, 24, [], [.ag [.d (.int .i64) none, .d (.int .i64) none, .d (.sl (.pair (.int .i64) (.pair (.int .i64) (.pair (.int .i64) (.pair (.int .i64) (.int .i64)))))) none, .d (.int .i64) none], .d (.int .i64) none], [.d .str none, .d .bool none]⟩
noncomputable def tbl (k : Nat) : Tbl := [(84, spec_l25Good.spec k), (118, spec_l1In.spec k), (74, spec_l25Text.spec k)]
theorem e (k : Nat) (o : Nat → St → Option (ByteArray × Bool)) (a0_0 a0_1 : Int) (l0_2 : List (Int × Int × Int × Int × Int)) (a0_3 a1 : Int) : T.main tyt (tbl k) o (a0_0, a0_1, l0_2, a0_3, a1) = m k a0_0 a0_1 l0_2 a0_3 a1 := by kernel_rfl
theorem ok : T.ok = true := by kernel_rfl
theorem tblok (k : Nat) : TblOk Tryz.prog (tbl k) := TblOk.cons (spec_l25Good.sound k) (TblOk.cons (spec_l1In.sound k) (TblOk.cons (spec_l25Text.sound k) (TblOk.nil _)))
theorem sound (k : Nat) : Sound Tryz.prog 160 (spec k) := by
  have h := fn_ok (F := T) (tbl := tbl) mixed tyok Tryz.func160 (by kernel_rfl) (c0 := bodyOf Tryz.f160) rfl (conv_code _ _ _) rfl rfl ok k (fun j _ => tblok j)
  have e : spec k = ⟨T.ps, T.rs, T.ev tyt tbl k⟩ := congrArg (FnSpec.mk _ _) (funext fun x => ((e k (T.run tyt tbl k) x.1 x.2.1 x.2.2.1 x.2.2.2.1 x.2.2.2.2).trans (by rfl)).symm)
  rw [e]
  exact h
end spec_CarpetText

namespace spec_l28Carpet
/-! ### spec_l28Carpet: function 130 -/
def m (k : Nat) (a0_0 a0_1 : Int) (l0_2 : List (Int × Int × Int × Int × Int)) (a0_3 a1 : Int) : Option (ByteArray) := ((spec_CarpetText.f k a0_0 a0_1 l0_2 a0_3 a1).bind fun r1 => (cond (!r1.2) (some (⟨#[63]⟩ : ByteArray)) (some r1.1)))
def f (k : Nat) (a0_0 a0_1 : Int) (l0_2 : List (Int × Int × Int × Int × Int)) (a0_3 a1 : Int) : Option (ByteArray) := m k a0_0 a0_1 l0_2 a0_3 a1
noncomputable def spec (k : Nat) : FnSpec := ⟨[.ag [.d (.int .i64) none, .d (.int .i64) none, .d (.sl (.pair (.int .i64) (.pair (.int .i64) (.pair (.int .i64) (.pair (.int .i64) (.int .i64)))))) none, .d (.int .i64) none], .d (.int .i64) none], [.d .str none], fun x => f k x.1 x.2.1 x.2.2.1 x.2.2.2.1 x.2.2.2.2⟩
noncomputable def T : FnText := ⟨(conv [] (bodyOf Tryz.f130) 0).1, Tryz.f130.results.toList, 16, [], [.ag [.d (.int .i64) none, .d (.int .i64) none, .d (.sl (.pair (.int .i64) (.pair (.int .i64) (.pair (.int .i64) (.pair (.int .i64) (.int .i64)))))) none, .d (.int .i64) none], .d (.int .i64) none], [.d .str none]⟩
noncomputable def tbl (k : Nat) : Tbl := [(160, spec_CarpetText.spec k)]
theorem e (k : Nat) (o : Nat → St → Option (ByteArray)) (a0_0 a0_1 : Int) (l0_2 : List (Int × Int × Int × Int × Int)) (a0_3 a1 : Int) : T.main tyt (tbl k) o (a0_0, a0_1, l0_2, a0_3, a1) = m k a0_0 a0_1 l0_2 a0_3 a1 := by kernel_rfl
theorem ok : T.ok = true := by kernel_rfl
theorem tblok (k : Nat) : TblOk Tryz.prog (tbl k) := TblOk.cons (spec_CarpetText.sound k) (TblOk.nil _)
theorem sound (k : Nat) : Sound Tryz.prog 130 (spec k) := by
  have h := fn_ok (F := T) (tbl := tbl) mixed tyok Tryz.func130 (by kernel_rfl) (c0 := bodyOf Tryz.f130) rfl (conv_code _ _ _) rfl rfl ok k (fun j _ => tblok j)
  have e : spec k = ⟨T.ps, T.rs, T.ev tyt tbl k⟩ := congrArg (FnSpec.mk _ _) (funext fun x => ((e k (T.run tyt tbl k) x.1 x.2.1 x.2.2.1 x.2.2.2.1 x.2.2.2.2).trans (by rfl)).symm)
  rw [e]
  exact h
end spec_l28Carpet

namespace spec_l28Make
/-! ### spec_l28Make: function 129 -/
def m (k : Nat) (a0_0 a0_1 : Int) (l0_2 : List (Int × Int × Int × Int × Int)) (a0_3 : Int) (a0_4 a0_5 : ByteArray) (a0_6 a1_0 a1_1 a1_2 : Int) : Option (Int × Int × List (Int × Int × Int × Int × Int) × Int × ByteArray × ByteArray × Int × ByteArray) := ((spec_StepShop.f k a0_0 a0_1 l0_2 a0_3 a1_0 a1_1 a1_2).bind fun r1 => (cond (!r1.2.2.2.2) (some (a0_0, a0_1, l0_2, a0_3, a0_4, a0_5, a0_6, (⟨#[63]⟩ : ByteArray))) (if a1_0 = 1 then ((spec_l1Num.f k r1.1).bind fun r2 => (some (r1.1, r1.2.1, r1.2.2.1, r1.2.2.2.1, a0_4, a0_5, a0_6, r2))) else (if a1_0 = 2 then ((spec_l1Num.f k (w64 ((r1.2.2.1.length : Int) - 1))).bind fun r3 => (some (r1.1, r1.2.1, r1.2.2.1, r1.2.2.2.1, a0_4, a0_5, a0_6, r3))) else (if a1_0 = 7 then ((spec_l1Num.f k r1.2.2.2.1).bind fun r4 => (some (r1.1, r1.2.1, r1.2.2.1, r1.2.2.2.1, a0_4, a0_5, a0_6, r4))) else ((spec_l28Carpet.f k r1.1 r1.2.1 r1.2.2.1 r1.2.2.2.1 a1_1).bind fun r5 => (some (r1.1, r1.2.1, r1.2.2.1, r1.2.2.2.1, a0_4, a0_5, a0_6, r5))))))))
def f (k : Nat) (a0_0 a0_1 : Int) (l0_2 : List (Int × Int × Int × Int × Int)) (a0_3 : Int) (a0_4 a0_5 : ByteArray) (a0_6 a1_0 a1_1 a1_2 : Int) : Option (Int × Int × List (Int × Int × Int × Int × Int) × Int × ByteArray × ByteArray × Int × ByteArray) := m k a0_0 a0_1 l0_2 a0_3 a0_4 a0_5 a0_6 a1_0 a1_1 a1_2
noncomputable def spec (k : Nat) : FnSpec := ⟨[.ag [.d (.int .i64) none, .d (.int .i64) none, .d (.sl (.pair (.int .i64) (.pair (.int .i64) (.pair (.int .i64) (.pair (.int .i64) (.int .i64)))))) none, .d (.int .i64) none, .d .str none, .d .str none, .d (.int .i64) none], .ag [.d (.int .i64) none, .d (.int .i64) none, .d (.int .i64) none]], [.ag [.d (.int .i64) none, .d (.int .i64) none, .d (.sl (.pair (.int .i64) (.pair (.int .i64) (.pair (.int .i64) (.pair (.int .i64) (.int .i64)))))) none, .d (.int .i64) none, .d .str none, .d .str none, .d (.int .i64) none], .d .str none], fun x => f k x.1 x.2.1 x.2.2.1 x.2.2.2.1 x.2.2.2.2.1 x.2.2.2.2.2.1 x.2.2.2.2.2.2.1 x.2.2.2.2.2.2.2.1 x.2.2.2.2.2.2.2.2.1 x.2.2.2.2.2.2.2.2.2⟩
noncomputable def T : FnText := ⟨(conv [] (bodyOf Tryz.f129) 0).1, Tryz.f129.results.toList, 49, [], [.ag [.d (.int .i64) none, .d (.int .i64) none, .d (.sl (.pair (.int .i64) (.pair (.int .i64) (.pair (.int .i64) (.pair (.int .i64) (.int .i64)))))) none, .d (.int .i64) none, .d .str none, .d .str none, .d (.int .i64) none], .ag [.d (.int .i64) none, .d (.int .i64) none, .d (.int .i64) none]], [.ag [.d (.int .i64) none, .d (.int .i64) none, .d (.sl (.pair (.int .i64) (.pair (.int .i64) (.pair (.int .i64) (.pair (.int .i64) (.int .i64)))))) none, .d (.int .i64) none, .d .str none, .d .str none, .d (.int .i64) none], .d .str none]⟩
noncomputable def tbl (k : Nat) : Tbl := [(148, spec_StepShop.spec k), (73, spec_l1Num.spec k), (130, spec_l28Carpet.spec k)]
theorem e (k : Nat) (o : Nat → St → Option (Int × Int × List (Int × Int × Int × Int × Int) × Int × ByteArray × ByteArray × Int × ByteArray)) (a0_0 a0_1 : Int) (l0_2 : List (Int × Int × Int × Int × Int)) (a0_3 : Int) (a0_4 a0_5 : ByteArray) (a0_6 a1_0 a1_1 a1_2 : Int) : T.main tyt (tbl k) o (a0_0, a0_1, l0_2, a0_3, a0_4, a0_5, a0_6, a1_0, a1_1, a1_2) = m k a0_0 a0_1 l0_2 a0_3 a0_4 a0_5 a0_6 a1_0 a1_1 a1_2 := by kernel_rfl
theorem ok : T.ok = true := by kernel_rfl
theorem tblok (k : Nat) : TblOk Tryz.prog (tbl k) := TblOk.cons (spec_StepShop.sound k) (TblOk.cons (spec_l1Num.sound k) (TblOk.cons (spec_l28Carpet.sound k) (TblOk.nil _)))
theorem sound (k : Nat) : Sound Tryz.prog 129 (spec k) := by
  have h := fn_ok (F := T) (tbl := tbl) mixed tyok Tryz.func129 (by kernel_rfl) (c0 := bodyOf Tryz.f129) rfl (conv_code _ _ _) rfl rfl ok k (fun j _ => tblok j)
  have e : spec k = ⟨T.ps, T.rs, T.ev tyt tbl k⟩ := congrArg (FnSpec.mk _ _) (funext fun x => ((e k (T.run tyt tbl k) x.1 x.2.1 x.2.2.1 x.2.2.2.1 x.2.2.2.2.1 x.2.2.2.2.2.1 x.2.2.2.2.2.2.1 x.2.2.2.2.2.2.2.1 x.2.2.2.2.2.2.2.2.1 x.2.2.2.2.2.2.2.2.2).trans (by rfl)).symm)
  rw [e]
  exact h
end spec_l28Make

namespace spec_l28One
/-! ### spec_l28One: function 89 -/
def m (k : Nat) (a0_0 a0_1 : Int) (l0_2 : List (Int × Int × Int × Int × Int)) (a0_3 : Int) (a0_4 a0_5 : ByteArray) (a0_6 : Int) (a1 : ByteArray) (a2 : Int) : Option (Int × Int × List (Int × Int × Int × Int × Int) × Int × ByteArray × ByteArray × Int × ByteArray) := (if a1 = (⟨#[119, 97, 105, 116]⟩ : ByteArray) then ((spec_l28Make.f k a0_0 a0_1 l0_2 a0_3 a0_4 a0_5 a0_6 1 0 a2).bind fun r1 => (some (r1.1, r1.2.1, r1.2.2.1, r1.2.2.2.1, r1.2.2.2.2.1, r1.2.2.2.2.2.1, r1.2.2.2.2.2.2.1, r1.2.2.2.2.2.2.2))) else (if a1 = (⟨#[111, 114, 100, 101, 114]⟩ : ByteArray) then ((spec_l28Make.f k a0_0 a0_1 l0_2 a0_3 a0_4 a0_5 a0_6 2 0 a2).bind fun r2 => (some (r2.1, r2.2.1, r2.2.2.1, r2.2.2.2.1, r2.2.2.2.2.1, r2.2.2.2.2.2.1, r2.2.2.2.2.2.2.1, r2.2.2.2.2.2.2.2))) else (if a1 = (⟨#[116, 97, 107, 101]⟩ : ByteArray) then ((spec_l28Make.f k a0_0 a0_1 l0_2 a0_3 a0_4 a0_5 a0_6 5 a2 0).bind fun r3 => (some (r3.1, r3.2.1, r3.2.2.1, r3.2.2.2.1, r3.2.2.2.2.1, r3.2.2.2.2.2.1, r3.2.2.2.2.2.2.1, r3.2.2.2.2.2.2.2))) else (if a1 = (⟨#[119, 97, 115, 104]⟩ : ByteArray) then ((spec_l28Make.f k a0_0 a0_1 l0_2 a0_3 a0_4 a0_5 a0_6 6 a2 0).bind fun r4 => (some (r4.1, r4.2.1, r4.2.2.1, r4.2.2.2.1, r4.2.2.2.2.1, r4.2.2.2.2.2.1, r4.2.2.2.2.2.2.1, r4.2.2.2.2.2.2.2))) else (if a1 = (⟨#[99, 97, 114, 112, 101, 116]⟩ : ByteArray) then ((spec_l28Carpet.f k a0_0 a0_1 l0_2 a0_3 a2).bind fun r5 => (some (a0_0, a0_1, l0_2, a0_3, a0_4, a0_5, a0_6, r5))) else (some (a0_0, a0_1, l0_2, a0_3, a0_4, a0_5, a0_6, (⟨#[63]⟩ : ByteArray))))))))
def f (k : Nat) (a0_0 a0_1 : Int) (l0_2 : List (Int × Int × Int × Int × Int)) (a0_3 : Int) (a0_4 a0_5 : ByteArray) (a0_6 : Int) (a1 : ByteArray) (a2 : Int) : Option (Int × Int × List (Int × Int × Int × Int × Int) × Int × ByteArray × ByteArray × Int × ByteArray) := m k a0_0 a0_1 l0_2 a0_3 a0_4 a0_5 a0_6 a1 a2
noncomputable def spec (k : Nat) : FnSpec := ⟨[.ag [.d (.int .i64) none, .d (.int .i64) none, .d (.sl (.pair (.int .i64) (.pair (.int .i64) (.pair (.int .i64) (.pair (.int .i64) (.int .i64)))))) none, .d (.int .i64) none, .d .str none, .d .str none, .d (.int .i64) none], .d .str none, .d (.int .i64) none], [.ag [.d (.int .i64) none, .d (.int .i64) none, .d (.sl (.pair (.int .i64) (.pair (.int .i64) (.pair (.int .i64) (.pair (.int .i64) (.int .i64)))))) none, .d (.int .i64) none, .d .str none, .d .str none, .d (.int .i64) none], .d .str none], fun x => f k x.1 x.2.1 x.2.2.1 x.2.2.2.1 x.2.2.2.2.1 x.2.2.2.2.2.1 x.2.2.2.2.2.2.1 x.2.2.2.2.2.2.2.1 x.2.2.2.2.2.2.2.2⟩
noncomputable def T : FnText := ⟨(conv [] (bodyOf Tryz.f89) 0).1, Tryz.f89.results.toList, 49, [], [.ag [.d (.int .i64) none, .d (.int .i64) none, .d (.sl (.pair (.int .i64) (.pair (.int .i64) (.pair (.int .i64) (.pair (.int .i64) (.int .i64)))))) none, .d (.int .i64) none, .d .str none, .d .str none, .d (.int .i64) none], .d .str none, .d (.int .i64) none], [.ag [.d (.int .i64) none, .d (.int .i64) none, .d (.sl (.pair (.int .i64) (.pair (.int .i64) (.pair (.int .i64) (.pair (.int .i64) (.int .i64)))))) none, .d (.int .i64) none, .d .str none, .d .str none, .d (.int .i64) none], .d .str none]⟩
noncomputable def tbl (k : Nat) : Tbl := [(129, spec_l28Make.spec k), (130, spec_l28Carpet.spec k)]
theorem e (k : Nat) (o : Nat → St → Option (Int × Int × List (Int × Int × Int × Int × Int) × Int × ByteArray × ByteArray × Int × ByteArray)) (a0_0 a0_1 : Int) (l0_2 : List (Int × Int × Int × Int × Int)) (a0_3 : Int) (a0_4 a0_5 : ByteArray) (a0_6 : Int) (a1 : ByteArray) (a2 : Int) : T.main tyt (tbl k) o (a0_0, a0_1, l0_2, a0_3, a0_4, a0_5, a0_6, a1, a2) = m k a0_0 a0_1 l0_2 a0_3 a0_4 a0_5 a0_6 a1 a2 := by kernel_rfl
theorem ok : T.ok = true := by kernel_rfl
theorem tblok (k : Nat) : TblOk Tryz.prog (tbl k) := TblOk.cons (spec_l28Make.sound k) (TblOk.cons (spec_l28Carpet.sound k) (TblOk.nil _))
theorem sound (k : Nat) : Sound Tryz.prog 89 (spec k) := by
  have h := fn_ok (F := T) (tbl := tbl) mixed tyok Tryz.func89 (by kernel_rfl) (c0 := bodyOf Tryz.f89) rfl (conv_code _ _ _) rfl rfl ok k (fun j _ => tblok j)
  have e : spec k = ⟨T.ps, T.rs, T.ev tyt tbl k⟩ := congrArg (FnSpec.mk _ _) (funext fun x => ((e k (T.run tyt tbl k) x.1 x.2.1 x.2.2.1 x.2.2.2.1 x.2.2.2.2.1 x.2.2.2.2.2.1 x.2.2.2.2.2.2.1 x.2.2.2.2.2.2.2.1 x.2.2.2.2.2.2.2.2).trans (by rfl)).symm)
  rw [e]
  exact h
end spec_l28One

namespace spec_l28Two
/-! ### spec_l28Two: function 90 -/
def m (k : Nat) (a0_0 a0_1 : Int) (l0_2 : List (Int × Int × Int × Int × Int)) (a0_3 : Int) (a0_4 a0_5 : ByteArray) (a0_6 : Int) (a1 : ByteArray) (a2 a3 : Int) : Option (Int × Int × List (Int × Int × Int × Int × Int) × Int × ByteArray × ByteArray × Int × ByteArray) := (if a1 = (⟨#[119, 97, 114, 112]⟩ : ByteArray) then ((spec_l28Make.f k a0_0 a0_1 l0_2 a0_3 a0_4 a0_5 a0_6 3 a2 a3).bind fun r1 => (some (r1.1, r1.2.1, r1.2.2.1, r1.2.2.2.1, r1.2.2.2.2.1, r1.2.2.2.2.2.1, r1.2.2.2.2.2.2.1, r1.2.2.2.2.2.2.2))) else (if a1 = (⟨#[119, 101, 97, 118, 101]⟩ : ByteArray) then ((spec_l28Make.f k a0_0 a0_1 l0_2 a0_3 a0_4 a0_5 a0_6 4 a2 a3).bind fun r2 => (some (r2.1, r2.2.1, r2.2.2.1, r2.2.2.2.1, r2.2.2.2.2.1, r2.2.2.2.2.2.1, r2.2.2.2.2.2.2.1, r2.2.2.2.2.2.2.2))) else (if a1 = (⟨#[115, 101, 108, 108]⟩ : ByteArray) then ((spec_l28Make.f k a0_0 a0_1 l0_2 a0_3 a0_4 a0_5 a0_6 7 a2 a3).bind fun r3 => (some (r3.1, r3.2.1, r3.2.2.1, r3.2.2.2.1, r3.2.2.2.2.1, r3.2.2.2.2.2.1, r3.2.2.2.2.2.2.1, r3.2.2.2.2.2.2.2))) else (some (a0_0, a0_1, l0_2, a0_3, a0_4, a0_5, a0_6, (⟨#[63]⟩ : ByteArray))))))
def f (k : Nat) (a0_0 a0_1 : Int) (l0_2 : List (Int × Int × Int × Int × Int)) (a0_3 : Int) (a0_4 a0_5 : ByteArray) (a0_6 : Int) (a1 : ByteArray) (a2 a3 : Int) : Option (Int × Int × List (Int × Int × Int × Int × Int) × Int × ByteArray × ByteArray × Int × ByteArray) := m k a0_0 a0_1 l0_2 a0_3 a0_4 a0_5 a0_6 a1 a2 a3
noncomputable def spec (k : Nat) : FnSpec := ⟨[.ag [.d (.int .i64) none, .d (.int .i64) none, .d (.sl (.pair (.int .i64) (.pair (.int .i64) (.pair (.int .i64) (.pair (.int .i64) (.int .i64)))))) none, .d (.int .i64) none, .d .str none, .d .str none, .d (.int .i64) none], .d .str none, .d (.int .i64) none, .d (.int .i64) none], [.ag [.d (.int .i64) none, .d (.int .i64) none, .d (.sl (.pair (.int .i64) (.pair (.int .i64) (.pair (.int .i64) (.pair (.int .i64) (.int .i64)))))) none, .d (.int .i64) none, .d .str none, .d .str none, .d (.int .i64) none], .d .str none], fun x => f k x.1 x.2.1 x.2.2.1 x.2.2.2.1 x.2.2.2.2.1 x.2.2.2.2.2.1 x.2.2.2.2.2.2.1 x.2.2.2.2.2.2.2.1 x.2.2.2.2.2.2.2.2.1 x.2.2.2.2.2.2.2.2.2⟩
noncomputable def T : FnText := ⟨(conv [] (bodyOf Tryz.f90) 0).1, Tryz.f90.results.toList, 39, [], [.ag [.d (.int .i64) none, .d (.int .i64) none, .d (.sl (.pair (.int .i64) (.pair (.int .i64) (.pair (.int .i64) (.pair (.int .i64) (.int .i64)))))) none, .d (.int .i64) none, .d .str none, .d .str none, .d (.int .i64) none], .d .str none, .d (.int .i64) none, .d (.int .i64) none], [.ag [.d (.int .i64) none, .d (.int .i64) none, .d (.sl (.pair (.int .i64) (.pair (.int .i64) (.pair (.int .i64) (.pair (.int .i64) (.int .i64)))))) none, .d (.int .i64) none, .d .str none, .d .str none, .d (.int .i64) none], .d .str none]⟩
noncomputable def tbl (k : Nat) : Tbl := [(129, spec_l28Make.spec k)]
theorem e (k : Nat) (o : Nat → St → Option (Int × Int × List (Int × Int × Int × Int × Int) × Int × ByteArray × ByteArray × Int × ByteArray)) (a0_0 a0_1 : Int) (l0_2 : List (Int × Int × Int × Int × Int)) (a0_3 : Int) (a0_4 a0_5 : ByteArray) (a0_6 : Int) (a1 : ByteArray) (a2 a3 : Int) : T.main tyt (tbl k) o (a0_0, a0_1, l0_2, a0_3, a0_4, a0_5, a0_6, a1, a2, a3) = m k a0_0 a0_1 l0_2 a0_3 a0_4 a0_5 a0_6 a1 a2 a3 := by kernel_rfl
theorem ok : T.ok = true := by kernel_rfl
theorem tblok (k : Nat) : TblOk Tryz.prog (tbl k) := TblOk.cons (spec_l28Make.sound k) (TblOk.nil _)
theorem sound (k : Nat) : Sound Tryz.prog 90 (spec k) := by
  have h := fn_ok (F := T) (tbl := tbl) mixed tyok Tryz.func90 (by kernel_rfl) (c0 := bodyOf Tryz.f90) rfl (conv_code _ _ _) rfl rfl ok k (fun j _ => tblok j)
  have e : spec k = ⟨T.ps, T.rs, T.ev tyt tbl k⟩ := congrArg (FnSpec.mk _ _) (funext fun x => ((e k (T.run tyt tbl k) x.1 x.2.1 x.2.2.1 x.2.2.2.1 x.2.2.2.2.1 x.2.2.2.2.2.1 x.2.2.2.2.2.2.1 x.2.2.2.2.2.2.2.1 x.2.2.2.2.2.2.2.2.1 x.2.2.2.2.2.2.2.2.2).trans (by rfl)).symm)
  rw [e]
  exact h
end spec_l28Two

namespace spec_l28Run
/-! ### spec_l28Run: function 46 -/
def b5 (o5 : ByteArray → Int → Int → (List (Int × Int × Int × Int × Int)) → Int → ByteArray → ByteArray → Int → Int → Int → (List (Int × Int × Int × Int × Int)) → Int → ByteArray → ByteArray → Int → List ByteArray → List Int → Int → Option (Int × Int × List (Int × Int × Int × Int × Int) × Int × ByteArray × ByteArray × Int × ByteArray)) (k : Nat) (x0_5 : ByteArray) (x1_5 x2_5 : Int) (l3_5 : List (Int × Int × Int × Int × Int)) (x4_5 : Int) (x5_5 x6_5 : ByteArray) (x7_5 x8_5 x9_5 : Int) (l10_5 : List (Int × Int × Int × Int × Int)) (x11_5 : Int) (x12_5 x13_5 : ByteArray) (x14_5 : Int) (l15_5 : List ByteArray) (l16_5 : List Int) (x17_5 : Int) : Option (Int × Int × List (Int × Int × Int × Int × Int) × Int × ByteArray × ByteArray × Int × ByteArray) := (if x17_5 < (l15_5.length : Int) then ((chk l15_5.length x17_5).bind fun i2 => ((spec_ParseInt.f k (l15_5.getD i2 ByteArray.empty)).bind fun r3 => (cond (!r3.2) (some (x1_5, x2_5, l3_5, x4_5, x5_5, x6_5, x7_5, (⟨#[63]⟩ : ByteArray))) ((app 17592186044416 l16_5 [r3.1]).bind fun l4 => (o5 x0_5 x1_5 x2_5 l3_5 x4_5 x5_5 x6_5 x7_5 x8_5 x9_5 l10_5 x11_5 x12_5 x13_5 x14_5 l15_5 l4 (w64 (x17_5 + 1))))))) else (if (l16_5.length : Int) = 0 then ((spec_l28Word.f k x1_5 x2_5 l3_5 x4_5 x0_5).bind fun r5 => (some (x1_5, x2_5, l3_5, x4_5, x5_5, x6_5, x7_5, r5))) else (if (l16_5.length : Int) = 1 then ((chk l15_5.length 0).bind fun i6 => ((chk l16_5.length 0).bind fun i7 => ((spec_l28One.f k x1_5 x2_5 l3_5 x4_5 x5_5 x6_5 x7_5 (l15_5.getD i6 ByteArray.empty) (l16_5.getD i7 0)).bind fun r8 => (some (r8.1, r8.2.1, r8.2.2.1, r8.2.2.2.1, r8.2.2.2.2.1, r8.2.2.2.2.2.1, r8.2.2.2.2.2.2.1, r8.2.2.2.2.2.2.2))))) else (if (l16_5.length : Int) = 2 then ((chk l15_5.length 0).bind fun i9 => ((chk l16_5.length 0).bind fun i10 => ((chk l16_5.length 1).bind fun i11 => ((spec_l28Two.f k x1_5 x2_5 l3_5 x4_5 x5_5 x6_5 x7_5 (l15_5.getD i9 ByteArray.empty) (l16_5.getD i10 0) (l16_5.getD i11 0)).bind fun r12 => (some (r12.1, r12.2.1, r12.2.2.1, r12.2.2.2.1, r12.2.2.2.2.1, r12.2.2.2.2.2.1, r12.2.2.2.2.2.2.1, r12.2.2.2.2.2.2.2)))))) else (some (x1_5, x2_5, l3_5, x4_5, x5_5, x6_5, x7_5, (⟨#[63]⟩ : ByteArray)))))))
def l5 : Nat → ByteArray → Int → Int → (List (Int × Int × Int × Int × Int)) → Int → ByteArray → ByteArray → Int → Int → Int → (List (Int × Int × Int × Int × Int)) → Int → ByteArray → ByteArray → Int → List ByteArray → List Int → Int → Option (Int × Int × List (Int × Int × Int × Int × Int) × Int × ByteArray × ByteArray × Int × ByteArray)
  | 0, _, _, _, _, _, _, _, _, _, _, _, _, _, _, _, _, _, _ => none
  | k + 1, x0_5, x1_5, x2_5, l3_5, x4_5, x5_5, x6_5, x7_5, x8_5, x9_5, l10_5, x11_5, x12_5, x13_5, x14_5, l15_5, l16_5, x17_5 => b5 (spec_l28Run.l5 k) k x0_5 x1_5 x2_5 l3_5 x4_5 x5_5 x6_5 x7_5 x8_5 x9_5 l10_5 x11_5 x12_5 x13_5 x14_5 l15_5 l16_5 x17_5
def m (o5 : ByteArray → Int → Int → (List (Int × Int × Int × Int × Int)) → Int → ByteArray → ByteArray → Int → Int → Int → (List (Int × Int × Int × Int × Int)) → Int → ByteArray → ByteArray → Int → List ByteArray → List Int → Int → Option (Int × Int × List (Int × Int × Int × Int × Int) × Int × ByteArray × ByteArray × Int × ByteArray)) (k : Nat) (a0_0 a0_1 : Int) (l0_2 : List (Int × Int × Int × Int × Int)) (a0_3 : Int) (a0_4 a0_5 : ByteArray) (a0_6 : Int) (a1 : ByteArray) : Option (Int × Int × List (Int × Int × Int × Int × Int) × Int × ByteArray × ByteArray × Int × ByteArray) := ((spec_l1Split.f k a1 32).bind fun r1 => (o5 a1 a0_0 a0_1 l0_2 a0_3 a0_4 a0_5 a0_6 0 0 [] 0 ByteArray.empty ByteArray.empty 0 r1 ([] : List (Int)) 1))
def f (k : Nat) (a0_0 a0_1 : Int) (l0_2 : List (Int × Int × Int × Int × Int)) (a0_3 : Int) (a0_4 a0_5 : ByteArray) (a0_6 : Int) (a1 : ByteArray) : Option (Int × Int × List (Int × Int × Int × Int × Int) × Int × ByteArray × ByteArray × Int × ByteArray) := m (spec_l28Run.l5 k) k a0_0 a0_1 l0_2 a0_3 a0_4 a0_5 a0_6 a1
noncomputable def spec (k : Nat) : FnSpec := ⟨[.ag [.d (.int .i64) none, .d (.int .i64) none, .d (.sl (.pair (.int .i64) (.pair (.int .i64) (.pair (.int .i64) (.pair (.int .i64) (.int .i64)))))) none, .d (.int .i64) none, .d .str none, .d .str none, .d (.int .i64) none], .d .str none], [.ag [.d (.int .i64) none, .d (.int .i64) none, .d (.sl (.pair (.int .i64) (.pair (.int .i64) (.pair (.int .i64) (.pair (.int .i64) (.int .i64)))))) none, .d (.int .i64) none, .d .str none, .d .str none, .d (.int .i64) none], .d .str none], fun x => f k x.1 x.2.1 x.2.2.1 x.2.2.2.1 x.2.2.2.2.1 x.2.2.2.2.2.1 x.2.2.2.2.2.2.1 x.2.2.2.2.2.2.2⟩
def S5 (x0_5 : ByteArray) (x1_5 x2_5 : Int) (l3_5 : List (Int × Int × Int × Int × Int)) (x4_5 : Int) (x5_5 x6_5 : ByteArray) (x7_5 x8_5 x9_5 : Int) (l10_5 : List (Int × Int × Int × Int × Int)) (x11_5 : Int) (x12_5 x13_5 : ByteArray) (x14_5 : Int) (l15_5 : List ByteArray) (l16_5 : List Int) (x17_5 : Int) : St := ⟨[(1, .val .str x0_5), (2, .ptr 100 0), (4, .ptr 101 0), (6, .ref 102), (7, .ref 103), (8, .val (.int .i64) x17_5)], [(103, some (.row 3 (.int .i64) l16_5)), (102, some (.row 9 .str l15_5)), (101, some (.box [.val (.int .i64) x8_5, .val (.int .i64) x9_5, .val (.sl (.pair (.int .i64) (.pair (.int .i64) (.pair (.int .i64) (.pair (.int .i64) (.int .i64)))))) l10_5, .val (.int .i64) x11_5, .val .str x12_5, .val .str x13_5, .val (.int .i64) x14_5])), (100, some (.box [.val (.int .i64) x1_5, .val (.int .i64) x2_5, .val (.sl (.pair (.int .i64) (.pair (.int .i64) (.pair (.int .i64) (.pair (.int .i64) (.int .i64)))))) l3_5, .val (.int .i64) x4_5, .val .str x5_5, .val .str x6_5, .val (.int .i64) x7_5]))], 1000⟩
noncomputable def T : FnText := ⟨(conv [] (bodyOf Tryz.f46) 0).1, Tryz.f46.results.toList, 72, [(5, [(1, .rd .str), (2, .bx 100 [.rd (.int .i64), .rd (.int .i64), .rd (.sl (.pair (.int .i64) (.pair (.int .i64) (.pair (.int .i64) (.pair (.int .i64) (.int .i64)))))), .rd (.int .i64), .rd .str, .rd .str, .rd (.int .i64)]), (4, .bx 101 [.rd (.int .i64), .rd (.int .i64), .rd (.sl (.pair (.int .i64) (.pair (.int .i64) (.pair (.int .i64) (.pair (.int .i64) (.int .i64)))))), .rd (.int .i64), .rd .str, .rd .str, .rd (.int .i64)]), (6, .own 9 .str 102), (7, .own 3 (.int .i64) 103), (8, .rd (.int .i64))])], [.ag [.d (.int .i64) none, .d (.int .i64) none, .d (.sl (.pair (.int .i64) (.pair (.int .i64) (.pair (.int .i64) (.pair (.int .i64) (.int .i64)))))) none, .d (.int .i64) none, .d .str none, .d .str none, .d (.int .i64) none], .d .str none], [.ag [.d (.int .i64) none, .d (.int .i64) none, .d (.sl (.pair (.int .i64) (.pair (.int .i64) (.pair (.int .i64) (.pair (.int .i64) (.int .i64)))))) none, .d (.int .i64) none, .d .str none, .d .str none, .d (.int .i64) none], .d .str none]⟩
noncomputable def tbl (k : Nat) : Tbl := [(66, spec_l1Split.spec k), (87, spec_ParseInt.spec k), (88, spec_l28Word.spec k), (89, spec_l28One.spec k), (90, spec_l28Two.spec k)]
theorem e5 (k : Nat) (o : Nat → St → Option (Int × Int × List (Int × Int × Int × Int × Int) × Int × ByteArray × ByteArray × Int × ByteArray)) (x0_5 : ByteArray) (x1_5 x2_5 : Int) (l3_5 : List (Int × Int × Int × Int × Int)) (x4_5 : Int) (x5_5 x6_5 : ByteArray) (x7_5 x8_5 x9_5 : Int) (l10_5 : List (Int × Int × Int × Int × Int)) (x11_5 : Int) (x12_5 x13_5 : ByteArray) (x14_5 : Int) (l15_5 : List ByteArray) (l16_5 : List Int) (x17_5 : Int) : T.step tyt (tbl k) o 5 (S5 x0_5 x1_5 x2_5 l3_5 x4_5 x5_5 x6_5 x7_5 x8_5 x9_5 l10_5 x11_5 x12_5 x13_5 x14_5 l15_5 l16_5 x17_5) = b5 (fun x0_5 x1_5 x2_5 l3_5 x4_5 x5_5 x6_5 x7_5 x8_5 x9_5 l10_5 x11_5 x12_5 x13_5 x14_5 l15_5 l16_5 x17_5 => o 5 (S5 x0_5 x1_5 x2_5 l3_5 x4_5 x5_5 x6_5 x7_5 x8_5 x9_5 l10_5 x11_5 x12_5 x13_5 x14_5 l15_5 l16_5 x17_5)) k x0_5 x1_5 x2_5 l3_5 x4_5 x5_5 x6_5 x7_5 x8_5 x9_5 l10_5 x11_5 x12_5 x13_5 x14_5 l15_5 l16_5 x17_5 := by kernel_rfl
theorem e (k : Nat) (o : Nat → St → Option (Int × Int × List (Int × Int × Int × Int × Int) × Int × ByteArray × ByteArray × Int × ByteArray)) (a0_0 a0_1 : Int) (l0_2 : List (Int × Int × Int × Int × Int)) (a0_3 : Int) (a0_4 a0_5 : ByteArray) (a0_6 : Int) (a1 : ByteArray) : T.main tyt (tbl k) o (a0_0, a0_1, l0_2, a0_3, a0_4, a0_5, a0_6, a1) = m (fun x0_5 x1_5 x2_5 l3_5 x4_5 x5_5 x6_5 x7_5 x8_5 x9_5 l10_5 x11_5 x12_5 x13_5 x14_5 l15_5 l16_5 x17_5 => o 5 (S5 x0_5 x1_5 x2_5 l3_5 x4_5 x5_5 x6_5 x7_5 x8_5 x9_5 l10_5 x11_5 x12_5 x13_5 x14_5 l15_5 l16_5 x17_5)) k a0_0 a0_1 l0_2 a0_3 a0_4 a0_5 a0_6 a1 := by kernel_rfl
theorem ok : T.ok = true := by kernel_rfl
theorem run (k : Nat) : (∀ (x0_5 : ByteArray) (x1_5 x2_5 : Int) (l3_5 : List (Int × Int × Int × Int × Int)) (x4_5 : Int) (x5_5 x6_5 : ByteArray) (x7_5 x8_5 x9_5 : Int) (l10_5 : List (Int × Int × Int × Int × Int)) (x11_5 : Int) (x12_5 x13_5 : ByteArray) (x14_5 : Int) (l15_5 : List ByteArray) (l16_5 : List Int) (x17_5 : Int), T.run tyt tbl k 5 (S5 x0_5 x1_5 x2_5 l3_5 x4_5 x5_5 x6_5 x7_5 x8_5 x9_5 l10_5 x11_5 x12_5 x13_5 x14_5 l15_5 l16_5 x17_5) = spec_l28Run.l5 k x0_5 x1_5 x2_5 l3_5 x4_5 x5_5 x6_5 x7_5 x8_5 x9_5 l10_5 x11_5 x12_5 x13_5 x14_5 l15_5 l16_5 x17_5) := by
  induction k with
  | zero => exact fun x0_5 x1_5 x2_5 l3_5 x4_5 x5_5 x6_5 x7_5 x8_5 x9_5 l10_5 x11_5 x12_5 x13_5 x14_5 l15_5 l16_5 x17_5 => rfl
  | succ k ih =>
    exact fun x0_5 x1_5 x2_5 l3_5 x4_5 x5_5 x6_5 x7_5 x8_5 x9_5 l10_5 x11_5 x12_5 x13_5 x14_5 l15_5 l16_5 x17_5 => by
      have q5 : (fun x0_5 x1_5 x2_5 l3_5 x4_5 x5_5 x6_5 x7_5 x8_5 x9_5 l10_5 x11_5 x12_5 x13_5 x14_5 l15_5 l16_5 x17_5 => T.run tyt tbl k 5 (S5 x0_5 x1_5 x2_5 l3_5 x4_5 x5_5 x6_5 x7_5 x8_5 x9_5 l10_5 x11_5 x12_5 x13_5 x14_5 l15_5 l16_5 x17_5)) = spec_l28Run.l5 k := by funext x0_5 x1_5 x2_5 l3_5 x4_5 x5_5 x6_5 x7_5 x8_5 x9_5 l10_5 x11_5 x12_5 x13_5 x14_5 l15_5 l16_5 x17_5; exact ih x0_5 x1_5 x2_5 l3_5 x4_5 x5_5 x6_5 x7_5 x8_5 x9_5 l10_5 x11_5 x12_5 x13_5 x14_5 l15_5 l16_5 x17_5
      exact (e5 k (T.run tyt tbl k) x0_5 x1_5 x2_5 l3_5 x4_5 x5_5 x6_5 x7_5 x8_5 x9_5 l10_5 x11_5 x12_5 x13_5 x14_5 l15_5 l16_5 x17_5).trans (by rw [q5]; rfl)
theorem tblok (k : Nat) : TblOk Tryz.prog (tbl k) := TblOk.cons (spec_l1Split.sound k) (TblOk.cons (spec_ParseInt.sound k) (TblOk.cons (spec_l28Word.sound k) (TblOk.cons (spec_l28One.sound k) (TblOk.cons (spec_l28Two.sound k) (TblOk.nil _)))))
theorem sound (k : Nat) : Sound Tryz.prog 46 (spec k) := by
  have h := fn_ok (F := T) (tbl := tbl) mixed tyok Tryz.func46 (by kernel_rfl) (c0 := bodyOf Tryz.f46) rfl (conv_code _ _ _) rfl rfl ok k (fun j _ => tblok j)
  have q5 : (fun x0_5 x1_5 x2_5 l3_5 x4_5 x5_5 x6_5 x7_5 x8_5 x9_5 l10_5 x11_5 x12_5 x13_5 x14_5 l15_5 l16_5 x17_5 => T.run tyt tbl k 5 (S5 x0_5 x1_5 x2_5 l3_5 x4_5 x5_5 x6_5 x7_5 x8_5 x9_5 l10_5 x11_5 x12_5 x13_5 x14_5 l15_5 l16_5 x17_5)) = spec_l28Run.l5 k := by funext x0_5 x1_5 x2_5 l3_5 x4_5 x5_5 x6_5 x7_5 x8_5 x9_5 l10_5 x11_5 x12_5 x13_5 x14_5 l15_5 l16_5 x17_5; exact (run k) x0_5 x1_5 x2_5 l3_5 x4_5 x5_5 x6_5 x7_5 x8_5 x9_5 l10_5 x11_5 x12_5 x13_5 x14_5 l15_5 l16_5 x17_5
  have e : spec k = ⟨T.ps, T.rs, T.ev tyt tbl k⟩ := congrArg (FnSpec.mk _ _) (funext fun x => ((e k (T.run tyt tbl k) x.1 x.2.1 x.2.2.1 x.2.2.2.1 x.2.2.2.2.1 x.2.2.2.2.2.1 x.2.2.2.2.2.2.1 x.2.2.2.2.2.2.2).trans (by rw [q5]; rfl)).symm)
  rw [e]
  exact h
end spec_l28Run

namespace spec_AppendRecord
/-! ### spec_AppendRecord: function 47 -/
def m (k : Nat) (a0_0 a0_1 : ByteArray) (a0_2 : Int) (a1_0 a1_1 : ByteArray) : Option (ByteArray × ByteArray × Int × Int) := ((spec_l27Log.f k a0_0 a0_1 a0_2).bind fun r1 => (cond (!r1) (some (a0_0, a0_1, a0_2, 1)) ((spec_l27Good.f k a1_0 a1_1).bind fun r2 => (cond (!r2) (some (a0_0, a0_1, a0_2, 1)) (if a0_2 = 60 then (some (a0_0, a0_1, a0_2, 2)) else ((spec_l27Line.f k a0_2 a1_0 a1_1).bind fun r3 => ((catS a0_1 r3).bind fun s4 => (some (a0_0, s4, (w64 (a0_2 + 1)), 0)))))))))
def f (k : Nat) (a0_0 a0_1 : ByteArray) (a0_2 : Int) (a1_0 a1_1 : ByteArray) : Option (ByteArray × ByteArray × Int × Int) := m k a0_0 a0_1 a0_2 a1_0 a1_1
noncomputable def spec (k : Nat) : FnSpec := ⟨[.ag [.d .str none, .d .str none, .d (.int .i64) none], .ag [.d .str none, .d .str none]], [.ag [.d .str none, .d .str none, .d (.int .i64) none], .d (.int .i64) none], fun x => f k x.1 x.2.1 x.2.2.1 x.2.2.2.1 x.2.2.2.2⟩
noncomputable def T : FnText := ⟨(conv [] (bodyOf Tryz.f47) 0).1, Tryz.f47.results.toList, 32, [], [.ag [.d .str none, .d .str none, .d (.int .i64) none], .ag [.d .str none, .d .str none]], [.ag [.d .str none, .d .str none, .d (.int .i64) none], .d (.int .i64) none]⟩
noncomputable def tbl (k : Nat) : Tbl := [(40, spec_l27Log.spec k), (45, spec_l27Good.spec k), (91, spec_l27Line.spec k)]
theorem e (k : Nat) (o : Nat → St → Option (ByteArray × ByteArray × Int × Int)) (a0_0 a0_1 : ByteArray) (a0_2 : Int) (a1_0 a1_1 : ByteArray) : T.main tyt (tbl k) o (a0_0, a0_1, a0_2, a1_0, a1_1) = m k a0_0 a0_1 a0_2 a1_0 a1_1 := by kernel_rfl
theorem ok : T.ok = true := by kernel_rfl
theorem tblok (k : Nat) : TblOk Tryz.prog (tbl k) := TblOk.cons (spec_l27Log.sound k) (TblOk.cons (spec_l27Good.sound k) (TblOk.cons (spec_l27Line.sound k) (TblOk.nil _)))
theorem sound (k : Nat) : Sound Tryz.prog 47 (spec k) := by
  have h := fn_ok (F := T) (tbl := tbl) mixed tyok Tryz.func47 (by kernel_rfl) (c0 := bodyOf Tryz.f47) rfl (conv_code _ _ _) rfl rfl ok k (fun j _ => tblok j)
  have e : spec k = ⟨T.ps, T.rs, T.ev tyt tbl k⟩ := congrArg (FnSpec.mk _ _) (funext fun x => ((e k (T.run tyt tbl k) x.1 x.2.1 x.2.2.1 x.2.2.2.1 x.2.2.2.2).trans (by rfl)).symm)
  rw [e]
  exact h
end spec_AppendRecord

namespace spec_ExecuteCommand
/-! ### spec_ExecuteCommand: function 14 -/
def b11 (k : Nat) (x0_11 : ByteArray) (x1_11 x2_11 : Int) (l3_11 : List (Int × Int × Int × Int × Int)) (x4_11 : Int) (x5_11 x6_11 : ByteArray) (x7_11 x8_11 x9_11 : Int) (l10_11 : List (Int × Int × Int × Int × Int)) (x11_11 : Int) (x12_11 x13_11 : ByteArray) (x14_11 x15_11 x16_11 : Int) (l17_11 : List (Int × Int × Int × Int × Int)) (x18_11 : Int) (x19_11 x20_11 : ByteArray) (x21_11 : Int) (x22_11 : ByteArray) : Option (Int × Int × List (Int × Int × Int × Int × Int) × Int × ByteArray × ByteArray × Int × ByteArray) := ((spec_AppendRecord.f k x5_11 x6_11 x7_11 x0_11 x22_11).bind fun r6 => (some (x15_11, x16_11, l17_11, x18_11, r6.1, r6.2.1, r6.2.2.1, x22_11)))
def l11 : Nat → ByteArray → Int → Int → (List (Int × Int × Int × Int × Int)) → Int → ByteArray → ByteArray → Int → Int → Int → (List (Int × Int × Int × Int × Int)) → Int → ByteArray → ByteArray → Int → Int → Int → (List (Int × Int × Int × Int × Int)) → Int → ByteArray → ByteArray → Int → ByteArray → Option (Int × Int × List (Int × Int × Int × Int × Int) × Int × ByteArray × ByteArray × Int × ByteArray)
  | 0, _, _, _, _, _, _, _, _, _, _, _, _, _, _, _, _, _, _, _, _, _, _, _ => none
  | k + 1, x0_11, x1_11, x2_11, l3_11, x4_11, x5_11, x6_11, x7_11, x8_11, x9_11, l10_11, x11_11, x12_11, x13_11, x14_11, x15_11, x16_11, l17_11, x18_11, x19_11, x20_11, x21_11, x22_11 => b11 k x0_11 x1_11 x2_11 l3_11 x4_11 x5_11 x6_11 x7_11 x8_11 x9_11 l10_11 x11_11 x12_11 x13_11 x14_11 x15_11 x16_11 l17_11 x18_11 x19_11 x20_11 x21_11 x22_11
def m (o11 : ByteArray → Int → Int → (List (Int × Int × Int × Int × Int)) → Int → ByteArray → ByteArray → Int → Int → Int → (List (Int × Int × Int × Int × Int)) → Int → ByteArray → ByteArray → Int → Int → Int → (List (Int × Int × Int × Int × Int)) → Int → ByteArray → ByteArray → Int → ByteArray → Option (Int × Int × List (Int × Int × Int × Int × Int) × Int × ByteArray × ByteArray × Int × ByteArray)) (k : Nat) (a0_0 a0_1 : Int) (l0_2 : List (Int × Int × Int × Int × Int)) (a0_3 : Int) (a0_4 a0_5 : ByteArray) (a0_6 : Int) (a1 : ByteArray) : Option (Int × Int × List (Int × Int × Int × Int × Int) × Int × ByteArray × ByteArray × Int × ByteArray) := ((spec_l28Own.f k a0_0 a0_1 l0_2 a0_3 a0_4 a0_5 a0_6).bind fun r1 => ((spec_l28Good.f k a0_0 a0_1 l0_2 a0_3 a0_4 a0_5 a0_6).bind fun r2 => (cond (!r2) (some (r1.1, r1.2.1, r1.2.2.1, r1.2.2.2.1, r1.2.2.2.2.1, r1.2.2.2.2.2.1, r1.2.2.2.2.2.2, (⟨#[110, 111]⟩ : ByteArray))) ((spec_l27Good.f k a1 ByteArray.empty).bind fun r3 => (cond (!r3) (some (r1.1, r1.2.1, r1.2.2.1, r1.2.2.2.1, r1.2.2.2.2.1, r1.2.2.2.2.2.1, r1.2.2.2.2.2.2, (⟨#[98, 97, 100]⟩ : ByteArray))) (if a0_6 = 60 then (some (r1.1, r1.2.1, r1.2.2.1, r1.2.2.2.1, r1.2.2.2.2.1, r1.2.2.2.2.2.1, r1.2.2.2.2.2.2, (⟨#[102, 117, 108, 108]⟩ : ByteArray))) else ((spec_l28Run.f k r1.1 r1.2.1 r1.2.2.1 r1.2.2.2.1 r1.2.2.2.2.1 r1.2.2.2.2.2.1 r1.2.2.2.2.2.2 a1).bind fun r4 => ((spec_l28Own.f k r4.1 r4.2.1 r4.2.2.1 r4.2.2.2.1 r4.2.2.2.2.1 r4.2.2.2.2.2.1 r4.2.2.2.2.2.2.1).bind fun r5 => (if 200 < (r4.2.2.2.2.2.2.2.size : Int) then (o11 a1 a0_0 a0_1 l0_2 a0_3 a0_4 a0_5 a0_6 0 0 [] 0 ByteArray.empty ByteArray.empty 0 r5.1 r5.2.1 r5.2.2.1 r5.2.2.2.1 r5.2.2.2.2.1 r5.2.2.2.2.2.1 r5.2.2.2.2.2.2 (⟨#[108, 111, 110, 103]⟩ : ByteArray)) else (o11 a1 a0_0 a0_1 l0_2 a0_3 a0_4 a0_5 a0_6 0 0 [] 0 ByteArray.empty ByteArray.empty 0 r5.1 r5.2.1 r5.2.2.1 r5.2.2.2.1 r5.2.2.2.2.1 r5.2.2.2.2.2.1 r5.2.2.2.2.2.2 r4.2.2.2.2.2.2.2))))))))))
def f (k : Nat) (a0_0 a0_1 : Int) (l0_2 : List (Int × Int × Int × Int × Int)) (a0_3 : Int) (a0_4 a0_5 : ByteArray) (a0_6 : Int) (a1 : ByteArray) : Option (Int × Int × List (Int × Int × Int × Int × Int) × Int × ByteArray × ByteArray × Int × ByteArray) := m (spec_ExecuteCommand.l11 k) k a0_0 a0_1 l0_2 a0_3 a0_4 a0_5 a0_6 a1
noncomputable def spec (k : Nat) : FnSpec := ⟨[.ag [.d (.int .i64) none, .d (.int .i64) none, .d (.sl (.pair (.int .i64) (.pair (.int .i64) (.pair (.int .i64) (.pair (.int .i64) (.int .i64)))))) none, .d (.int .i64) none, .d .str none, .d .str none, .d (.int .i64) none], .d .str none], [.ag [.d (.int .i64) none, .d (.int .i64) none, .d (.sl (.pair (.int .i64) (.pair (.int .i64) (.pair (.int .i64) (.pair (.int .i64) (.int .i64)))))) (some 108), .d (.int .i64) none, .d .str none, .d .str none, .d (.int .i64) none], .d .str none], fun x => f k x.1 x.2.1 x.2.2.1 x.2.2.2.1 x.2.2.2.2.1 x.2.2.2.2.2.1 x.2.2.2.2.2.2.1 x.2.2.2.2.2.2.2⟩
def S11 (x0_11 : ByteArray) (x1_11 x2_11 : Int) (l3_11 : List (Int × Int × Int × Int × Int)) (x4_11 : Int) (x5_11 x6_11 : ByteArray) (x7_11 x8_11 x9_11 : Int) (l10_11 : List (Int × Int × Int × Int × Int)) (x11_11 : Int) (x12_11 x13_11 : ByteArray) (x14_11 x15_11 x16_11 : Int) (l17_11 : List (Int × Int × Int × Int × Int)) (x18_11 : Int) (x19_11 x20_11 : ByteArray) (x21_11 : Int) (x22_11 : ByteArray) : St := ⟨[(1, .val .str x0_11), (2, .ptr 100 0), (4, .ptr 101 0), (6, .ptr 102 0), (8, .val .str x22_11)], [(102, some (.box [.val (.int .i64) x15_11, .val (.int .i64) x16_11, .ref 103, .val (.int .i64) x18_11, .val .str x19_11, .val .str x20_11, .val (.int .i64) x21_11])), (103, some (.row 108 (.pair (.int .i64) (.pair (.int .i64) (.pair (.int .i64) (.pair (.int .i64) (.int .i64))))) l17_11)), (101, some (.box [.val (.int .i64) x8_11, .val (.int .i64) x9_11, .val (.sl (.pair (.int .i64) (.pair (.int .i64) (.pair (.int .i64) (.pair (.int .i64) (.int .i64)))))) l10_11, .val (.int .i64) x11_11, .val .str x12_11, .val .str x13_11, .val (.int .i64) x14_11])), (100, some (.box [.val (.int .i64) x1_11, .val (.int .i64) x2_11, .val (.sl (.pair (.int .i64) (.pair (.int .i64) (.pair (.int .i64) (.pair (.int .i64) (.int .i64)))))) l3_11, .val (.int .i64) x4_11, .val .str x5_11, .val .str x6_11, .val (.int .i64) x7_11]))], 1000⟩
noncomputable def T : FnText := ⟨(conv [11] (bodyOf Tryz.f14) 0).1, Tryz.f14.results.toList, 51, [(11, [(1, .rd .str), (2, .bx 100 [.rd (.int .i64), .rd (.int .i64), .rd (.sl (.pair (.int .i64) (.pair (.int .i64) (.pair (.int .i64) (.pair (.int .i64) (.int .i64)))))), .rd (.int .i64), .rd .str, .rd .str, .rd (.int .i64)]), (4, .bx 101 [.rd (.int .i64), .rd (.int .i64), .rd (.sl (.pair (.int .i64) (.pair (.int .i64) (.pair (.int .i64) (.pair (.int .i64) (.int .i64)))))), .rd (.int .i64), .rd .str, .rd .str, .rd (.int .i64)]), (6, .bx 102 [.rd (.int .i64), .rd (.int .i64), .own 108 (.pair (.int .i64) (.pair (.int .i64) (.pair (.int .i64) (.pair (.int .i64) (.int .i64))))) 103, .rd (.int .i64), .rd .str, .rd .str, .rd (.int .i64)]), (8, .rd .str)])], [.ag [.d (.int .i64) none, .d (.int .i64) none, .d (.sl (.pair (.int .i64) (.pair (.int .i64) (.pair (.int .i64) (.pair (.int .i64) (.int .i64)))))) none, .d (.int .i64) none, .d .str none, .d .str none, .d (.int .i64) none], .d .str none], [.ag [.d (.int .i64) none, .d (.int .i64) none, .d (.sl (.pair (.int .i64) (.pair (.int .i64) (.pair (.int .i64) (.pair (.int .i64) (.int .i64)))))) (some 108), .d (.int .i64) none, .d .str none, .d .str none, .d (.int .i64) none], .d .str none]⟩
noncomputable def tbl (k : Nat) : Tbl := [(43, spec_l28Own.spec k), (44, spec_l28Good.spec k), (45, spec_l27Good.spec k), (46, spec_l28Run.spec k), (47, spec_AppendRecord.spec k)]
theorem e11 (k : Nat) (o : Nat → St → Option (Int × Int × List (Int × Int × Int × Int × Int) × Int × ByteArray × ByteArray × Int × ByteArray)) (x0_11 : ByteArray) (x1_11 x2_11 : Int) (l3_11 : List (Int × Int × Int × Int × Int)) (x4_11 : Int) (x5_11 x6_11 : ByteArray) (x7_11 x8_11 x9_11 : Int) (l10_11 : List (Int × Int × Int × Int × Int)) (x11_11 : Int) (x12_11 x13_11 : ByteArray) (x14_11 x15_11 x16_11 : Int) (l17_11 : List (Int × Int × Int × Int × Int)) (x18_11 : Int) (x19_11 x20_11 : ByteArray) (x21_11 : Int) (x22_11 : ByteArray) : T.step tyt (tbl k) o 11 (S11 x0_11 x1_11 x2_11 l3_11 x4_11 x5_11 x6_11 x7_11 x8_11 x9_11 l10_11 x11_11 x12_11 x13_11 x14_11 x15_11 x16_11 l17_11 x18_11 x19_11 x20_11 x21_11 x22_11) = b11 k x0_11 x1_11 x2_11 l3_11 x4_11 x5_11 x6_11 x7_11 x8_11 x9_11 l10_11 x11_11 x12_11 x13_11 x14_11 x15_11 x16_11 l17_11 x18_11 x19_11 x20_11 x21_11 x22_11 := by kernel_rfl
theorem e (k : Nat) (o : Nat → St → Option (Int × Int × List (Int × Int × Int × Int × Int) × Int × ByteArray × ByteArray × Int × ByteArray)) (a0_0 a0_1 : Int) (l0_2 : List (Int × Int × Int × Int × Int)) (a0_3 : Int) (a0_4 a0_5 : ByteArray) (a0_6 : Int) (a1 : ByteArray) : T.main tyt (tbl k) o (a0_0, a0_1, l0_2, a0_3, a0_4, a0_5, a0_6, a1) = m (fun x0_11 x1_11 x2_11 l3_11 x4_11 x5_11 x6_11 x7_11 x8_11 x9_11 l10_11 x11_11 x12_11 x13_11 x14_11 x15_11 x16_11 l17_11 x18_11 x19_11 x20_11 x21_11 x22_11 => o 11 (S11 x0_11 x1_11 x2_11 l3_11 x4_11 x5_11 x6_11 x7_11 x8_11 x9_11 l10_11 x11_11 x12_11 x13_11 x14_11 x15_11 x16_11 l17_11 x18_11 x19_11 x20_11 x21_11 x22_11)) k a0_0 a0_1 l0_2 a0_3 a0_4 a0_5 a0_6 a1 := by kernel_rfl
theorem ok : T.ok = true := by kernel_rfl
theorem run (k : Nat) : (∀ (x0_11 : ByteArray) (x1_11 x2_11 : Int) (l3_11 : List (Int × Int × Int × Int × Int)) (x4_11 : Int) (x5_11 x6_11 : ByteArray) (x7_11 x8_11 x9_11 : Int) (l10_11 : List (Int × Int × Int × Int × Int)) (x11_11 : Int) (x12_11 x13_11 : ByteArray) (x14_11 x15_11 x16_11 : Int) (l17_11 : List (Int × Int × Int × Int × Int)) (x18_11 : Int) (x19_11 x20_11 : ByteArray) (x21_11 : Int) (x22_11 : ByteArray), T.run tyt tbl k 11 (S11 x0_11 x1_11 x2_11 l3_11 x4_11 x5_11 x6_11 x7_11 x8_11 x9_11 l10_11 x11_11 x12_11 x13_11 x14_11 x15_11 x16_11 l17_11 x18_11 x19_11 x20_11 x21_11 x22_11) = spec_ExecuteCommand.l11 k x0_11 x1_11 x2_11 l3_11 x4_11 x5_11 x6_11 x7_11 x8_11 x9_11 l10_11 x11_11 x12_11 x13_11 x14_11 x15_11 x16_11 l17_11 x18_11 x19_11 x20_11 x21_11 x22_11) := by
  induction k with
  | zero => exact fun x0_11 x1_11 x2_11 l3_11 x4_11 x5_11 x6_11 x7_11 x8_11 x9_11 l10_11 x11_11 x12_11 x13_11 x14_11 x15_11 x16_11 l17_11 x18_11 x19_11 x20_11 x21_11 x22_11 => rfl
  | succ k ih =>
    exact fun x0_11 x1_11 x2_11 l3_11 x4_11 x5_11 x6_11 x7_11 x8_11 x9_11 l10_11 x11_11 x12_11 x13_11 x14_11 x15_11 x16_11 l17_11 x18_11 x19_11 x20_11 x21_11 x22_11 => by
      exact (e11 k (T.run tyt tbl k) x0_11 x1_11 x2_11 l3_11 x4_11 x5_11 x6_11 x7_11 x8_11 x9_11 l10_11 x11_11 x12_11 x13_11 x14_11 x15_11 x16_11 l17_11 x18_11 x19_11 x20_11 x21_11 x22_11).trans (by rfl)
theorem tblok (k : Nat) : TblOk Tryz.prog (tbl k) := TblOk.cons (spec_l28Own.sound k) (TblOk.cons (spec_l28Good.sound k) (TblOk.cons (spec_l27Good.sound k) (TblOk.cons (spec_l28Run.sound k) (TblOk.cons (spec_AppendRecord.sound k) (TblOk.nil _)))))
theorem sound (k : Nat) : Sound Tryz.prog 14 (spec k) := by
  have h := fn_ok (F := T) (tbl := tbl) mixed tyok Tryz.func14 (by kernel_rfl) (c0 := bodyOf Tryz.f14) rfl (conv_code _ _ _) rfl rfl ok k (fun j _ => tblok j)
  have q11 : (fun x0_11 x1_11 x2_11 l3_11 x4_11 x5_11 x6_11 x7_11 x8_11 x9_11 l10_11 x11_11 x12_11 x13_11 x14_11 x15_11 x16_11 l17_11 x18_11 x19_11 x20_11 x21_11 x22_11 => T.run tyt tbl k 11 (S11 x0_11 x1_11 x2_11 l3_11 x4_11 x5_11 x6_11 x7_11 x8_11 x9_11 l10_11 x11_11 x12_11 x13_11 x14_11 x15_11 x16_11 l17_11 x18_11 x19_11 x20_11 x21_11 x22_11)) = spec_ExecuteCommand.l11 k := by funext x0_11 x1_11 x2_11 l3_11 x4_11 x5_11 x6_11 x7_11 x8_11 x9_11 l10_11 x11_11 x12_11 x13_11 x14_11 x15_11 x16_11 l17_11 x18_11 x19_11 x20_11 x21_11 x22_11; exact (run k) x0_11 x1_11 x2_11 l3_11 x4_11 x5_11 x6_11 x7_11 x8_11 x9_11 l10_11 x11_11 x12_11 x13_11 x14_11 x15_11 x16_11 l17_11 x18_11 x19_11 x20_11 x21_11 x22_11
  have e : spec k = ⟨T.ps, T.rs, T.ev tyt tbl k⟩ := congrArg (FnSpec.mk _ _) (funext fun x => ((e k (T.run tyt tbl k) x.1 x.2.1 x.2.2.1 x.2.2.2.1 x.2.2.2.2.1 x.2.2.2.2.2.1 x.2.2.2.2.2.2.1 x.2.2.2.2.2.2.2).trans (by rw [q11]; rfl)).symm)
  rw [e]
  exact h
end spec_ExecuteCommand

namespace impl_in
/-! ### impl_in: function 79 -/
def m (k : Nat) (a0 a1 a2 : Int) : Option (Bool) := (if a1 ≤ a0 then (some (decide (a0 ≤ a2))) else (some false))
def f (k : Nat) (a0 a1 a2 : Int) : Option (Bool) := m k a0 a1 a2
noncomputable def spec (k : Nat) : FnSpec := ⟨[.d (.int .i64) none, .d (.int .i64) none, .d (.int .i64) none], [.d .bool none], fun x => f k x.1 x.2.1 x.2.2⟩
noncomputable def T : FnText := ⟨(conv [] (bodyOf Tryz.f79) 0).1, Tryz.f79.results.toList, 15, [], [.d (.int .i64) none, .d (.int .i64) none, .d (.int .i64) none], [.d .bool none]⟩
noncomputable def tbl (k : Nat) : Tbl := []
theorem e (k : Nat) (o : Nat → St → Option (Bool)) (a0 a1 a2 : Int) : T.main tyt (tbl k) o (a0, a1, a2) = m k a0 a1 a2 := by kernel_rfl
theorem ok : T.ok = true := by kernel_rfl
theorem tblok (k : Nat) : TblOk Tryz.prog (tbl k) := TblOk.nil _
theorem sound (k : Nat) : Sound Tryz.prog 79 (spec k) := by
  have h := fn_ok (F := T) (tbl := tbl) mixed tyok Tryz.func79 (by kernel_rfl) (c0 := bodyOf Tryz.f79) rfl (conv_code _ _ _) rfl rfl ok k (fun j _ => tblok j)
  have e : spec k = ⟨T.ps, T.rs, T.ev tyt tbl k⟩ := congrArg (FnSpec.mk _ _) (funext fun x => ((e k (T.run tyt tbl k) x.1 x.2.1 x.2.2).trans (by rfl)).symm)
  rw [e]
  exact h
end impl_in

namespace impl_isDay
/-! ### impl_isDay: function 112 -/
def m (k : Nat) (a0 : Int) : Option (Bool) := ((impl_in.f k a0 0 4000).bind fun r1 => (some r1))
def f (k : Nat) (a0 : Int) : Option (Bool) := m k a0
noncomputable def spec (k : Nat) : FnSpec := ⟨[.d (.int .i64) none], [.d .bool none], fun x => f k x⟩
noncomputable def T : FnText := ⟨(conv [] (bodyOf Tryz.f112) 0).1, Tryz.f112.results.toList, 5, [], [.d (.int .i64) none], [.d .bool none]⟩
noncomputable def tbl (k : Nat) : Tbl := [(79, impl_in.spec k)]
theorem e (k : Nat) (o : Nat → St → Option (Bool)) (a0 : Int) : T.main tyt (tbl k) o a0 = m k a0 := by kernel_rfl
theorem ok : T.ok = true := by kernel_rfl
theorem tblok (k : Nat) : TblOk Tryz.prog (tbl k) := TblOk.cons (impl_in.sound k) (TblOk.nil _)
theorem sound (k : Nat) : Sound Tryz.prog 112 (spec k) := by
  have h := fn_ok (F := T) (tbl := tbl) mixed tyok Tryz.func112 (by kernel_rfl) (c0 := bodyOf Tryz.f112) rfl (conv_code _ _ _) rfl rfl ok k (fun j _ => tblok j)
  have e : spec k = ⟨T.ps, T.rs, T.ev tyt tbl k⟩ := congrArg (FnSpec.mk _ _) (funext fun x => ((e k (T.run tyt tbl k) x).trans (by rfl)).symm)
  rw [e]
  exact h
end impl_isDay

namespace impl_Shop_isCarpet
/-! ### impl_Shop_isCarpet: function 113 -/
def m (k : Nat) (a0_0 a0_1 : Int) (l0_2 : List (Int × Int × Int × Int × Int)) (a0_3 a1_0 a1_1 a1_2 a1_3 a1_4 : Int) : Option (Bool) := ((impl_in.f k a1_0 1 500).bind fun r1 => (cond (!r1) (some false) ((impl_in.f k a1_1 0 a1_0).bind fun r2 => (cond (!r2) (some false) ((impl_in.f k a1_2 0 4).bind fun r3 => (cond (!r3) (some false) ((impl_in.f k a1_4 0 a0_0).bind fun r4 => (cond (!r4) (some false) (if a1_2 = 0 then (if a1_1 = 0 then (some (decide (a1_3 = 0))) else (some false)) else (if a1_2 = 1 then ((impl_in.f k a1_3 1 a0_1).bind fun r5 => (some r5)) else (if a1_1 = a1_0 then (some (decide (a1_3 = 0))) else (some false))))))))))))
def f (k : Nat) (a0_0 a0_1 : Int) (l0_2 : List (Int × Int × Int × Int × Int)) (a0_3 a1_0 a1_1 a1_2 a1_3 a1_4 : Int) : Option (Bool) := m k a0_0 a0_1 l0_2 a0_3 a1_0 a1_1 a1_2 a1_3 a1_4
noncomputable def spec (k : Nat) : FnSpec := ⟨[.ag [.d (.int .i64) none, .d (.int .i64) none, .d (.sl (.pair (.int .i64) (.pair (.int .i64) (.pair (.int .i64) (.pair (.int .i64) (.int .i64)))))) none, .d (.int .i64) none], .ag [.d (.int .i64) none, .d (.int .i64) none, .d (.int .i64) none, .d (.int .i64) none, .d (.int .i64) none]], [.d .bool none], fun x => f k x.1 x.2.1 x.2.2.1 x.2.2.2.1 x.2.2.2.2.1 x.2.2.2.2.2.1 x.2.2.2.2.2.2.1 x.2.2.2.2.2.2.2.1 x.2.2.2.2.2.2.2.2⟩
noncomputable def T : FnText := ⟨(conv [] (bodyOf Tryz.f113) 0).1, Tryz.f113.results.toList, 60, [], [.ag [.d (.int .i64) none, .d (.int .i64) none, .d (.sl (.pair (.int .i64) (.pair (.int .i64) (.pair (.int .i64) (.pair (.int .i64) (.int .i64)))))) none, .d (.int .i64) none], .ag [.d (.int .i64) none, .d (.int .i64) none, .d (.int .i64) none, .d (.int .i64) none, .d (.int .i64) none]], [.d .bool none]⟩
noncomputable def tbl (k : Nat) : Tbl := [(79, impl_in.spec k)]
theorem e (k : Nat) (o : Nat → St → Option (Bool)) (a0_0 a0_1 : Int) (l0_2 : List (Int × Int × Int × Int × Int)) (a0_3 a1_0 a1_1 a1_2 a1_3 a1_4 : Int) : T.main tyt (tbl k) o (a0_0, a0_1, l0_2, a0_3, a1_0, a1_1, a1_2, a1_3, a1_4) = m k a0_0 a0_1 l0_2 a0_3 a1_0 a1_1 a1_2 a1_3 a1_4 := by kernel_rfl
theorem ok : T.ok = true := by kernel_rfl
theorem tblok (k : Nat) : TblOk Tryz.prog (tbl k) := TblOk.cons (impl_in.sound k) (TblOk.nil _)
theorem sound (k : Nat) : Sound Tryz.prog 113 (spec k) := by
  have h := fn_ok (F := T) (tbl := tbl) mixed tyok Tryz.func113 (by kernel_rfl) (c0 := bodyOf Tryz.f113) rfl (conv_code _ _ _) rfl rfl ok k (fun j _ => tblok j)
  have e : spec k = ⟨T.ps, T.rs, T.ev tyt tbl k⟩ := congrArg (FnSpec.mk _ _) (funext fun x => ((e k (T.run tyt tbl k) x.1 x.2.1 x.2.2.1 x.2.2.2.1 x.2.2.2.2.1 x.2.2.2.2.2.1 x.2.2.2.2.2.2.1 x.2.2.2.2.2.2.2.1 x.2.2.2.2.2.2.2.2).trans (by rfl)).symm)
  rw [e]
  exact h
end impl_Shop_isCarpet

namespace impl_Shop_onLoom_1
/-! ### impl_Shop_onLoom_1: function 152 -/
def m (k : Nat) (a0_0 a0_1 a0_2 a0_3 a0_4 a1_0 : Int) : Option (Bool) := (if a0_2 = 1 then (some (decide (a0_3 = a1_0))) else (some false))
def f (k : Nat) (a0_0 a0_1 a0_2 a0_3 a0_4 a1_0 : Int) : Option (Bool) := m k a0_0 a0_1 a0_2 a0_3 a0_4 a1_0
noncomputable def spec (k : Nat) : FnSpec := ⟨[.ag [.d (.int .i64) none, .d (.int .i64) none, .d (.int .i64) none, .d (.int .i64) none, .d (.int .i64) none], .rb [.d (.int .i64) none]], [.d .bool none], fun x => f k x.1 x.2.1 x.2.2.1 x.2.2.2.1 x.2.2.2.2.1 x.2.2.2.2.2⟩
noncomputable def T : FnText := ⟨(conv [] (bodyOf Tryz.f152) 0).1, Tryz.f152.results.toList, 13, [], [.ag [.d (.int .i64) none, .d (.int .i64) none, .d (.int .i64) none, .d (.int .i64) none, .d (.int .i64) none], .rb [.d (.int .i64) none]], [.d .bool none]⟩
noncomputable def tbl (k : Nat) : Tbl := []
theorem e (k : Nat) (o : Nat → St → Option (Bool)) (a0_0 a0_1 a0_2 a0_3 a0_4 a1_0 : Int) : T.main tyt (tbl k) o (a0_0, a0_1, a0_2, a0_3, a0_4, a1_0) = m k a0_0 a0_1 a0_2 a0_3 a0_4 a1_0 := by kernel_rfl
theorem ok : T.ok = true := by kernel_rfl
theorem tblok (k : Nat) : TblOk Tryz.prog (tbl k) := TblOk.nil _
theorem sound (k : Nat) : Sound Tryz.prog 152 (spec k) := by
  have h := fn_ok (F := T) (tbl := tbl) mixed tyok Tryz.func152 (by kernel_rfl) (c0 := bodyOf Tryz.f152) rfl (conv_code _ _ _) rfl rfl ok k (fun j _ => tblok j)
  have e : spec k = ⟨T.ps, T.rs, T.ev tyt tbl k⟩ := congrArg (FnSpec.mk _ _) (funext fun x => ((e k (T.run tyt tbl k) x.1 x.2.1 x.2.2.1 x.2.2.2.1 x.2.2.2.2.1 x.2.2.2.2.2).trans (by rfl)).symm)
  rw [e]
  exact h
end impl_Shop_onLoom_1

namespace slices_IndexFunc_impl_Carpet_impl_Carpet__impl_Shop_onLoom_1
/-! ### slices_IndexFunc_impl_Carpet_impl_Carpet__impl_Shop_onLoom_1: function 151 -/
def b3 (o3 : (List (Int × Int × Int × Int × Int)) → Int → Int → Int → Option (Int)) (k : Nat) (l0_3 : List (Int × Int × Int × Int × Int)) (x1_3 x2_3 x3_3 : Int) : Option (Int) := (if x3_3 < x2_3 then ((chk l0_3.length x3_3).bind fun i1 => ((impl_Shop_onLoom_1.f k ((l0_3.getD i1 (0, 0, 0, 0, 0)).1) (((l0_3.getD i1 (0, 0, 0, 0, 0)).2).1) ((((l0_3.getD i1 (0, 0, 0, 0, 0)).2).2).1) (((((l0_3.getD i1 (0, 0, 0, 0, 0)).2).2).2).1) (((((l0_3.getD i1 (0, 0, 0, 0, 0)).2).2).2).2) x1_3).bind fun r2 => (cond r2 (some x3_3) (o3 l0_3 x1_3 x2_3 (w64 (x3_3 + 1)))))) else (some (-1)))
def l3 : Nat → (List (Int × Int × Int × Int × Int)) → Int → Int → Int → Option (Int)
  | 0, _, _, _, _ => none
  | k + 1, l0_3, x1_3, x2_3, x3_3 => b3 (slices_IndexFunc_impl_Carpet_impl_Carpet__impl_Shop_onLoom_1.l3 k) k l0_3 x1_3 x2_3 x3_3
def m (o3 : (List (Int × Int × Int × Int × Int)) → Int → Int → Int → Option (Int)) (k : Nat) (l0 : List (Int × Int × Int × Int × Int)) (a1_0_0 : Int) : Option (Int) := (o3 l0 a1_0_0 (l0.length : Int) 0)
def f (k : Nat) (l0 : List (Int × Int × Int × Int × Int)) (a1_0_0 : Int) : Option (Int) := m (slices_IndexFunc_impl_Carpet_impl_Carpet__impl_Shop_onLoom_1.l3 k) k l0 a1_0_0
noncomputable def spec (k : Nat) : FnSpec := ⟨[.d (.sl (.pair (.int .i64) (.pair (.int .i64) (.pair (.int .i64) (.pair (.int .i64) (.int .i64)))))) none, .fv 152 [] [.rb [.d (.int .i64) none]]], [.d (.int .i64) none], fun x => f k x.1 x.2⟩
def S3 (l0_3 : List (Int × Int × Int × Int × Int)) (x1_3 x2_3 x3_3 : Int) : St := ⟨[(0, .val (.sl (.pair (.int .i64) (.pair (.int .i64) (.pair (.int .i64) (.pair (.int .i64) (.int .i64)))))) l0_3), (1, .fn 152 [] [.cptr [.val (.int .i64) x1_3] 0]), (7, .val (.int .i64) x2_3), (8, .val (.int .i64) x3_3)], [], 1000⟩
noncomputable def T : FnText := ⟨(conv [] (bodyOf Tryz.f151) 0).1, Tryz.f151.results.toList, 19, [(3, [(0, .rd (.sl (.pair (.int .i64) (.pair (.int .i64) (.pair (.int .i64) (.pair (.int .i64) (.int .i64))))))), (1, .as), (7, .rd (.int .i64)), (8, .rd (.int .i64))])], [.d (.sl (.pair (.int .i64) (.pair (.int .i64) (.pair (.int .i64) (.pair (.int .i64) (.int .i64)))))) none, .fv 152 [] [.rb [.d (.int .i64) none]]], [.d (.int .i64) none]⟩
noncomputable def tbl (k : Nat) : Tbl := [(152, impl_Shop_onLoom_1.spec k)]
theorem e3 (k : Nat) (o : Nat → St → Option (Int)) (l0_3 : List (Int × Int × Int × Int × Int)) (x1_3 x2_3 x3_3 : Int) : T.step tyt (tbl k) o 3 (S3 l0_3 x1_3 x2_3 x3_3) = b3 (fun l0_3 x1_3 x2_3 x3_3 => o 3 (S3 l0_3 x1_3 x2_3 x3_3)) k l0_3 x1_3 x2_3 x3_3 := by kernel_rfl
theorem e (k : Nat) (o : Nat → St → Option (Int)) (l0 : List (Int × Int × Int × Int × Int)) (a1_0_0 : Int) : T.main tyt (tbl k) o (l0, a1_0_0) = m (fun l0_3 x1_3 x2_3 x3_3 => o 3 (S3 l0_3 x1_3 x2_3 x3_3)) k l0 a1_0_0 := by kernel_rfl
theorem ok : T.ok = true := by kernel_rfl
theorem run (k : Nat) : (∀ (l0_3 : List (Int × Int × Int × Int × Int)) (x1_3 x2_3 x3_3 : Int), T.run tyt tbl k 3 (S3 l0_3 x1_3 x2_3 x3_3) = slices_IndexFunc_impl_Carpet_impl_Carpet__impl_Shop_onLoom_1.l3 k l0_3 x1_3 x2_3 x3_3) := by
  induction k with
  | zero => exact fun l0_3 x1_3 x2_3 x3_3 => rfl
  | succ k ih =>
    exact fun l0_3 x1_3 x2_3 x3_3 => by
      have q3 : (fun l0_3 x1_3 x2_3 x3_3 => T.run tyt tbl k 3 (S3 l0_3 x1_3 x2_3 x3_3)) = slices_IndexFunc_impl_Carpet_impl_Carpet__impl_Shop_onLoom_1.l3 k := by funext l0_3 x1_3 x2_3 x3_3; exact ih l0_3 x1_3 x2_3 x3_3
      exact (e3 k (T.run tyt tbl k) l0_3 x1_3 x2_3 x3_3).trans (by rw [q3]; rfl)
theorem tblok (k : Nat) : TblOk Tryz.prog (tbl k) := TblOk.cons (impl_Shop_onLoom_1.sound k) (TblOk.nil _)
theorem sound (k : Nat) : Sound Tryz.prog 151 (spec k) := by
  have h := fn_ok (F := T) (tbl := tbl) mixed tyok Tryz.func151 (by kernel_rfl) (c0 := bodyOf Tryz.f151) rfl (conv_code _ _ _) rfl rfl ok k (fun j _ => tblok j)
  have q3 : (fun l0_3 x1_3 x2_3 x3_3 => T.run tyt tbl k 3 (S3 l0_3 x1_3 x2_3 x3_3)) = slices_IndexFunc_impl_Carpet_impl_Carpet__impl_Shop_onLoom_1.l3 k := by funext l0_3 x1_3 x2_3 x3_3; exact (run k) l0_3 x1_3 x2_3 x3_3
  have e : spec k = ⟨T.ps, T.rs, T.ev tyt tbl k⟩ := congrArg (FnSpec.mk _ _) (funext fun x => ((e k (T.run tyt tbl k) x.1 x.2).trans (by rw [q3]; rfl)).symm)
  rw [e]
  exact h
end slices_IndexFunc_impl_Carpet_impl_Carpet__impl_Shop_onLoom_1

namespace impl_Shop_onLoom
/-! ### impl_Shop_onLoom: function 114 -/
def m (k : Nat) (a0_0 a0_1 : Int) (l0_2 : List (Int × Int × Int × Int × Int)) (a0_3 a1 : Int) : Option (Int) := ((slices_IndexFunc_impl_Carpet_impl_Carpet__impl_Shop_onLoom_1.f k l0_2 a1).bind fun r1 => (some r1))
def f (k : Nat) (a0_0 a0_1 : Int) (l0_2 : List (Int × Int × Int × Int × Int)) (a0_3 a1 : Int) : Option (Int) := m k a0_0 a0_1 l0_2 a0_3 a1
noncomputable def spec (k : Nat) : FnSpec := ⟨[.ag [.d (.int .i64) none, .d (.int .i64) none, .d (.sl (.pair (.int .i64) (.pair (.int .i64) (.pair (.int .i64) (.pair (.int .i64) (.int .i64)))))) none, .d (.int .i64) none], .d (.int .i64) none], [.d (.int .i64) none], fun x => f k x.1 x.2.1 x.2.2.1 x.2.2.2.1 x.2.2.2.2⟩
noncomputable def T : FnText := ⟨(conv [] (bodyOf Tryz.f114) 0).1, Tryz.f114.results.toList, 9, [], [.ag [.d (.int .i64) none, .d (.int .i64) none, .d (.sl (.pair (.int .i64) (.pair (.int .i64) (.pair (.int .i64) (.pair (.int .i64) (.int .i64)))))) none, .d (.int .i64) none], .d (.int .i64) none], [.d (.int .i64) none]⟩
noncomputable def tbl (k : Nat) : Tbl := [(151, slices_IndexFunc_impl_Carpet_impl_Carpet__impl_Shop_onLoom_1.spec k)]
theorem e (k : Nat) (o : Nat → St → Option (Int)) (a0_0 a0_1 : Int) (l0_2 : List (Int × Int × Int × Int × Int)) (a0_3 a1 : Int) : T.main tyt (tbl k) o (a0_0, a0_1, l0_2, a0_3, a1) = m k a0_0 a0_1 l0_2 a0_3 a1 := by kernel_rfl
theorem ok : T.ok = true := by kernel_rfl
theorem tblok (k : Nat) : TblOk Tryz.prog (tbl k) := TblOk.cons (slices_IndexFunc_impl_Carpet_impl_Carpet__impl_Shop_onLoom_1.sound k) (TblOk.nil _)
theorem sound (k : Nat) : Sound Tryz.prog 114 (spec k) := by
  have h := fn_ok (F := T) (tbl := tbl) mixed tyok Tryz.func114 (by kernel_rfl) (c0 := bodyOf Tryz.f114) rfl (conv_code _ _ _) rfl rfl ok k (fun j _ => tblok j)
  have e : spec k = ⟨T.ps, T.rs, T.ev tyt tbl k⟩ := congrArg (FnSpec.mk _ _) (funext fun x => ((e k (T.run tyt tbl k) x.1 x.2.1 x.2.2.1 x.2.2.2.1 x.2.2.2.2).trans (by rfl)).symm)
  rw [e]
  exact h
end impl_Shop_onLoom

namespace impl_IsShop
/-! ### impl_IsShop: function 63 -/
def b6 (o6 : Int → Int → (List (Int × Int × Int × Int × Int)) → Int → (List (Int × Int × Int × Int × Int)) → Int → Int → Option (Bool)) (k : Nat) (x0_6 x1_6 : Int) (l2_6 : List (Int × Int × Int × Int × Int)) (x3_6 : Int) (l4_6 : List (Int × Int × Int × Int × Int)) (x5_6 x6_6 : Int) : Option (Bool) := (if x6_6 < x5_6 then ((chk l4_6.length x6_6).bind fun i4 => ((impl_Shop_isCarpet.f k x0_6 x1_6 l2_6 x3_6 ((l4_6.getD i4 (0, 0, 0, 0, 0)).1) (((l4_6.getD i4 (0, 0, 0, 0, 0)).2).1) ((((l4_6.getD i4 (0, 0, 0, 0, 0)).2).2).1) (((((l4_6.getD i4 (0, 0, 0, 0, 0)).2).2).2).1) (((((l4_6.getD i4 (0, 0, 0, 0, 0)).2).2).2).2)).bind fun r5 => (cond (!r5) (some false) (if ((((l4_6.getD i4 (0, 0, 0, 0, 0)).2).2).1) = 1 then ((impl_Shop_onLoom.f k x0_6 x1_6 l2_6 x3_6 (((((l4_6.getD i4 (0, 0, 0, 0, 0)).2).2).2).1)).bind fun r6 => (if ¬ r6 = x6_6 then (some false) else (o6 x0_6 x1_6 l2_6 x3_6 l4_6 x5_6 (w64 (x6_6 + 1))))) else (o6 x0_6 x1_6 l2_6 x3_6 l4_6 x5_6 (w64 (x6_6 + 1))))))) else (some true))
def l6 : Nat → Int → Int → (List (Int × Int × Int × Int × Int)) → Int → (List (Int × Int × Int × Int × Int)) → Int → Int → Option (Bool)
  | 0, _, _, _, _, _, _, _ => none
  | k + 1, x0_6, x1_6, l2_6, x3_6, l4_6, x5_6, x6_6 => b6 (impl_IsShop.l6 k) k x0_6 x1_6 l2_6 x3_6 l4_6 x5_6 x6_6
def m (o6 : Int → Int → (List (Int × Int × Int × Int × Int)) → Int → (List (Int × Int × Int × Int × Int)) → Int → Int → Option (Bool)) (k : Nat) (a0_0 a0_1 : Int) (l0_2 : List (Int × Int × Int × Int × Int)) (a0_3 : Int) : Option (Bool) := ((impl_isDay.f k a0_0).bind fun r1 => (cond (!r1) (some false) ((impl_in.f k a0_1 1 4).bind fun r2 => (cond (!r2) (some false) (if 8 < (l0_2.length : Int) then (some false) else ((impl_in.f k a0_3 0 1000000).bind fun r3 => (cond (!r3) (some false) (o6 a0_0 a0_1 l0_2 a0_3 l0_2 (l0_2.length : Int) 0))))))))
def f (k : Nat) (a0_0 a0_1 : Int) (l0_2 : List (Int × Int × Int × Int × Int)) (a0_3 : Int) : Option (Bool) := m (impl_IsShop.l6 k) k a0_0 a0_1 l0_2 a0_3
noncomputable def spec (k : Nat) : FnSpec := ⟨[.ag [.d (.int .i64) none, .d (.int .i64) none, .d (.sl (.pair (.int .i64) (.pair (.int .i64) (.pair (.int .i64) (.pair (.int .i64) (.int .i64)))))) none, .d (.int .i64) none]], [.d .bool none], fun x => f k x.1 x.2.1 x.2.2.1 x.2.2.2⟩
def S6 (x0_6 x1_6 : Int) (l2_6 : List (Int × Int × Int × Int × Int)) (x3_6 : Int) (l4_6 : List (Int × Int × Int × Int × Int)) (x5_6 x6_6 : Int) : St := ⟨[(1, .ptr 100 0), (28, .val (.sl (.pair (.int .i64) (.pair (.int .i64) (.pair (.int .i64) (.pair (.int .i64) (.int .i64)))))) l4_6), (29, .val (.int .i64) x5_6), (30, .val (.int .i64) x6_6)], [(100, some (.box [.val (.int .i64) x0_6, .val (.int .i64) x1_6, .val (.sl (.pair (.int .i64) (.pair (.int .i64) (.pair (.int .i64) (.pair (.int .i64) (.int .i64)))))) l2_6, .val (.int .i64) x3_6]))], 1000⟩
noncomputable def T : FnText := ⟨(conv [] (bodyOf Tryz.f63) 0).1, Tryz.f63.results.toList, 53, [(6, [(1, .bx 100 [.rd (.int .i64), .rd (.int .i64), .rd (.sl (.pair (.int .i64) (.pair (.int .i64) (.pair (.int .i64) (.pair (.int .i64) (.int .i64)))))), .rd (.int .i64)]), (28, .rd (.sl (.pair (.int .i64) (.pair (.int .i64) (.pair (.int .i64) (.pair (.int .i64) (.int .i64))))))), (29, .rd (.int .i64)), (30, .rd (.int .i64))])], [.ag [.d (.int .i64) none, .d (.int .i64) none, .d (.sl (.pair (.int .i64) (.pair (.int .i64) (.pair (.int .i64) (.pair (.int .i64) (.int .i64)))))) none, .d (.int .i64) none]], [.d .bool none]⟩
noncomputable def tbl (k : Nat) : Tbl := [(112, impl_isDay.spec k), (79, impl_in.spec k), (113, impl_Shop_isCarpet.spec k), (114, impl_Shop_onLoom.spec k)]
theorem e6 (k : Nat) (o : Nat → St → Option (Bool)) (x0_6 x1_6 : Int) (l2_6 : List (Int × Int × Int × Int × Int)) (x3_6 : Int) (l4_6 : List (Int × Int × Int × Int × Int)) (x5_6 x6_6 : Int) : T.step tyt (tbl k) o 6 (S6 x0_6 x1_6 l2_6 x3_6 l4_6 x5_6 x6_6) = b6 (fun x0_6 x1_6 l2_6 x3_6 l4_6 x5_6 x6_6 => o 6 (S6 x0_6 x1_6 l2_6 x3_6 l4_6 x5_6 x6_6)) k x0_6 x1_6 l2_6 x3_6 l4_6 x5_6 x6_6 := by kernel_rfl
theorem e (k : Nat) (o : Nat → St → Option (Bool)) (a0_0 a0_1 : Int) (l0_2 : List (Int × Int × Int × Int × Int)) (a0_3 : Int) : T.main tyt (tbl k) o (a0_0, a0_1, l0_2, a0_3) = m (fun x0_6 x1_6 l2_6 x3_6 l4_6 x5_6 x6_6 => o 6 (S6 x0_6 x1_6 l2_6 x3_6 l4_6 x5_6 x6_6)) k a0_0 a0_1 l0_2 a0_3 := by kernel_rfl
theorem ok : T.ok = true := by kernel_rfl
theorem run (k : Nat) : (∀ (x0_6 x1_6 : Int) (l2_6 : List (Int × Int × Int × Int × Int)) (x3_6 : Int) (l4_6 : List (Int × Int × Int × Int × Int)) (x5_6 x6_6 : Int), T.run tyt tbl k 6 (S6 x0_6 x1_6 l2_6 x3_6 l4_6 x5_6 x6_6) = impl_IsShop.l6 k x0_6 x1_6 l2_6 x3_6 l4_6 x5_6 x6_6) := by
  induction k with
  | zero => exact fun x0_6 x1_6 l2_6 x3_6 l4_6 x5_6 x6_6 => rfl
  | succ k ih =>
    exact fun x0_6 x1_6 l2_6 x3_6 l4_6 x5_6 x6_6 => by
      have q6 : (fun x0_6 x1_6 l2_6 x3_6 l4_6 x5_6 x6_6 => T.run tyt tbl k 6 (S6 x0_6 x1_6 l2_6 x3_6 l4_6 x5_6 x6_6)) = impl_IsShop.l6 k := by funext x0_6 x1_6 l2_6 x3_6 l4_6 x5_6 x6_6; exact ih x0_6 x1_6 l2_6 x3_6 l4_6 x5_6 x6_6
      exact (e6 k (T.run tyt tbl k) x0_6 x1_6 l2_6 x3_6 l4_6 x5_6 x6_6).trans (by rw [q6]; rfl)
theorem tblok (k : Nat) : TblOk Tryz.prog (tbl k) := TblOk.cons (impl_isDay.sound k) (TblOk.cons (impl_in.sound k) (TblOk.cons (impl_Shop_isCarpet.sound k) (TblOk.cons (impl_Shop_onLoom.sound k) (TblOk.nil _))))
theorem sound (k : Nat) : Sound Tryz.prog 63 (spec k) := by
  have h := fn_ok (F := T) (tbl := tbl) mixed tyok Tryz.func63 (by kernel_rfl) (c0 := bodyOf Tryz.f63) rfl (conv_code _ _ _) rfl rfl ok k (fun j _ => tblok j)
  have q6 : (fun x0_6 x1_6 l2_6 x3_6 l4_6 x5_6 x6_6 => T.run tyt tbl k 6 (S6 x0_6 x1_6 l2_6 x3_6 l4_6 x5_6 x6_6)) = impl_IsShop.l6 k := by funext x0_6 x1_6 l2_6 x3_6 l4_6 x5_6 x6_6; exact (run k) x0_6 x1_6 l2_6 x3_6 l4_6 x5_6 x6_6
  have e : spec k = ⟨T.ps, T.rs, T.ev tyt tbl k⟩ := congrArg (FnSpec.mk _ _) (funext fun x => ((e k (T.run tyt tbl k) x.1 x.2.1 x.2.2.1 x.2.2.2).trans (by rw [q6]; rfl)).symm)
  rw [e]
  exact h
end impl_IsShop

/-! ### strings_Cut: function 157, by its contract -/
def strings_Cut.f (k : Nat) (a0 : ByteArray) (a1 : ByteArray) : Option (ByteArray × ByteArray × Bool) := cutF a0 a1
noncomputable def strings_Cut.spec (k : Nat) : FnSpec := ⟨[.d .str none, .d .str none], [.d .str none, .d .str none, .d .bool none], fun x => strings_Cut.f k x.1 x.2⟩
theorem strings_Cut.sound (k : Nat) : Sound Go.Proofs.Tryz.prog 157 (strings_Cut.spec k) := strCut_ok

namespace impl_Checksum
/-! ### impl_Checksum: function 167 -/
def b7 (o7 : ByteArray → Int → Int → Int → Option (Int × Bool)) (k : Nat) (x0_7 : ByteArray) (x1_7 x2_7 x3_7 : Int) : Option (Int × Bool) := (if x3_7 < x2_7 then ((chk x0_7.size x3_7).bind fun i1 => ((rem (w64 ((w64 ((w64 (41 * x1_7)) + (w64 ((byteAt x0_7 i1))))) + 1)) 999979).bind fun q2 => (o7 x0_7 q2 x2_7 (w64 (x3_7 + 1))))) else (some (x1_7, true)))
def l7 : Nat → ByteArray → Int → Int → Int → Option (Int × Bool)
  | 0, _, _, _, _ => none
  | k + 1, x0_7, x1_7, x2_7, x3_7 => b7 (impl_Checksum.l7 k) k x0_7 x1_7 x2_7 x3_7
def m (o7 : ByteArray → Int → Int → Int → Option (Int × Bool)) (k : Nat) (a0 : ByteArray) : Option (Int × Bool) := (if 4000 < (a0.size : Int) then (some (0, false)) else (o7 a0 7 (a0.size : Int) 0))
def f (k : Nat) (a0 : ByteArray) : Option (Int × Bool) := m (impl_Checksum.l7 k) k a0
noncomputable def spec (k : Nat) : FnSpec := ⟨[.d .str none], [.d (.int .i64) none, .d .bool none], fun x => f k x⟩
def S7 (x0_7 : ByteArray) (x1_7 x2_7 x3_7 : Int) : St := ⟨[(0, .val .str x0_7), (4, .val (.int .i64) x1_7), (10, .val (.int .i64) x2_7), (11, .val (.int .i64) x3_7)], [], 1000⟩
noncomputable def T : FnText := ⟨(conv [] (bodyOf Tryz.f167) 0).1, Tryz.f167.results.toList, 25, [(7, [(0, .rd .str), (4, .rd (.int .i64)), (10, .rd (.int .i64)), (11, .rd (.int .i64))])], [.d .str none], [.d (.int .i64) none, .d .bool none]⟩
noncomputable def tbl (k : Nat) : Tbl := []
theorem e7 (k : Nat) (o : Nat → St → Option (Int × Bool)) (x0_7 : ByteArray) (x1_7 x2_7 x3_7 : Int) : T.step tyt (tbl k) o 7 (S7 x0_7 x1_7 x2_7 x3_7) = b7 (fun x0_7 x1_7 x2_7 x3_7 => o 7 (S7 x0_7 x1_7 x2_7 x3_7)) k x0_7 x1_7 x2_7 x3_7 := by kernel_rfl
theorem e (k : Nat) (o : Nat → St → Option (Int × Bool)) (a0 : ByteArray) : T.main tyt (tbl k) o a0 = m (fun x0_7 x1_7 x2_7 x3_7 => o 7 (S7 x0_7 x1_7 x2_7 x3_7)) k a0 := by kernel_rfl
theorem ok : T.ok = true := by kernel_rfl
theorem run (k : Nat) : (∀ (x0_7 : ByteArray) (x1_7 x2_7 x3_7 : Int), T.run tyt tbl k 7 (S7 x0_7 x1_7 x2_7 x3_7) = impl_Checksum.l7 k x0_7 x1_7 x2_7 x3_7) := by
  induction k with
  | zero => exact fun x0_7 x1_7 x2_7 x3_7 => rfl
  | succ k ih =>
    exact fun x0_7 x1_7 x2_7 x3_7 => by
      have q7 : (fun x0_7 x1_7 x2_7 x3_7 => T.run tyt tbl k 7 (S7 x0_7 x1_7 x2_7 x3_7)) = impl_Checksum.l7 k := by funext x0_7 x1_7 x2_7 x3_7; exact ih x0_7 x1_7 x2_7 x3_7
      exact (e7 k (T.run tyt tbl k) x0_7 x1_7 x2_7 x3_7).trans (by rw [q7]; rfl)
theorem tblok (k : Nat) : TblOk Tryz.prog (tbl k) := TblOk.nil _
theorem sound (k : Nat) : Sound Tryz.prog 167 (spec k) := by
  have h := fn_ok (F := T) (tbl := tbl) mixed tyok Tryz.func167 (by kernel_rfl) (c0 := bodyOf Tryz.f167) rfl (conv_code _ _ _) rfl rfl ok k (fun j _ => tblok j)
  have q7 : (fun x0_7 x1_7 x2_7 x3_7 => T.run tyt tbl k 7 (S7 x0_7 x1_7 x2_7 x3_7)) = impl_Checksum.l7 k := by funext x0_7 x1_7 x2_7 x3_7; exact (run k) x0_7 x1_7 x2_7 x3_7
  have e : spec k = ⟨T.ps, T.rs, T.ev tyt tbl k⟩ := congrArg (FnSpec.mk _ _) (funext fun x => ((e k (T.run tyt tbl k) x).trans (by rw [q7]; rfl)).symm)
  rw [e]
  exact h
end impl_Checksum

/-! ### strconv_Itoa: function 117, by its contract -/
def strconv_Itoa.f (k : Nat) (a0 : Int) : Option (ByteArray) := itoaF a0
noncomputable def strconv_Itoa.spec (k : Nat) : FnSpec := ⟨[.d (.int .i64) none], [.d .str none], fun x => strconv_Itoa.f k x⟩
theorem strconv_Itoa.sound (k : Nat) : Sound Go.Proofs.Tryz.prog 117 (strconv_Itoa.spec k) := strItoa_ok

namespace impl_decimal
/-! ### impl_decimal: function 71 -/
def m (k : Nat) (a0 : Int) : Option (ByteArray) := ((strconv_Itoa.f k a0).bind fun r1 => (some r1))
def f (k : Nat) (a0 : Int) : Option (ByteArray) := m k a0
noncomputable def spec (k : Nat) : FnSpec := ⟨[.d (.int .i64) none], [.d .str none], fun x => f k x⟩
noncomputable def T : FnText := ⟨(conv [] (bodyOf Tryz.f71) 0).1, Tryz.f71.results.toList, 5, [], [.d (.int .i64) none], [.d .str none]⟩
noncomputable def tbl (k : Nat) : Tbl := [(117, strconv_Itoa.spec k)]
theorem e (k : Nat) (o : Nat → St → Option (ByteArray)) (a0 : Int) : T.main tyt (tbl k) o a0 = m k a0 := by kernel_rfl
theorem ok : T.ok = true := by kernel_rfl
theorem tblok (k : Nat) : TblOk Tryz.prog (tbl k) := TblOk.cons (strconv_Itoa.sound k) (TblOk.nil _)
theorem sound (k : Nat) : Sound Tryz.prog 71 (spec k) := by
  have h := fn_ok (F := T) (tbl := tbl) mixed tyok Tryz.func71 (by kernel_rfl) (c0 := bodyOf Tryz.f71) rfl (conv_code _ _ _) rfl rfl ok k (fun j _ => tblok j)
  have e : spec k = ⟨T.ps, T.rs, T.ev tyt tbl k⟩ := congrArg (FnSpec.mk _ _) (funext fun x => ((e k (T.run tyt tbl k) x).trans (by rfl)).symm)
  rw [e]
  exact h
end impl_decimal

/-! ### strings_Contains: function 95, by its contract -/
def strings_Contains.f (k : Nat) (a0 : ByteArray) (a1 : ByteArray) : Option (Bool) := containsF a0 a1
noncomputable def strings_Contains.spec (k : Nat) : FnSpec := ⟨[.d .str none, .d .str none], [.d .bool none], fun x => strings_Contains.f k x.1 x.2⟩
theorem strings_Contains.sound (k : Nat) : Sound Go.Proofs.Tryz.prog 95 (strings_Contains.spec k) := strContains_ok

namespace impl_AppendChecksum
/-! ### impl_AppendChecksum: function 146 -/
def m (k : Nat) (a0 : ByteArray) : Option (ByteArray × Bool) := ((impl_Checksum.f k a0).bind fun r1 => ((catS a0 (⟨#[35]⟩ : ByteArray)).bind fun s2 => ((impl_decimal.f k r1.1).bind fun r3 => ((catS s2 r3).bind fun s4 => (cond (!r1.2) (some ((⟨#[]⟩ : ByteArray), false)) ((strings_Contains.f k a0 (⟨#[35]⟩ : ByteArray)).bind fun r5 => (cond r5 (some ((⟨#[]⟩ : ByteArray), false)) (if 4000 < (s4.size : Int) then (some ((⟨#[]⟩ : ByteArray), false)) else (some (s4, true))))))))))
def f (k : Nat) (a0 : ByteArray) : Option (ByteArray × Bool) := m k a0
noncomputable def spec (k : Nat) : FnSpec := ⟨[.d .str none], [.d .str none, .d .bool none], fun x => f k x⟩
noncomputable def T : FnText := ⟨(conv [] (bodyOf Tryz.f146) 0).1, Tryz.f146.results.toList, 29, [], [.d .str none], [.d .str none, .d .bool none]⟩
noncomputable def tbl (k : Nat) : Tbl := [(167, impl_Checksum.spec k), (71, impl_decimal.spec k), (95, strings_Contains.spec k)]
theorem e (k : Nat) (o : Nat → St → Option (ByteArray × Bool)) (a0 : ByteArray) : T.main tyt (tbl k) o a0 = m k a0 := by kernel_rfl
theorem ok : T.ok = true := by kernel_rfl
theorem tblok (k : Nat) : TblOk Tryz.prog (tbl k) := TblOk.cons (impl_Checksum.sound k) (TblOk.cons (impl_decimal.sound k) (TblOk.cons (strings_Contains.sound k) (TblOk.nil _)))
theorem sound (k : Nat) : Sound Tryz.prog 146 (spec k) := by
  have h := fn_ok (F := T) (tbl := tbl) mixed tyok Tryz.func146 (by kernel_rfl) (c0 := bodyOf Tryz.f146) rfl (conv_code _ _ _) rfl rfl ok k (fun j _ => tblok j)
  have e : spec k = ⟨T.ps, T.rs, T.ev tyt tbl k⟩ := congrArg (FnSpec.mk _ _) (funext fun x => ((e k (T.run tyt tbl k) x).trans (by rfl)).symm)
  rw [e]
  exact h
end impl_AppendChecksum

namespace impl_VerifyChecksum
/-! ### impl_VerifyChecksum: function 158 -/
def m (k : Nat) (a0 : ByteArray) : Option (ByteArray × Bool) := ((strings_Cut.f k a0 (⟨#[35]⟩ : ByteArray)).bind fun r1 => ((impl_AppendChecksum.f k r1.1).bind fun r2 => (cond (!r2.2) (some ((⟨#[]⟩ : ByteArray), false)) (if ¬ r2.1 = a0 then (some ((⟨#[]⟩ : ByteArray), false)) else (some (r1.1, true))))))
def f (k : Nat) (a0 : ByteArray) : Option (ByteArray × Bool) := m k a0
noncomputable def spec (k : Nat) : FnSpec := ⟨[.d .str none], [.d .str none, .d .bool none], fun x => f k x⟩
noncomputable def T : FnText := ⟨(conv [] (bodyOf Tryz.f158) 0).1, Tryz.f158.results.toList, 28, [], [.d .str none], [.d .str none, .d .bool none]⟩
noncomputable def tbl (k : Nat) : Tbl := [(157, strings_Cut.spec k), (146, impl_AppendChecksum.spec k)]
theorem e (k : Nat) (o : Nat → St → Option (ByteArray × Bool)) (a0 : ByteArray) : T.main tyt (tbl k) o a0 = m k a0 := by kernel_rfl
theorem ok : T.ok = true := by kernel_rfl
theorem tblok (k : Nat) : TblOk Tryz.prog (tbl k) := TblOk.cons (strings_Cut.sound k) (TblOk.cons (impl_AppendChecksum.sound k) (TblOk.nil _))
theorem sound (k : Nat) : Sound Tryz.prog 158 (spec k) := by
  have h := fn_ok (F := T) (tbl := tbl) mixed tyok Tryz.func158 (by kernel_rfl) (c0 := bodyOf Tryz.f158) rfl (conv_code _ _ _) rfl rfl ok k (fun j _ => tblok j)
  have e : spec k = ⟨T.ps, T.rs, T.ev tyt tbl k⟩ := congrArg (FnSpec.mk _ _) (funext fun x => ((e k (T.run tyt tbl k) x).trans (by rfl)).symm)
  rw [e]
  exact h
end impl_VerifyChecksum

namespace impl_isPlain_1
/-! ### impl_isPlain_1: function 135 -/
def m (k : Nat) (a0 : Int) : Option (Bool) := (if 32 ≤ a0 then (if a0 ≤ 126 then (some (decide (¬ a0 = 35))) else (some false)) else (some false))
def f (k : Nat) (a0 : Int) : Option (Bool) := m k a0
noncomputable def spec (k : Nat) : FnSpec := ⟨[.d (.int .u8) none], [.d .bool none], fun x => f k x⟩
noncomputable def T : FnText := ⟨(conv [] (bodyOf Tryz.f135) 0).1, Tryz.f135.results.toList, 13, [], [.d (.int .u8) none], [.d .bool none]⟩
noncomputable def tbl (k : Nat) : Tbl := []
theorem e (k : Nat) (o : Nat → St → Option (Bool)) (a0 : Int) : T.main tyt (tbl k) o a0 = m k a0 := by kernel_rfl
theorem ok : T.ok = true := by kernel_rfl
theorem tblok (k : Nat) : TblOk Tryz.prog (tbl k) := TblOk.nil _
theorem sound (k : Nat) : Sound Tryz.prog 135 (spec k) := by
  have h := fn_ok (F := T) (tbl := tbl) mixed tyok Tryz.func135 (by kernel_rfl) (c0 := bodyOf Tryz.f135) rfl (conv_code _ _ _) rfl rfl ok k (fun j _ => tblok j)
  have e : spec k = ⟨T.ps, T.rs, T.ev tyt tbl k⟩ := congrArg (FnSpec.mk _ _) (funext fun x => ((e k (T.run tyt tbl k) x).trans (by rfl)).symm)
  rw [e]
  exact h
end impl_isPlain_1

namespace impl_areAll_byte_1__impl_isPlain_1
/-! ### impl_areAll_byte_1__impl_isPlain_1: function 163 -/
def m (k : Nat) (a0 : Int) : Option (Bool) := ((impl_isPlain_1.f k a0).bind fun r1 => (some (!r1)))
def f (k : Nat) (a0 : Int) : Option (Bool) := m k a0
noncomputable def spec (k : Nat) : FnSpec := ⟨[.d (.int .u8) none, .rb [.fv 135 [] []]], [.d .bool none], fun x => f k x⟩
noncomputable def T : FnText := ⟨(conv [] (bodyOf Tryz.f163) 0).1, Tryz.f163.results.toList, 8, [], [.d (.int .u8) none, .rb [.fv 135 [] []]], [.d .bool none]⟩
noncomputable def tbl (k : Nat) : Tbl := [(135, impl_isPlain_1.spec k)]
theorem e (k : Nat) (o : Nat → St → Option (Bool)) (a0 : Int) : T.main tyt (tbl k) o a0 = m k a0 := by kernel_rfl
theorem ok : T.ok = true := by kernel_rfl
theorem tblok (k : Nat) : TblOk Tryz.prog (tbl k) := TblOk.cons (impl_isPlain_1.sound k) (TblOk.nil _)
theorem sound (k : Nat) : Sound Tryz.prog 163 (spec k) := by
  have h := fn_ok (F := T) (tbl := tbl) mixed tyok Tryz.func163 (by kernel_rfl) (c0 := bodyOf Tryz.f163) rfl (conv_code _ _ _) rfl rfl ok k (fun j _ => tblok j)
  have e : spec k = ⟨T.ps, T.rs, T.ev tyt tbl k⟩ := congrArg (FnSpec.mk _ _) (funext fun x => ((e k (T.run tyt tbl k) x).trans (by rfl)).symm)
  rw [e]
  exact h
end impl_areAll_byte_1__impl_isPlain_1

namespace slices_IndexFunc_byte_byte__impl_areAll_byte_1__impl_isPlain_1
/-! ### slices_IndexFunc_byte_byte__impl_areAll_byte_1__impl_isPlain_1: function 177 -/
def b3 (o3 : List Int → Int → Int → Option (Int)) (k : Nat) (l0_3 : List Int) (x1_3 x2_3 : Int) : Option (Int) := (if x2_3 < x1_3 then ((chk l0_3.length x2_3).bind fun i1 => ((impl_areAll_byte_1__impl_isPlain_1.f k (l0_3.getD i1 0)).bind fun r2 => (cond r2 (some x2_3) (o3 l0_3 x1_3 (w64 (x2_3 + 1)))))) else (some (-1)))
def l3 : Nat → List Int → Int → Int → Option (Int)
  | 0, _, _, _ => none
  | k + 1, l0_3, x1_3, x2_3 => b3 (slices_IndexFunc_byte_byte__impl_areAll_byte_1__impl_isPlain_1.l3 k) k l0_3 x1_3 x2_3
def m (o3 : List Int → Int → Int → Option (Int)) (k : Nat) (l0 : List Int) : Option (Int) := (o3 l0 (l0.length : Int) 0)
def f (k : Nat) (l0 : List Int) : Option (Int) := m (slices_IndexFunc_byte_byte__impl_areAll_byte_1__impl_isPlain_1.l3 k) k l0
noncomputable def spec (k : Nat) : FnSpec := ⟨[.d (.sl (.int .u8)) none, .fv 163 [] [.rb [.fv 135 [] []]]], [.d (.int .i64) none], fun x => f k x⟩
def S3 (l0_3 : List Int) (x1_3 x2_3 : Int) : St := ⟨[(0, .val (.sl (.int .u8)) l0_3), (1, .fn 163 [] [.cptr [.fn 135 [] []] 0]), (7, .val (.int .i64) x1_3), (8, .val (.int .i64) x2_3)], [], 1000⟩
noncomputable def T : FnText := ⟨(conv [] (bodyOf Tryz.f177) 0).1, Tryz.f177.results.toList, 19, [(3, [(0, .rd (.sl (.int .u8))), (1, .as), (7, .rd (.int .i64)), (8, .rd (.int .i64))])], [.d (.sl (.int .u8)) none, .fv 163 [] [.rb [.fv 135 [] []]]], [.d (.int .i64) none]⟩
noncomputable def tbl (k : Nat) : Tbl := [(163, impl_areAll_byte_1__impl_isPlain_1.spec k)]
theorem e3 (k : Nat) (o : Nat → St → Option (Int)) (l0_3 : List Int) (x1_3 x2_3 : Int) : T.step tyt (tbl k) o 3 (S3 l0_3 x1_3 x2_3) = b3 (fun l0_3 x1_3 x2_3 => o 3 (S3 l0_3 x1_3 x2_3)) k l0_3 x1_3 x2_3 := by kernel_rfl
theorem e (k : Nat) (o : Nat → St → Option (Int)) (l0 : List Int) : T.main tyt (tbl k) o l0 = m (fun l0_3 x1_3 x2_3 => o 3 (S3 l0_3 x1_3 x2_3)) k l0 := by kernel_rfl
theorem ok : T.ok = true := by kernel_rfl
theorem run (k : Nat) : (∀ (l0_3 : List Int) (x1_3 x2_3 : Int), T.run tyt tbl k 3 (S3 l0_3 x1_3 x2_3) = slices_IndexFunc_byte_byte__impl_areAll_byte_1__impl_isPlain_1.l3 k l0_3 x1_3 x2_3) := by
  induction k with
  | zero => exact fun l0_3 x1_3 x2_3 => rfl
  | succ k ih =>
    exact fun l0_3 x1_3 x2_3 => by
      have q3 : (fun l0_3 x1_3 x2_3 => T.run tyt tbl k 3 (S3 l0_3 x1_3 x2_3)) = slices_IndexFunc_byte_byte__impl_areAll_byte_1__impl_isPlain_1.l3 k := by funext l0_3 x1_3 x2_3; exact ih l0_3 x1_3 x2_3
      exact (e3 k (T.run tyt tbl k) l0_3 x1_3 x2_3).trans (by rw [q3]; rfl)
theorem tblok (k : Nat) : TblOk Tryz.prog (tbl k) := TblOk.cons (impl_areAll_byte_1__impl_isPlain_1.sound k) (TblOk.nil _)
theorem sound (k : Nat) : Sound Tryz.prog 177 (spec k) := by
  have h := fn_ok (F := T) (tbl := tbl) mixed tyok Tryz.func177 (by kernel_rfl) (c0 := bodyOf Tryz.f177) rfl (conv_code _ _ _) rfl rfl ok k (fun j _ => tblok j)
  have q3 : (fun l0_3 x1_3 x2_3 => T.run tyt tbl k 3 (S3 l0_3 x1_3 x2_3)) = slices_IndexFunc_byte_byte__impl_areAll_byte_1__impl_isPlain_1.l3 k := by funext l0_3 x1_3 x2_3; exact (run k) l0_3 x1_3 x2_3
  have e : spec k = ⟨T.ps, T.rs, T.ev tyt tbl k⟩ := congrArg (FnSpec.mk _ _) (funext fun x => ((e k (T.run tyt tbl k) x).trans (by rw [q3]; rfl)).symm)
  rw [e]
  exact h
end slices_IndexFunc_byte_byte__impl_areAll_byte_1__impl_isPlain_1

namespace slices_ContainsFunc_byte_byte__impl_areAll_byte_1__impl_isPlain_1
/-! ### slices_ContainsFunc_byte_byte__impl_areAll_byte_1__impl_isPlain_1: function 162 -/
def m (k : Nat) (l0 : List Int) : Option (Bool) := ((slices_IndexFunc_byte_byte__impl_areAll_byte_1__impl_isPlain_1.f k l0).bind fun r1 => (some (decide (0 ≤ r1))))
def f (k : Nat) (l0 : List Int) : Option (Bool) := m k l0
noncomputable def spec (k : Nat) : FnSpec := ⟨[.d (.sl (.int .u8)) none, .fv 163 [] [.rb [.fv 135 [] []]]], [.d .bool none], fun x => f k x⟩
noncomputable def T : FnText := ⟨(conv [] (bodyOf Tryz.f162) 0).1, Tryz.f162.results.toList, 9, [], [.d (.sl (.int .u8)) none, .fv 163 [] [.rb [.fv 135 [] []]]], [.d .bool none]⟩
noncomputable def tbl (k : Nat) : Tbl := [(177, slices_IndexFunc_byte_byte__impl_areAll_byte_1__impl_isPlain_1.spec k)]
theorem e (k : Nat) (o : Nat → St → Option (Bool)) (l0 : List Int) : T.main tyt (tbl k) o l0 = m k l0 := by kernel_rfl
theorem ok : T.ok = true := by kernel_rfl
theorem tblok (k : Nat) : TblOk Tryz.prog (tbl k) := TblOk.cons (slices_IndexFunc_byte_byte__impl_areAll_byte_1__impl_isPlain_1.sound k) (TblOk.nil _)
theorem sound (k : Nat) : Sound Tryz.prog 162 (spec k) := by
  have h := fn_ok (F := T) (tbl := tbl) mixed tyok Tryz.func162 (by kernel_rfl) (c0 := bodyOf Tryz.f162) rfl (conv_code _ _ _) rfl rfl ok k (fun j _ => tblok j)
  have e : spec k = ⟨T.ps, T.rs, T.ev tyt tbl k⟩ := congrArg (FnSpec.mk _ _) (funext fun x => ((e k (T.run tyt tbl k) x).trans (by rfl)).symm)
  rw [e]
  exact h
end slices_ContainsFunc_byte_byte__impl_areAll_byte_1__impl_isPlain_1

namespace impl_areAll_byte__impl_isPlain_1
/-! ### impl_areAll_byte__impl_isPlain_1: function 134 -/
def m (k : Nat) (l0 : List Int) : Option (Bool) := ((slices_ContainsFunc_byte_byte__impl_areAll_byte_1__impl_isPlain_1.f k l0).bind fun r1 => (some (!r1)))
def f (k : Nat) (l0 : List Int) : Option (Bool) := m k l0
noncomputable def spec (k : Nat) : FnSpec := ⟨[.d (.sl (.int .u8)) none, .fv 135 [] []], [.d .bool none], fun x => f k x⟩
noncomputable def T : FnText := ⟨(conv [] (bodyOf Tryz.f134) 0).1, Tryz.f134.results.toList, 9, [], [.d (.sl (.int .u8)) none, .fv 135 [] []], [.d .bool none]⟩
noncomputable def tbl (k : Nat) : Tbl := [(162, slices_ContainsFunc_byte_byte__impl_areAll_byte_1__impl_isPlain_1.spec k)]
theorem e (k : Nat) (o : Nat → St → Option (Bool)) (l0 : List Int) : T.main tyt (tbl k) o l0 = m k l0 := by kernel_rfl
theorem ok : T.ok = true := by kernel_rfl
theorem tblok (k : Nat) : TblOk Tryz.prog (tbl k) := TblOk.cons (slices_ContainsFunc_byte_byte__impl_areAll_byte_1__impl_isPlain_1.sound k) (TblOk.nil _)
theorem sound (k : Nat) : Sound Tryz.prog 134 (spec k) := by
  have h := fn_ok (F := T) (tbl := tbl) mixed tyok Tryz.func134 (by kernel_rfl) (c0 := bodyOf Tryz.f134) rfl (conv_code _ _ _) rfl rfl ok k (fun j _ => tblok j)
  have e : spec k = ⟨T.ps, T.rs, T.ev tyt tbl k⟩ := congrArg (FnSpec.mk _ _) (funext fun x => ((e k (T.run tyt tbl k) x).trans (by rfl)).symm)
  rw [e]
  exact h
end impl_areAll_byte__impl_isPlain_1

namespace impl_isPlain
/-! ### impl_isPlain: function 94 -/
def m (k : Nat) (a0 : ByteArray) : Option (Bool) := ((impl_areAll_byte__impl_isPlain_1.f k (bytesOf a0)).bind fun r1 => (some r1))
def f (k : Nat) (a0 : ByteArray) : Option (Bool) := m k a0
noncomputable def spec (k : Nat) : FnSpec := ⟨[.d .str none], [.d .bool none], fun x => f k x⟩
noncomputable def T : FnText := ⟨(conv [] (bodyOf Tryz.f94) 0).1, Tryz.f94.results.toList, 6, [], [.d .str none], [.d .bool none]⟩
noncomputable def tbl (k : Nat) : Tbl := [(134, impl_areAll_byte__impl_isPlain_1.spec k)]
theorem e (k : Nat) (o : Nat → St → Option (Bool)) (a0 : ByteArray) : T.main tyt (tbl k) o a0 = m k a0 := by kernel_rfl
theorem ok : T.ok = true := by kernel_rfl
theorem tblok (k : Nat) : TblOk Tryz.prog (tbl k) := TblOk.cons (impl_areAll_byte__impl_isPlain_1.sound k) (TblOk.nil _)
theorem sound (k : Nat) : Sound Tryz.prog 94 (spec k) := by
  have h := fn_ok (F := T) (tbl := tbl) mixed tyok Tryz.func94 (by kernel_rfl) (c0 := bodyOf Tryz.f94) rfl (conv_code _ _ _) rfl rfl ok k (fun j _ => tblok j)
  have e : spec k = ⟨T.ps, T.rs, T.ev tyt tbl k⟩ := congrArg (FnSpec.mk _ _) (funext fun x => ((e k (T.run tyt tbl k) x).trans (by rfl)).symm)
  rw [e]
  exact h
end impl_isPlain

namespace impl_IsValidRecord
/-! ### impl_IsValidRecord: function 50 -/
def b1 (k : Nat) (x0_1 x1_1 : ByteArray) (x2_1 : Bool) : Option (Bool) := (cond x2_1 (if (x1_1.size : Int) ≤ 200 then ((impl_isPlain.f k x1_1).bind fun r4 => (some r4)) else (some false)) (some false))
def l1 : Nat → ByteArray → ByteArray → Bool → Option (Bool)
  | 0, _, _, _ => none
  | k + 1, x0_1, x1_1, x2_1 => b1 k x0_1 x1_1 x2_1
def m (o1 : ByteArray → ByteArray → Bool → Option (Bool)) (k : Nat) (a0_0 a0_1 : ByteArray) : Option (Bool) := ((impl_in.f k (a0_0.size : Int) 1 160).bind fun r1 => (cond r1 ((impl_isPlain.f k a0_0).bind fun r2 => (cond r2 ((strings_Contains.f k a0_0 (⟨#[64]⟩ : ByteArray)).bind fun r3 => (o1 a0_0 a0_1 (!r3))) (o1 a0_0 a0_1 false))) (o1 a0_0 a0_1 false)))
def f (k : Nat) (a0_0 a0_1 : ByteArray) : Option (Bool) := m (impl_IsValidRecord.l1 k) k a0_0 a0_1
noncomputable def spec (k : Nat) : FnSpec := ⟨[.ag [.d .str none, .d .str none]], [.d .bool none], fun x => f k x.1 x.2⟩
def S1 (x0_1 x1_1 : ByteArray) (x2_1 : Bool) : St := ⟨[(1, .ptr 100 0), (3, .val .bool x2_1)], [(100, some (.box [.val .str x0_1, .val .str x1_1]))], 1000⟩
noncomputable def T : FnText := ⟨(conv [1] (bodyOf Tryz.f50) 0).1, Tryz.f50.results.toList, 31, [(1, [(1, .bx 100 [.rd .str, .rd .str]), (3, .rd .bool)])], [.ag [.d .str none, .d .str none]], [.d .bool none]⟩
noncomputable def tbl (k : Nat) : Tbl := [(79, impl_in.spec k), (94, impl_isPlain.spec k), (95, strings_Contains.spec k)]
theorem e1 (k : Nat) (o : Nat → St → Option (Bool)) (x0_1 x1_1 : ByteArray) (x2_1 : Bool) : T.step tyt (tbl k) o 1 (S1 x0_1 x1_1 x2_1) = b1 k x0_1 x1_1 x2_1 := by kernel_rfl
theorem e (k : Nat) (o : Nat → St → Option (Bool)) (a0_0 a0_1 : ByteArray) : T.main tyt (tbl k) o (a0_0, a0_1) = m (fun x0_1 x1_1 x2_1 => o 1 (S1 x0_1 x1_1 x2_1)) k a0_0 a0_1 := by kernel_rfl
theorem ok : T.ok = true := by kernel_rfl
theorem run (k : Nat) : (∀ (x0_1 x1_1 : ByteArray) (x2_1 : Bool), T.run tyt tbl k 1 (S1 x0_1 x1_1 x2_1) = impl_IsValidRecord.l1 k x0_1 x1_1 x2_1) := by
  induction k with
  | zero => exact fun x0_1 x1_1 x2_1 => rfl
  | succ k ih =>
    exact fun x0_1 x1_1 x2_1 => by
      exact (e1 k (T.run tyt tbl k) x0_1 x1_1 x2_1).trans (by rfl)
theorem tblok (k : Nat) : TblOk Tryz.prog (tbl k) := TblOk.cons (impl_in.sound k) (TblOk.cons (impl_isPlain.sound k) (TblOk.cons (strings_Contains.sound k) (TblOk.nil _)))
theorem sound (k : Nat) : Sound Tryz.prog 50 (spec k) := by
  have h := fn_ok (F := T) (tbl := tbl) mixed tyok Tryz.func50 (by kernel_rfl) (c0 := bodyOf Tryz.f50) rfl (conv_code _ _ _) rfl rfl ok k (fun j _ => tblok j)
  have q1 : (fun x0_1 x1_1 x2_1 => T.run tyt tbl k 1 (S1 x0_1 x1_1 x2_1)) = impl_IsValidRecord.l1 k := by funext x0_1 x1_1 x2_1; exact (run k) x0_1 x1_1 x2_1
  have e : spec k = ⟨T.ps, T.rs, T.ev tyt tbl k⟩ := congrArg (FnSpec.mk _ _) (funext fun x => ((e k (T.run tyt tbl k) x.1 x.2).trans (by rw [q1]; rfl)).symm)
  rw [e]
  exact h
end impl_IsValidRecord

namespace impl_EncodeRecord
/-! ### impl_EncodeRecord: function 101 -/
def m (k : Nat) (a0 : Int) (a1_0 a1_1 : ByteArray) : Option (ByteArray × Bool) := ((impl_in.f k a0 0 59).bind fun r1 => (cond (!r1) (some ((⟨#[]⟩ : ByteArray), false)) ((impl_IsValidRecord.f k a1_0 a1_1).bind fun r2 => (cond (!r2) (some ((⟨#[]⟩ : ByteArray), false)) ((impl_decimal.f k a0).bind fun r3 => ((catS r3 (⟨#[32]⟩ : ByteArray)).bind fun s4 => ((catS s4 a1_0).bind fun s5 => ((catS s5 (⟨#[64]⟩ : ByteArray)).bind fun s6 => ((catS s6 a1_1).bind fun s7 => ((impl_AppendChecksum.f k s7).bind fun r8 => ((catS r8.1 (⟨#[10]⟩ : ByteArray)).bind fun s9 => (some (s9, true)))))))))))))
def f (k : Nat) (a0 : Int) (a1_0 a1_1 : ByteArray) : Option (ByteArray × Bool) := m k a0 a1_0 a1_1
noncomputable def spec (k : Nat) : FnSpec := ⟨[.d (.int .i64) none, .ag [.d .str none, .d .str none]], [.d .str none, .d .bool none], fun x => f k x.1 x.2.1 x.2.2⟩
noncomputable def T : FnText := ⟨(conv [] (bodyOf Tryz.f101) 0).1, Tryz.f101.results.toList, 32, [], [.d (.int .i64) none, .ag [.d .str none, .d .str none]], [.d .str none, .d .bool none]⟩
noncomputable def tbl (k : Nat) : Tbl := [(79, impl_in.spec k), (50, impl_IsValidRecord.spec k), (71, impl_decimal.spec k), (146, impl_AppendChecksum.spec k)]
theorem e (k : Nat) (o : Nat → St → Option (ByteArray × Bool)) (a0 : Int) (a1_0 a1_1 : ByteArray) : T.main tyt (tbl k) o (a0, a1_0, a1_1) = m k a0 a1_0 a1_1 := by kernel_rfl
theorem ok : T.ok = true := by kernel_rfl
theorem tblok (k : Nat) : TblOk Tryz.prog (tbl k) := TblOk.cons (impl_in.sound k) (TblOk.cons (impl_IsValidRecord.sound k) (TblOk.cons (impl_decimal.sound k) (TblOk.cons (impl_AppendChecksum.sound k) (TblOk.nil _))))
theorem sound (k : Nat) : Sound Tryz.prog 101 (spec k) := by
  have h := fn_ok (F := T) (tbl := tbl) mixed tyok Tryz.func101 (by kernel_rfl) (c0 := bodyOf Tryz.f101) rfl (conv_code _ _ _) rfl rfl ok k (fun j _ => tblok j)
  have e : spec k = ⟨T.ps, T.rs, T.ev tyt tbl k⟩ := congrArg (FnSpec.mk _ _) (funext fun x => ((e k (T.run tyt tbl k) x.1 x.2.1 x.2.2).trans (by rfl)).symm)
  rw [e]
  exact h
end impl_EncodeRecord

namespace internal_stringslite_HasPrefix
/-! ### internal_stringslite_HasPrefix: function 176 -/
def m (k : Nat) (a0 a1 : ByteArray) : Option (Bool) := (if (a1.size : Int) ≤ (a0.size : Int) then ((cutTo a0.size (a1.size : Int)).bind fun m2 => (some (decide ((a0.extract 0 m2) = a1)))) else (some false))
def f (k : Nat) (a0 a1 : ByteArray) : Option (Bool) := m k a0 a1
noncomputable def spec (k : Nat) : FnSpec := ⟨[.d .str none, .d .str none], [.d .bool none], fun x => f k x.1 x.2⟩
noncomputable def T : FnText := ⟨(conv [] (bodyOf Tryz.f176) 0).1, Tryz.f176.results.toList, 18, [], [.d .str none, .d .str none], [.d .bool none]⟩
noncomputable def tbl (k : Nat) : Tbl := []
theorem e (k : Nat) (o : Nat → St → Option (Bool)) (a0 a1 : ByteArray) : T.main tyt (tbl k) o (a0, a1) = m k a0 a1 := by kernel_rfl
theorem ok : T.ok = true := by kernel_rfl
theorem tblok (k : Nat) : TblOk Tryz.prog (tbl k) := TblOk.nil _
theorem sound (k : Nat) : Sound Tryz.prog 176 (spec k) := by
  have h := fn_ok (F := T) (tbl := tbl) mixed tyok Tryz.func176 (by kernel_rfl) (c0 := bodyOf Tryz.f176) rfl (conv_code _ _ _) rfl rfl ok k (fun j _ => tblok j)
  have e : spec k = ⟨T.ps, T.rs, T.ev tyt tbl k⟩ := congrArg (FnSpec.mk _ _) (funext fun x => ((e k (T.run tyt tbl k) x.1 x.2).trans (by rfl)).symm)
  rw [e]
  exact h
end internal_stringslite_HasPrefix

namespace strings_HasPrefix
/-! ### strings_HasPrefix: function 159 -/
def m (k : Nat) (a0 a1 : ByteArray) : Option (Bool) := ((internal_stringslite_HasPrefix.f k a0 a1).bind fun r1 => (some r1))
def f (k : Nat) (a0 a1 : ByteArray) : Option (Bool) := m k a0 a1
noncomputable def spec (k : Nat) : FnSpec := ⟨[.d .str none, .d .str none], [.d .bool none], fun x => f k x.1 x.2⟩
noncomputable def T : FnText := ⟨(conv [] (bodyOf Tryz.f159) 0).1, Tryz.f159.results.toList, 8, [], [.d .str none, .d .str none], [.d .bool none]⟩
noncomputable def tbl (k : Nat) : Tbl := [(176, internal_stringslite_HasPrefix.spec k)]
theorem e (k : Nat) (o : Nat → St → Option (Bool)) (a0 a1 : ByteArray) : T.main tyt (tbl k) o (a0, a1) = m k a0 a1 := by kernel_rfl
theorem ok : T.ok = true := by kernel_rfl
theorem tblok (k : Nat) : TblOk Tryz.prog (tbl k) := TblOk.cons (internal_stringslite_HasPrefix.sound k) (TblOk.nil _)
theorem sound (k : Nat) : Sound Tryz.prog 159 (spec k) := by
  have h := fn_ok (F := T) (tbl := tbl) mixed tyok Tryz.func159 (by kernel_rfl) (c0 := bodyOf Tryz.f159) rfl (conv_code _ _ _) rfl rfl ok k (fun j _ => tblok j)
  have e : spec k = ⟨T.ps, T.rs, T.ev tyt tbl k⟩ := congrArg (FnSpec.mk _ _) (funext fun x => ((e k (T.run tyt tbl k) x.1 x.2).trans (by rfl)).symm)
  rw [e]
  exact h
end strings_HasPrefix

namespace impl_cutRecord
/-! ### impl_cutRecord: function 119 -/
def m (k : Nat) (a0 : ByteArray) (a1 : Int) : Option (ByteArray × ByteArray × Int) := ((strings_Cut.f k a0 (⟨#[10]⟩ : ByteArray)).bind fun r1 => ((impl_VerifyChecksum.f k r1.1).bind fun r2 => ((strings_Cut.f k r2.1 (⟨#[32]⟩ : ByteArray)).bind fun r3 => ((strings_Cut.f k r3.2.1 (⟨#[64]⟩ : ByteArray)).bind fun r4 => ((impl_EncodeRecord.f k a1 r4.1 r4.2.1).bind fun r5 => (cond (!r5.2) (some (ByteArray.empty, ByteArray.empty, 0)) ((strings_HasPrefix.f k a0 r5.1).bind fun r6 => (cond (!r6) (some (ByteArray.empty, ByteArray.empty, 0)) (some (r4.1, r4.2.1, (r5.1.size : Int)))))))))))
def f (k : Nat) (a0 : ByteArray) (a1 : Int) : Option (ByteArray × ByteArray × Int) := m k a0 a1
noncomputable def spec (k : Nat) : FnSpec := ⟨[.d .str none, .d (.int .i64) none], [.ag [.d .str none, .d .str none], .d (.int .i64) none], fun x => f k x.1 x.2⟩
noncomputable def T : FnText := ⟨(conv [] (bodyOf Tryz.f119) 0).1, Tryz.f119.results.toList, 64, [], [.d .str none, .d (.int .i64) none], [.ag [.d .str none, .d .str none], .d (.int .i64) none]⟩
noncomputable def tbl (k : Nat) : Tbl := [(157, strings_Cut.spec k), (158, impl_VerifyChecksum.spec k), (101, impl_EncodeRecord.spec k), (159, strings_HasPrefix.spec k)]
theorem e (k : Nat) (o : Nat → St → Option (ByteArray × ByteArray × Int)) (a0 : ByteArray) (a1 : Int) : T.main tyt (tbl k) o (a0, a1) = m k a0 a1 := by kernel_rfl
theorem ok : T.ok = true := by kernel_rfl
theorem tblok (k : Nat) : TblOk Tryz.prog (tbl k) := TblOk.cons (strings_Cut.sound k) (TblOk.cons (impl_VerifyChecksum.sound k) (TblOk.cons (impl_EncodeRecord.sound k) (TblOk.cons (strings_HasPrefix.sound k) (TblOk.nil _))))
theorem sound (k : Nat) : Sound Tryz.prog 119 (spec k) := by
  have h := fn_ok (F := T) (tbl := tbl) mixed tyok Tryz.func119 (by kernel_rfl) (c0 := bodyOf Tryz.f119) rfl (conv_code _ _ _) rfl rfl ok k (fun j _ => tblok j)
  have e : spec k = ⟨T.ps, T.rs, T.ev tyt tbl k⟩ := congrArg (FnSpec.mk _ _) (funext fun x => ((e k (T.run tyt tbl k) x.1 x.2).trans (by rfl)).symm)
  rw [e]
  exact h
end impl_cutRecord

namespace impl_readLog
/-! ### impl_readLog: function 80 -/
def b3 (o3 : ByteArray → (List (ByteArray × ByteArray)) → List Int → Int → Option (List (ByteArray × ByteArray) × List Int)) (k : Nat) (x0_3 : ByteArray) (l1_3 : List (ByteArray × ByteArray)) (l2_3 : List Int) (x3_3 : Int) : Option (List (ByteArray × ByteArray) × List Int) := (if (l1_3.length : Int) < 60 then ((cut x0_3.size x3_3 (x0_3.size : Int)).bind fun c1 => ((impl_cutRecord.f k (x0_3.extract c1.1 (c1.1 + c1.2)) (l1_3.length : Int)).bind fun r2 => (if r2.2.2 = 0 then (some (l1_3, l2_3)) else ((app 4398046511104 l1_3 [(r2.1, r2.2.1)]).bind fun l3 => ((app 17592186044416 l2_3 [(w64 (x3_3 + r2.2.2))]).bind fun l4 => (o3 x0_3 l3 l4 (w64 (x3_3 + r2.2.2)))))))) else (some (l1_3, l2_3)))
def l3 : Nat → ByteArray → (List (ByteArray × ByteArray)) → List Int → Int → Option (List (ByteArray × ByteArray) × List Int)
  | 0, _, _, _, _ => none
  | k + 1, x0_3, l1_3, l2_3, x3_3 => b3 (impl_readLog.l3 k) k x0_3 l1_3 l2_3 x3_3
def m (o3 : ByteArray → (List (ByteArray × ByteArray)) → List Int → Int → Option (List (ByteArray × ByteArray) × List Int)) (k : Nat) (a0 : ByteArray) : Option (List (ByteArray × ByteArray) × List Int) := (o3 a0 [] [] 0)
def f (k : Nat) (a0 : ByteArray) : Option (List (ByteArray × ByteArray) × List Int) := m (impl_readLog.l3 k) k a0
noncomputable def spec (k : Nat) : FnSpec := ⟨[.d .str none], [.d (.sl (.pair .str .str)) (some 55), .d (.sl (.int .i64)) (some 3)], fun x => f k x⟩
def S3 (x0_3 : ByteArray) (l1_3 : List (ByteArray × ByteArray)) (l2_3 : List Int) (x3_3 : Int) : St := ⟨[(0, .val .str x0_3), (2, .ref 100), (3, .ref 101), (4, .val (.int .i64) x3_3)], [(101, some (.row 3 (.int .i64) l2_3)), (100, some (.row 55 (.pair .str .str) l1_3))], 1000⟩
noncomputable def T : FnText := ⟨(conv [] (bodyOf Tryz.f80) 0).1, Tryz.f80.results.toList, 34, [(3, [(0, .rd .str), (2, .own 55 (.pair .str .str) 100), (3, .own 3 (.int .i64) 101), (4, .rd (.int .i64))])], [.d .str none], [.d (.sl (.pair .str .str)) (some 55), .d (.sl (.int .i64)) (some 3)]⟩
noncomputable def tbl (k : Nat) : Tbl := [(119, impl_cutRecord.spec k)]
theorem e3 (k : Nat) (o : Nat → St → Option (List (ByteArray × ByteArray) × List Int)) (x0_3 : ByteArray) (l1_3 : List (ByteArray × ByteArray)) (l2_3 : List Int) (x3_3 : Int) : T.step tyt (tbl k) o 3 (S3 x0_3 l1_3 l2_3 x3_3) = b3 (fun x0_3 l1_3 l2_3 x3_3 => o 3 (S3 x0_3 l1_3 l2_3 x3_3)) k x0_3 l1_3 l2_3 x3_3 := by kernel_rfl
theorem e (k : Nat) (o : Nat → St → Option (List (ByteArray × ByteArray) × List Int)) (a0 : ByteArray) : T.main tyt (tbl k) o a0 = m (fun x0_3 l1_3 l2_3 x3_3 => o 3 (S3 x0_3 l1_3 l2_3 x3_3)) k a0 := by kernel_rfl
theorem ok : T.ok = true := by kernel_rfl
theorem run (k : Nat) : (∀ (x0_3 : ByteArray) (l1_3 : List (ByteArray × ByteArray)) (l2_3 : List Int) (x3_3 : Int), T.run tyt tbl k 3 (S3 x0_3 l1_3 l2_3 x3_3) = impl_readLog.l3 k x0_3 l1_3 l2_3 x3_3) := by
  induction k with
  | zero => exact fun x0_3 l1_3 l2_3 x3_3 => rfl
  | succ k ih =>
    exact fun x0_3 l1_3 l2_3 x3_3 => by
      have q3 : (fun x0_3 l1_3 l2_3 x3_3 => T.run tyt tbl k 3 (S3 x0_3 l1_3 l2_3 x3_3)) = impl_readLog.l3 k := by funext x0_3 l1_3 l2_3 x3_3; exact ih x0_3 l1_3 l2_3 x3_3
      exact (e3 k (T.run tyt tbl k) x0_3 l1_3 l2_3 x3_3).trans (by rw [q3]; rfl)
theorem tblok (k : Nat) : TblOk Tryz.prog (tbl k) := TblOk.cons (impl_cutRecord.sound k) (TblOk.nil _)
theorem sound (k : Nat) : Sound Tryz.prog 80 (spec k) := by
  have h := fn_ok (F := T) (tbl := tbl) mixed tyok Tryz.func80 (by kernel_rfl) (c0 := bodyOf Tryz.f80) rfl (conv_code _ _ _) rfl rfl ok k (fun j _ => tblok j)
  have q3 : (fun x0_3 l1_3 l2_3 x3_3 => T.run tyt tbl k 3 (S3 x0_3 l1_3 l2_3 x3_3)) = impl_readLog.l3 k := by funext x0_3 l1_3 l2_3 x3_3; exact (run k) x0_3 l1_3 l2_3 x3_3
  have e : spec k = ⟨T.ps, T.rs, T.ev tyt tbl k⟩ := congrArg (FnSpec.mk _ _) (funext fun x => ((e k (T.run tyt tbl k) x).trans (by rw [q3]; rfl)).symm)
  rw [e]
  exact h
end impl_readLog

namespace impl_Log_records
/-! ### impl_Log_records: function 65 -/
def b8 (o8 : ByteArray → ByteArray → Int → (List (ByteArray × ByteArray)) → Int → Bool → List Int → Int → Int → Option (List (ByteArray × ByteArray) × Bool)) (k : Nat) (x0_8 x1_8 : ByteArray) (x2_8 : Int) (l3_8 : List (ByteArray × ByteArray)) (x4_8 : Int) (x5_8 : Bool) (l6_8 : List Int) (x7_8 x8_8 : Int) : Option (List (ByteArray × ByteArray) × Bool) := (if x8_8 < x7_8 then ((chk l6_8.length x8_8).bind fun i3 => (cond x5_8 (o8 x0_8 x1_8 x2_8 l3_8 (l6_8.getD i3 0) true l6_8 x7_8 (w64 (x8_8 + 1))) (o8 x0_8 x1_8 x2_8 l3_8 (l6_8.getD i3 0) (decide ((l6_8.getD i3 0) = (x0_8.size : Int))) l6_8 x7_8 (w64 (x8_8 + 1))))) else (cond x5_8 (if x4_8 = (w64 ((x0_8.size : Int) + (x1_8.size : Int))) then (some (l3_8, (decide (x2_8 = (l3_8.length : Int))))) else (some (l3_8, false))) (some (l3_8, false))))
def l8 : Nat → ByteArray → ByteArray → Int → (List (ByteArray × ByteArray)) → Int → Bool → List Int → Int → Int → Option (List (ByteArray × ByteArray) × Bool)
  | 0, _, _, _, _, _, _, _, _, _ => none
  | k + 1, x0_8, x1_8, x2_8, l3_8, x4_8, x5_8, l6_8, x7_8, x8_8 => b8 (impl_Log_records.l8 k) k x0_8 x1_8 x2_8 l3_8 x4_8 x5_8 l6_8 x7_8 x8_8
def m (o8 : ByteArray → ByteArray → Int → (List (ByteArray × ByteArray)) → Int → Bool → List Int → Int → Int → Option (List (ByteArray × ByteArray) × Bool)) (k : Nat) (a0_0 a0_1 : ByteArray) (a0_2 : Int) : Option (List (ByteArray × ByteArray) × Bool) := (if 30000 < (w64 ((a0_0.size : Int) + (a0_1.size : Int))) then (some ([], false)) else ((catS a0_0 a0_1).bind fun s1 => ((impl_readLog.f k s1).bind fun r2 => (o8 a0_0 a0_1 a0_2 r2.1 0 (decide (a0_0 = (⟨#[]⟩ : ByteArray))) r2.2 (r2.2.length : Int) 0))))
def f (k : Nat) (a0_0 a0_1 : ByteArray) (a0_2 : Int) : Option (List (ByteArray × ByteArray) × Bool) := m (impl_Log_records.l8 k) k a0_0 a0_1 a0_2
noncomputable def spec (k : Nat) : FnSpec := ⟨[.ag [.d .str none, .d .str none, .d (.int .i64) none]], [.d (.sl (.pair .str .str)) (some 55), .d .bool none], fun x => f k x.1 x.2.1 x.2.2⟩
def S8 (x0_8 x1_8 : ByteArray) (x2_8 : Int) (l3_8 : List (ByteArray × ByteArray)) (x4_8 : Int) (x5_8 : Bool) (l6_8 : List Int) (x7_8 x8_8 : Int) : St := ⟨[(1, .ptr 100 0), (4, .ref 101), (6, .val (.int .i64) x4_8), (7, .val .bool x5_8), (30, .ref 102), (31, .val (.int .i64) x7_8), (32, .val (.int .i64) x8_8)], [(102, some (.row 3 (.int .i64) l6_8)), (101, some (.row 55 (.pair .str .str) l3_8)), (100, some (.box [.val .str x0_8, .val .str x1_8, .val (.int .i64) x2_8]))], 1000⟩
noncomputable def T : FnText := ⟨(conv [] (bodyOf Tryz.f65) 0).1, Tryz.f65.results.toList, 66, [(8, [(1, .bx 100 [.rd .str, .rd .str, .rd (.int .i64)]), (4, .own 55 (.pair .str .str) 101), (6, .rd (.int .i64)), (7, .rd .bool), (30, .own 3 (.int .i64) 102), (31, .rd (.int .i64)), (32, .rd (.int .i64))])], [.ag [.d .str none, .d .str none, .d (.int .i64) none]], [.d (.sl (.pair .str .str)) (some 55), .d .bool none]⟩
noncomputable def tbl (k : Nat) : Tbl := [(80, impl_readLog.spec k)]
theorem e8 (k : Nat) (o : Nat → St → Option (List (ByteArray × ByteArray) × Bool)) (x0_8 x1_8 : ByteArray) (x2_8 : Int) (l3_8 : List (ByteArray × ByteArray)) (x4_8 : Int) (x5_8 : Bool) (l6_8 : List Int) (x7_8 x8_8 : Int) : T.step tyt (tbl k) o 8 (S8 x0_8 x1_8 x2_8 l3_8 x4_8 x5_8 l6_8 x7_8 x8_8) = b8 (fun x0_8 x1_8 x2_8 l3_8 x4_8 x5_8 l6_8 x7_8 x8_8 => o 8 (S8 x0_8 x1_8 x2_8 l3_8 x4_8 x5_8 l6_8 x7_8 x8_8)) k x0_8 x1_8 x2_8 l3_8 x4_8 x5_8 l6_8 x7_8 x8_8 := by kernel_rfl
theorem e (k : Nat) (o : Nat → St → Option (List (ByteArray × ByteArray) × Bool)) (a0_0 a0_1 : ByteArray) (a0_2 : Int) : T.main tyt (tbl k) o (a0_0, a0_1, a0_2) = m (fun x0_8 x1_8 x2_8 l3_8 x4_8 x5_8 l6_8 x7_8 x8_8 => o 8 (S8 x0_8 x1_8 x2_8 l3_8 x4_8 x5_8 l6_8 x7_8 x8_8)) k a0_0 a0_1 a0_2 := by kernel_rfl
theorem ok : T.ok = true := by kernel_rfl
theorem run (k : Nat) : (∀ (x0_8 x1_8 : ByteArray) (x2_8 : Int) (l3_8 : List (ByteArray × ByteArray)) (x4_8 : Int) (x5_8 : Bool) (l6_8 : List Int) (x7_8 x8_8 : Int), T.run tyt tbl k 8 (S8 x0_8 x1_8 x2_8 l3_8 x4_8 x5_8 l6_8 x7_8 x8_8) = impl_Log_records.l8 k x0_8 x1_8 x2_8 l3_8 x4_8 x5_8 l6_8 x7_8 x8_8) := by
  induction k with
  | zero => exact fun x0_8 x1_8 x2_8 l3_8 x4_8 x5_8 l6_8 x7_8 x8_8 => rfl
  | succ k ih =>
    exact fun x0_8 x1_8 x2_8 l3_8 x4_8 x5_8 l6_8 x7_8 x8_8 => by
      have q8 : (fun x0_8 x1_8 x2_8 l3_8 x4_8 x5_8 l6_8 x7_8 x8_8 => T.run tyt tbl k 8 (S8 x0_8 x1_8 x2_8 l3_8 x4_8 x5_8 l6_8 x7_8 x8_8)) = impl_Log_records.l8 k := by funext x0_8 x1_8 x2_8 l3_8 x4_8 x5_8 l6_8 x7_8 x8_8; exact ih x0_8 x1_8 x2_8 l3_8 x4_8 x5_8 l6_8 x7_8 x8_8
      exact (e8 k (T.run tyt tbl k) x0_8 x1_8 x2_8 l3_8 x4_8 x5_8 l6_8 x7_8 x8_8).trans (by rw [q8]; rfl)
theorem tblok (k : Nat) : TblOk Tryz.prog (tbl k) := TblOk.cons (impl_readLog.sound k) (TblOk.nil _)
theorem sound (k : Nat) : Sound Tryz.prog 65 (spec k) := by
  have h := fn_ok (F := T) (tbl := tbl) mixed tyok Tryz.func65 (by kernel_rfl) (c0 := bodyOf Tryz.f65) rfl (conv_code _ _ _) rfl rfl ok k (fun j _ => tblok j)
  have q8 : (fun x0_8 x1_8 x2_8 l3_8 x4_8 x5_8 l6_8 x7_8 x8_8 => T.run tyt tbl k 8 (S8 x0_8 x1_8 x2_8 l3_8 x4_8 x5_8 l6_8 x7_8 x8_8)) = impl_Log_records.l8 k := by funext x0_8 x1_8 x2_8 l3_8 x4_8 x5_8 l6_8 x7_8 x8_8; exact (run k) x0_8 x1_8 x2_8 l3_8 x4_8 x5_8 l6_8 x7_8 x8_8
  have e : spec k = ⟨T.ps, T.rs, T.ev tyt tbl k⟩ := congrArg (FnSpec.mk _ _) (funext fun x => ((e k (T.run tyt tbl k) x.1 x.2.1 x.2.2).trans (by rw [q8]; rfl)).symm)
  rw [e]
  exact h
end impl_Log_records

namespace impl_IsValidLog
/-! ### impl_IsValidLog: function 64 -/
def m (k : Nat) (a0_0 a0_1 : ByteArray) (a0_2 : Int) : Option (Bool) := ((impl_Log_records.f k a0_0 a0_1 a0_2).bind fun r1 => (some r1.2))
def f (k : Nat) (a0_0 a0_1 : ByteArray) (a0_2 : Int) : Option (Bool) := m k a0_0 a0_1 a0_2
noncomputable def spec (k : Nat) : FnSpec := ⟨[.ag [.d .str none, .d .str none, .d (.int .i64) none]], [.d .bool none], fun x => f k x.1 x.2.1 x.2.2⟩
noncomputable def T : FnText := ⟨(conv [] (bodyOf Tryz.f64) 0).1, Tryz.f64.results.toList, 11, [], [.ag [.d .str none, .d .str none, .d (.int .i64) none]], [.d .bool none]⟩
noncomputable def tbl (k : Nat) : Tbl := [(65, impl_Log_records.spec k)]
theorem e (k : Nat) (o : Nat → St → Option (Bool)) (a0_0 a0_1 : ByteArray) (a0_2 : Int) : T.main tyt (tbl k) o (a0_0, a0_1, a0_2) = m k a0_0 a0_1 a0_2 := by kernel_rfl
theorem ok : T.ok = true := by kernel_rfl
theorem tblok (k : Nat) : TblOk Tryz.prog (tbl k) := TblOk.cons (impl_Log_records.sound k) (TblOk.nil _)
theorem sound (k : Nat) : Sound Tryz.prog 64 (spec k) := by
  have h := fn_ok (F := T) (tbl := tbl) mixed tyok Tryz.func64 (by kernel_rfl) (c0 := bodyOf Tryz.f64) rfl (conv_code _ _ _) rfl rfl ok k (fun j _ => tblok j)
  have e : spec k = ⟨T.ps, T.rs, T.ev tyt tbl k⟩ := congrArg (FnSpec.mk _ _) (funext fun x => ((e k (T.run tyt tbl k) x.1 x.2.1 x.2.2).trans (by rfl)).symm)
  rw [e]
  exact h
end impl_IsValidLog

namespace impl_IsValidConsole
/-! ### impl_IsValidConsole: function 23 -/
def m (k : Nat) (a0_0 a0_1 : Int) (l0_2 : List (Int × Int × Int × Int × Int)) (a0_3 : Int) (a0_4 a0_5 : ByteArray) (a0_6 : Int) : Option (Bool) := ((impl_IsShop.f k a0_0 a0_1 l0_2 a0_3).bind fun r1 => (cond r1 ((impl_IsValidLog.f k a0_4 a0_5 a0_6).bind fun r2 => (some r2)) (some false)))
def f (k : Nat) (a0_0 a0_1 : Int) (l0_2 : List (Int × Int × Int × Int × Int)) (a0_3 : Int) (a0_4 a0_5 : ByteArray) (a0_6 : Int) : Option (Bool) := m k a0_0 a0_1 l0_2 a0_3 a0_4 a0_5 a0_6
noncomputable def spec (k : Nat) : FnSpec := ⟨[.ag [.d (.int .i64) none, .d (.int .i64) none, .d (.sl (.pair (.int .i64) (.pair (.int .i64) (.pair (.int .i64) (.pair (.int .i64) (.int .i64)))))) none, .d (.int .i64) none, .d .str none, .d .str none, .d (.int .i64) none]], [.d .bool none], fun x => f k x.1 x.2.1 x.2.2.1 x.2.2.2.1 x.2.2.2.2.1 x.2.2.2.2.2.1 x.2.2.2.2.2.2⟩
noncomputable def T : FnText := ⟨(conv [] (bodyOf Tryz.f23) 0).1, Tryz.f23.results.toList, 11, [], [.ag [.d (.int .i64) none, .d (.int .i64) none, .d (.sl (.pair (.int .i64) (.pair (.int .i64) (.pair (.int .i64) (.pair (.int .i64) (.int .i64)))))) none, .d (.int .i64) none, .d .str none, .d .str none, .d (.int .i64) none]], [.d .bool none]⟩
noncomputable def tbl (k : Nat) : Tbl := [(63, impl_IsShop.spec k), (64, impl_IsValidLog.spec k)]
theorem e (k : Nat) (o : Nat → St → Option (Bool)) (a0_0 a0_1 : Int) (l0_2 : List (Int × Int × Int × Int × Int)) (a0_3 : Int) (a0_4 a0_5 : ByteArray) (a0_6 : Int) : T.main tyt (tbl k) o (a0_0, a0_1, l0_2, a0_3, a0_4, a0_5, a0_6) = m k a0_0 a0_1 l0_2 a0_3 a0_4 a0_5 a0_6 := by kernel_rfl
theorem ok : T.ok = true := by kernel_rfl
theorem tblok (k : Nat) : TblOk Tryz.prog (tbl k) := TblOk.cons (impl_IsShop.sound k) (TblOk.cons (impl_IsValidLog.sound k) (TblOk.nil _))
theorem sound (k : Nat) : Sound Tryz.prog 23 (spec k) := by
  have h := fn_ok (F := T) (tbl := tbl) mixed tyok Tryz.func23 (by kernel_rfl) (c0 := bodyOf Tryz.f23) rfl (conv_code _ _ _) rfl rfl ok k (fun j _ => tblok j)
  have e : spec k = ⟨T.ps, T.rs, T.ev tyt tbl k⟩ := congrArg (FnSpec.mk _ _) (funext fun x => ((e k (T.run tyt tbl k) x.1 x.2.1 x.2.2.1 x.2.2.2.1 x.2.2.2.2.1 x.2.2.2.2.2.1 x.2.2.2.2.2.2).trans (by rfl)).symm)
  rw [e]
  exact h
end impl_IsValidConsole

/-! ### slices_Clone_impl_Carpet_impl_Carpet: function 133, by hand -/
def slices_Clone_impl_Carpet_impl_Carpet.f (k : Nat) (l0 : List (Int × Int × Int × Int × Int)) : Option (List (Int × Int × Int × Int × Int)) := app 3518437208883 ([] : List (Int × Int × Int × Int × Int)) l0
noncomputable def slices_Clone_impl_Carpet_impl_Carpet.spec (k : Nat) : FnSpec := ⟨[.d (.sl (.pair (.int .i64) (.pair (.int .i64) (.pair (.int .i64) (.pair (.int .i64) (.int .i64)))))) none], [.d (.sl (.pair (.int .i64) (.pair (.int .i64) (.pair (.int .i64) (.pair (.int .i64) (.int .i64)))))) (some 108)], fun x => slices_Clone_impl_Carpet_impl_Carpet.f k x⟩
theorem slices_Clone_impl_Carpet_impl_Carpet.sound (k : Nat) : Sound Go.Proofs.Tryz.prog 133 (slices_Clone_impl_Carpet_impl_Carpet.spec k) := clone_ok (t := 36) (e := 108) (ti := tyt36) (ei := tyt108) (nt := Go.Proofs.Tryz.f133.ntmps) tyok Go.Proofs.Tryz.func133 (by kernel_rfl) rfl rfl rfl rfl (by decide) rfl rfl ⟨rfl, rfl, rfl⟩ ⟨rfl, rfl, rfl⟩ ⟨rfl, rfl, rfl⟩ ⟨rfl, rfl, rfl⟩ ⟨rfl, rfl, rfl⟩ ⟨rfl, rfl, rfl⟩ ⟨rfl, rfl, rfl⟩ ⟨rfl, rfl, rfl⟩
namespace impl_Shop_copied
/-! ### impl_Shop_copied: function 93 -/
def m (k : Nat) (a0_0 a0_1 : Int) (l0_2 : List (Int × Int × Int × Int × Int)) (a0_3 : Int) : Option (Int × Int × List (Int × Int × Int × Int × Int) × Int) := ((slices_Clone_impl_Carpet_impl_Carpet.f k l0_2).bind fun r1 => (some (a0_0, a0_1, r1, a0_3)))
def f (k : Nat) (a0_0 a0_1 : Int) (l0_2 : List (Int × Int × Int × Int × Int)) (a0_3 : Int) : Option (Int × Int × List (Int × Int × Int × Int × Int) × Int) := m k a0_0 a0_1 l0_2 a0_3
noncomputable def spec (k : Nat) : FnSpec := ⟨[.ag [.d (.int .i64) none, .d (.int .i64) none, .d (.sl (.pair (.int .i64) (.pair (.int .i64) (.pair (.int .i64) (.pair (.int .i64) (.int .i64)))))) none, .d (.int .i64) none]], [.ag [.d (.int .i64) none, .d (.int .i64) none, .d (.sl (.pair (.int .i64) (.pair (.int .i64) (.pair (.int .i64) (.pair (.int .i64) (.int .i64)))))) (some 108), .d (.int .i64) none]], fun x => f k x.1 x.2.1 x.2.2.1 x.2.2.2⟩
noncomputable def T : FnText := ⟨(conv [] (bodyOf Tryz.f93) 0).1, Tryz.f93.results.toList, 8, [], [.ag [.d (.int .i64) none, .d (.int .i64) none, .d (.sl (.pair (.int .i64) (.pair (.int .i64) (.pair (.int .i64) (.pair (.int .i64) (.int .i64)))))) none, .d (.int .i64) none]], [.ag [.d (.int .i64) none, .d (.int .i64) none, .d (.sl (.pair (.int .i64) (.pair (.int .i64) (.pair (.int .i64) (.pair (.int .i64) (.int .i64)))))) (some 108), .d (.int .i64) none]]⟩
noncomputable def tbl (k : Nat) : Tbl := [(133, slices_Clone_impl_Carpet_impl_Carpet.spec k)]
theorem e (k : Nat) (o : Nat → St → Option (Int × Int × List (Int × Int × Int × Int × Int) × Int)) (a0_0 a0_1 : Int) (l0_2 : List (Int × Int × Int × Int × Int)) (a0_3 : Int) : T.main tyt (tbl k) o (a0_0, a0_1, l0_2, a0_3) = m k a0_0 a0_1 l0_2 a0_3 := by kernel_rfl
theorem ok : T.ok = true := by kernel_rfl
theorem tblok (k : Nat) : TblOk Tryz.prog (tbl k) := TblOk.cons (slices_Clone_impl_Carpet_impl_Carpet.sound k) (TblOk.nil _)
theorem sound (k : Nat) : Sound Tryz.prog 93 (spec k) := by
  have h := fn_ok (F := T) (tbl := tbl) mixed tyok Tryz.func93 (by kernel_rfl) (c0 := bodyOf Tryz.f93) rfl (conv_code _ _ _) rfl rfl ok k (fun j _ => tblok j)
  have e : spec k = ⟨T.ps, T.rs, T.ev tyt tbl k⟩ := congrArg (FnSpec.mk _ _) (funext fun x => ((e k (T.run tyt tbl k) x.1 x.2.1 x.2.2.1 x.2.2.2).trans (by rfl)).symm)
  rw [e]
  exact h
end impl_Shop_copied

namespace impl_Console_copied
/-! ### impl_Console_copied: function 49 -/
def m (k : Nat) (a0_0 a0_1 : Int) (l0_2 : List (Int × Int × Int × Int × Int)) (a0_3 : Int) (a0_4 a0_5 : ByteArray) (a0_6 : Int) : Option (Int × Int × List (Int × Int × Int × Int × Int) × Int × ByteArray × ByteArray × Int) := ((impl_Shop_copied.f k a0_0 a0_1 l0_2 a0_3).bind fun r1 => (some (r1.1, r1.2.1, r1.2.2.1, r1.2.2.2, a0_4, a0_5, a0_6)))
def f (k : Nat) (a0_0 a0_1 : Int) (l0_2 : List (Int × Int × Int × Int × Int)) (a0_3 : Int) (a0_4 a0_5 : ByteArray) (a0_6 : Int) : Option (Int × Int × List (Int × Int × Int × Int × Int) × Int × ByteArray × ByteArray × Int) := m k a0_0 a0_1 l0_2 a0_3 a0_4 a0_5 a0_6
noncomputable def spec (k : Nat) : FnSpec := ⟨[.ag [.d (.int .i64) none, .d (.int .i64) none, .d (.sl (.pair (.int .i64) (.pair (.int .i64) (.pair (.int .i64) (.pair (.int .i64) (.int .i64)))))) none, .d (.int .i64) none, .d .str none, .d .str none, .d (.int .i64) none]], [.ag [.d (.int .i64) none, .d (.int .i64) none, .d (.sl (.pair (.int .i64) (.pair (.int .i64) (.pair (.int .i64) (.pair (.int .i64) (.int .i64)))))) (some 108), .d (.int .i64) none, .d .str none, .d .str none, .d (.int .i64) none]], fun x => f k x.1 x.2.1 x.2.2.1 x.2.2.2.1 x.2.2.2.2.1 x.2.2.2.2.2.1 x.2.2.2.2.2.2⟩
noncomputable def T : FnText := ⟨(conv [] (bodyOf Tryz.f49) 0).1, Tryz.f49.results.toList, 8, [], [.ag [.d (.int .i64) none, .d (.int .i64) none, .d (.sl (.pair (.int .i64) (.pair (.int .i64) (.pair (.int .i64) (.pair (.int .i64) (.int .i64)))))) none, .d (.int .i64) none, .d .str none, .d .str none, .d (.int .i64) none]], [.ag [.d (.int .i64) none, .d (.int .i64) none, .d (.sl (.pair (.int .i64) (.pair (.int .i64) (.pair (.int .i64) (.pair (.int .i64) (.int .i64)))))) (some 108), .d (.int .i64) none, .d .str none, .d .str none, .d (.int .i64) none]]⟩
noncomputable def tbl (k : Nat) : Tbl := [(93, impl_Shop_copied.spec k)]
theorem e (k : Nat) (o : Nat → St → Option (Int × Int × List (Int × Int × Int × Int × Int) × Int × ByteArray × ByteArray × Int)) (a0_0 a0_1 : Int) (l0_2 : List (Int × Int × Int × Int × Int)) (a0_3 : Int) (a0_4 a0_5 : ByteArray) (a0_6 : Int) : T.main tyt (tbl k) o (a0_0, a0_1, l0_2, a0_3, a0_4, a0_5, a0_6) = m k a0_0 a0_1 l0_2 a0_3 a0_4 a0_5 a0_6 := by kernel_rfl
theorem ok : T.ok = true := by kernel_rfl
theorem tblok (k : Nat) : TblOk Tryz.prog (tbl k) := TblOk.cons (impl_Shop_copied.sound k) (TblOk.nil _)
theorem sound (k : Nat) : Sound Tryz.prog 49 (spec k) := by
  have h := fn_ok (F := T) (tbl := tbl) mixed tyok Tryz.func49 (by kernel_rfl) (c0 := bodyOf Tryz.f49) rfl (conv_code _ _ _) rfl rfl ok k (fun j _ => tblok j)
  have e : spec k = ⟨T.ps, T.rs, T.ev tyt tbl k⟩ := congrArg (FnSpec.mk _ _) (funext fun x => ((e k (T.run tyt tbl k) x.1 x.2.1 x.2.2.1 x.2.2.2.1 x.2.2.2.2.1 x.2.2.2.2.2.1 x.2.2.2.2.2.2).trans (by rfl)).symm)
  rw [e]
  exact h
end impl_Console_copied

/-! ### strings_Split: function 67, by its contract -/
def strings_Split.f (k : Nat) (a0 : ByteArray) (a1 : ByteArray) : Option (List ByteArray) := splitF a0 a1
noncomputable def strings_Split.spec (k : Nat) : FnSpec := ⟨[.d .str none, .d .str none], [.d (.sl .str) none], fun x => strings_Split.f k x.1 x.2⟩
theorem strings_Split.sound (k : Nat) : Sound Go.Proofs.Tryz.prog 67 (strings_Split.spec k) := strSplit_ok

/-! ### impl_ParseInt: function 137, by its contract -/
def impl_ParseInt.f (k : Nat) (a0 : ByteArray) : Option (Int × Bool) := parseIntF a0
noncomputable def impl_ParseInt.spec (k : Nat) : FnSpec := ⟨[.d .str none], [.d (.int .i64) none, .d .bool none], fun x => impl_ParseInt.f k x⟩
theorem impl_ParseInt.sound (k : Nat) : Sound Go.Proofs.Tryz.prog 137 (impl_ParseInt.spec k) := strParseInt_ok

namespace impl_parseInts
/-! ### impl_parseInts: function 96 -/
def b4 (o4 : List Int → List ByteArray → Int → Int → Option (List Int × Bool)) (k : Nat) (l0_4 : List Int) (l1_4 : List ByteArray) (x2_4 x3_4 : Int) : Option (List Int × Bool) := (if x3_4 < x2_4 then ((chk l1_4.length x3_4).bind fun i1 => ((impl_ParseInt.f k (l1_4.getD i1 ByteArray.empty)).bind fun r2 => (cond (!r2.2) (some ([], false)) ((app 17592186044416 l0_4 [r2.1]).bind fun l3 => (o4 l3 l1_4 x2_4 (w64 (x3_4 + 1))))))) else (some (l0_4, true)))
def l4 : Nat → List Int → List ByteArray → Int → Int → Option (List Int × Bool)
  | 0, _, _, _, _ => none
  | k + 1, l0_4, l1_4, x2_4, x3_4 => b4 (impl_parseInts.l4 k) k l0_4 l1_4 x2_4 x3_4
def m (o4 : List Int → List ByteArray → Int → Int → Option (List Int × Bool)) (k : Nat) (l0 : List ByteArray) : Option (List Int × Bool) := (o4 ([] : List (Int)) l0 (l0.length : Int) 0)
def f (k : Nat) (l0 : List ByteArray) : Option (List Int × Bool) := m (impl_parseInts.l4 k) k l0
noncomputable def spec (k : Nat) : FnSpec := ⟨[.d (.sl .str) none], [.d (.sl (.int .i64)) (some 3), .d .bool none], fun x => f k x⟩
def S4 (l0_4 : List Int) (l1_4 : List ByteArray) (x2_4 x3_4 : Int) : St := ⟨[(4, .ref 100), (10, .val (.sl .str) l1_4), (11, .val (.int .i64) x2_4), (12, .val (.int .i64) x3_4)], [(100, some (.row 3 (.int .i64) l0_4))], 1000⟩
noncomputable def T : FnText := ⟨(conv [] (bodyOf Tryz.f96) 0).1, Tryz.f96.results.toList, 29, [(4, [(4, .own 3 (.int .i64) 100), (10, .rd (.sl .str)), (11, .rd (.int .i64)), (12, .rd (.int .i64))])], [.d (.sl .str) none], [.d (.sl (.int .i64)) (some 3), .d .bool none]⟩
noncomputable def tbl (k : Nat) : Tbl := [(137, impl_ParseInt.spec k)]
theorem e4 (k : Nat) (o : Nat → St → Option (List Int × Bool)) (l0_4 : List Int) (l1_4 : List ByteArray) (x2_4 x3_4 : Int) : T.step tyt (tbl k) o 4 (S4 l0_4 l1_4 x2_4 x3_4) = b4 (fun l0_4 l1_4 x2_4 x3_4 => o 4 (S4 l0_4 l1_4 x2_4 x3_4)) k l0_4 l1_4 x2_4 x3_4 := by kernel_rfl
theorem e (k : Nat) (o : Nat → St → Option (List Int × Bool)) (l0 : List ByteArray) : T.main tyt (tbl k) o l0 = m (fun l0_4 l1_4 x2_4 x3_4 => o 4 (S4 l0_4 l1_4 x2_4 x3_4)) k l0 := by kernel_rfl
theorem ok : T.ok = true := by kernel_rfl
theorem run (k : Nat) : (∀ (l0_4 : List Int) (l1_4 : List ByteArray) (x2_4 x3_4 : Int), T.run tyt tbl k 4 (S4 l0_4 l1_4 x2_4 x3_4) = impl_parseInts.l4 k l0_4 l1_4 x2_4 x3_4) := by
  induction k with
  | zero => exact fun l0_4 l1_4 x2_4 x3_4 => rfl
  | succ k ih =>
    exact fun l0_4 l1_4 x2_4 x3_4 => by
      have q4 : (fun l0_4 l1_4 x2_4 x3_4 => T.run tyt tbl k 4 (S4 l0_4 l1_4 x2_4 x3_4)) = impl_parseInts.l4 k := by funext l0_4 l1_4 x2_4 x3_4; exact ih l0_4 l1_4 x2_4 x3_4
      exact (e4 k (T.run tyt tbl k) l0_4 l1_4 x2_4 x3_4).trans (by rw [q4]; rfl)
theorem tblok (k : Nat) : TblOk Tryz.prog (tbl k) := TblOk.cons (impl_ParseInt.sound k) (TblOk.nil _)
theorem sound (k : Nat) : Sound Tryz.prog 96 (spec k) := by
  have h := fn_ok (F := T) (tbl := tbl) mixed tyok Tryz.func96 (by kernel_rfl) (c0 := bodyOf Tryz.f96) rfl (conv_code _ _ _) rfl rfl ok k (fun j _ => tblok j)
  have q4 : (fun l0_4 l1_4 x2_4 x3_4 => T.run tyt tbl k 4 (S4 l0_4 l1_4 x2_4 x3_4)) = impl_parseInts.l4 k := by funext l0_4 l1_4 x2_4 x3_4; exact (run k) l0_4 l1_4 x2_4 x3_4
  have e : spec k = ⟨T.ps, T.rs, T.ev tyt tbl k⟩ := congrArg (FnSpec.mk _ _) (funext fun x => ((e k (T.run tyt tbl k) x).trans (by rw [q4]; rfl)).symm)
  rw [e]
  exact h
end impl_parseInts

/-! ### impl_stepOf: function 97, by its contract -/
def impl_stepOf.f (k : Nat) (a0 : ByteArray) (a1 : List Int) : Option (Int × Int × Int × Bool) := stepOfF a0 a1
noncomputable def impl_stepOf.spec (k : Nat) : FnSpec := ⟨[.d .str none, .d (.sl (.int .i64)) none], [.ag [.d (.int .i64) none, .d (.int .i64) none, .d (.int .i64) none], .d .bool none], fun x => impl_stepOf.f k x.1 x.2⟩
theorem impl_stepOf.sound (k : Nat) : Sound Go.Proofs.Tryz.prog 97 (impl_stepOf.spec k) := strStepOf_ok

namespace impl_ShopStep_isValid
/-! ### impl_ShopStep_isValid: function 138 -/
def b3 (o6 : Int → Int → Int → Int → Bool → Option (Bool)) (k : Nat) (x0_3 x1_3 x2_3 x3_3 : Int) (x4_3 : Bool) : Option (Bool) := (cond x4_3 (if x1_3 = 0 then (some (decide (1 ≤ x2_3))) else (some false)) (if x3_3 = 3 then (o6 x0_3 x1_3 x2_3 x3_3 (decide (x3_3 = 3))) else (o6 x0_3 x1_3 x2_3 x3_3 (decide (x3_3 = 7)))))
def b6 (k : Nat) (x0_6 x1_6 x2_6 x3_6 : Int) (x4_6 : Bool) : Option (Bool) := (cond x4_6 (some (decide (1 ≤ x2_6))) (if x3_6 = 4 then ((impl_in.f k x2_6 1 20).bind fun r1 => (some r1)) else (if x0_6 = 5 then (some (decide (x2_6 = 0))) else (if x0_6 = 6 then (some (decide (x2_6 = 0))) else (some false)))))
mutual
def l3 : Nat → Int → Int → Int → Int → Bool → Option (Bool)
  | 0, _, _, _, _, _ => none
  | k + 1, x0_3, x1_3, x2_3, x3_3, x4_3 => b3 (impl_ShopStep_isValid.l6 k) k x0_3 x1_3 x2_3 x3_3 x4_3
def l6 : Nat → Int → Int → Int → Int → Bool → Option (Bool)
  | 0, _, _, _, _, _ => none
  | k + 1, x0_6, x1_6, x2_6, x3_6, x4_6 => b6 k x0_6 x1_6 x2_6 x3_6 x4_6
end
def m (o3 : Int → Int → Int → Int → Bool → Option (Bool)) (k : Nat) (a0_0 a0_1 a0_2 : Int) : Option (Bool) := (if a0_0 = 1 then (o3 a0_0 a0_1 a0_2 a0_0 (decide (a0_0 = 1))) else (o3 a0_0 a0_1 a0_2 a0_0 (decide (a0_0 = 2))))
def f (k : Nat) (a0_0 a0_1 a0_2 : Int) : Option (Bool) := m (impl_ShopStep_isValid.l3 k) k a0_0 a0_1 a0_2
noncomputable def spec (k : Nat) : FnSpec := ⟨[.ag [.d (.int .i64) none, .d (.int .i64) none, .d (.int .i64) none]], [.d .bool none], fun x => f k x.1 x.2.1 x.2.2⟩
def S3 (x0_3 x1_3 x2_3 x3_3 : Int) (x4_3 : Bool) : St := ⟨[(1, .ptr 100 0), (4, .val (.int .i64) x3_3), (5, .val .bool x4_3)], [(100, some (.box [.val (.int .i64) x0_3, .val (.int .i64) x1_3, .val (.int .i64) x2_3]))], 1000⟩
def S6 (x0_6 x1_6 x2_6 x3_6 : Int) (x4_6 : Bool) : St := ⟨[(1, .ptr 100 0), (4, .val (.int .i64) x3_6), (16, .val .bool x4_6)], [(100, some (.box [.val (.int .i64) x0_6, .val (.int .i64) x1_6, .val (.int .i64) x2_6]))], 1000⟩
noncomputable def T : FnText := ⟨(conv [3, 6] (bodyOf Tryz.f138) 0).1, Tryz.f138.results.toList, 40, [(3, [(1, .bx 100 [.rd (.int .i64), .rd (.int .i64), .rd (.int .i64)]), (4, .rd (.int .i64)), (5, .rd .bool)]), (6, [(1, .bx 100 [.rd (.int .i64), .rd (.int .i64), .rd (.int .i64)]), (4, .rd (.int .i64)), (16, .rd .bool)])], [.ag [.d (.int .i64) none, .d (.int .i64) none, .d (.int .i64) none]], [.d .bool none]⟩
noncomputable def tbl (k : Nat) : Tbl := [(79, impl_in.spec k)]
theorem e3 (k : Nat) (o : Nat → St → Option (Bool)) (x0_3 x1_3 x2_3 x3_3 : Int) (x4_3 : Bool) : T.step tyt (tbl k) o 3 (S3 x0_3 x1_3 x2_3 x3_3 x4_3) = b3 (fun x0_6 x1_6 x2_6 x3_6 x4_6 => o 6 (S6 x0_6 x1_6 x2_6 x3_6 x4_6)) k x0_3 x1_3 x2_3 x3_3 x4_3 := by kernel_rfl
theorem e6 (k : Nat) (o : Nat → St → Option (Bool)) (x0_6 x1_6 x2_6 x3_6 : Int) (x4_6 : Bool) : T.step tyt (tbl k) o 6 (S6 x0_6 x1_6 x2_6 x3_6 x4_6) = b6 k x0_6 x1_6 x2_6 x3_6 x4_6 := by kernel_rfl
theorem e (k : Nat) (o : Nat → St → Option (Bool)) (a0_0 a0_1 a0_2 : Int) : T.main tyt (tbl k) o (a0_0, a0_1, a0_2) = m (fun x0_3 x1_3 x2_3 x3_3 x4_3 => o 3 (S3 x0_3 x1_3 x2_3 x3_3 x4_3)) k a0_0 a0_1 a0_2 := by kernel_rfl
theorem ok : T.ok = true := by kernel_rfl
theorem run (k : Nat) : (∀ (x0_3 x1_3 x2_3 x3_3 : Int) (x4_3 : Bool), T.run tyt tbl k 3 (S3 x0_3 x1_3 x2_3 x3_3 x4_3) = impl_ShopStep_isValid.l3 k x0_3 x1_3 x2_3 x3_3 x4_3) ∧ (∀ (x0_6 x1_6 x2_6 x3_6 : Int) (x4_6 : Bool), T.run tyt tbl k 6 (S6 x0_6 x1_6 x2_6 x3_6 x4_6) = impl_ShopStep_isValid.l6 k x0_6 x1_6 x2_6 x3_6 x4_6) := by
  induction k with
  | zero => exact ⟨fun x0_3 x1_3 x2_3 x3_3 x4_3 => rfl, fun x0_6 x1_6 x2_6 x3_6 x4_6 => rfl⟩
  | succ k ih =>
    exact ⟨fun x0_3 x1_3 x2_3 x3_3 x4_3 => by
      have q6 : (fun x0_6 x1_6 x2_6 x3_6 x4_6 => T.run tyt tbl k 6 (S6 x0_6 x1_6 x2_6 x3_6 x4_6)) = impl_ShopStep_isValid.l6 k := by funext x0_6 x1_6 x2_6 x3_6 x4_6; exact ih.2 x0_6 x1_6 x2_6 x3_6 x4_6
      exact (e3 k (T.run tyt tbl k) x0_3 x1_3 x2_3 x3_3 x4_3).trans (by rw [q6]; rfl), fun x0_6 x1_6 x2_6 x3_6 x4_6 => by
      exact (e6 k (T.run tyt tbl k) x0_6 x1_6 x2_6 x3_6 x4_6).trans (by rfl)⟩
theorem tblok (k : Nat) : TblOk Tryz.prog (tbl k) := TblOk.cons (impl_in.sound k) (TblOk.nil _)
theorem sound (k : Nat) : Sound Tryz.prog 138 (spec k) := by
  have h := fn_ok (F := T) (tbl := tbl) mixed tyok Tryz.func138 (by kernel_rfl) (c0 := bodyOf Tryz.f138) rfl (conv_code _ _ _) rfl rfl ok k (fun j _ => tblok j)
  have q3 : (fun x0_3 x1_3 x2_3 x3_3 x4_3 => T.run tyt tbl k 3 (S3 x0_3 x1_3 x2_3 x3_3 x4_3)) = impl_ShopStep_isValid.l3 k := by funext x0_3 x1_3 x2_3 x3_3 x4_3; exact (run k).1 x0_3 x1_3 x2_3 x3_3 x4_3
  have e : spec k = ⟨T.ps, T.rs, T.ev tyt tbl k⟩ := congrArg (FnSpec.mk _ _) (funext fun x => ((e k (T.run tyt tbl k) x.1 x.2.1 x.2.2).trans (by rw [q3]; rfl)).symm)
  rw [e]
  exact h
end impl_ShopStep_isValid

namespace impl_Shop_canChange
/-! ### impl_Shop_canChange: function 139 -/
def m (k : Nat) (a0_0 a0_1 : Int) (l0_2 : List (Int × Int × Int × Int × Int)) (a0_3 a1_0 a1_1 a1_2 a2_0 a2_1 a2_2 a2_3 a2_4 : Int) : Option (Bool) := (if a1_0 = 3 then (if a2_2 = 0 then ((impl_Shop_onLoom.f k a0_0 a0_1 l0_2 a0_3 a1_2).bind fun r1 => (some (decide (r1 < 0)))) else (some false)) else (if a1_0 = 4 then (if a2_2 = 1 then (if 1 ≤ (w64 (a0_0 - a2_4)) then (some (decide (a1_2 ≤ (w64 (a2_0 - a2_1))))) else (some false)) else (some false)) else (if a1_0 = 5 then (if a2_2 = 1 then (some (decide (a2_1 = a2_0))) else (some false)) else (if a1_0 = 6 then (some (decide (a2_2 = 2))) else (if a2_2 = 3 then (some (decide (3 ≤ (w64 (a0_0 - a2_4))))) else (some false))))))
def f (k : Nat) (a0_0 a0_1 : Int) (l0_2 : List (Int × Int × Int × Int × Int)) (a0_3 a1_0 a1_1 a1_2 a2_0 a2_1 a2_2 a2_3 a2_4 : Int) : Option (Bool) := m k a0_0 a0_1 l0_2 a0_3 a1_0 a1_1 a1_2 a2_0 a2_1 a2_2 a2_3 a2_4
noncomputable def spec (k : Nat) : FnSpec := ⟨[.ag [.d (.int .i64) none, .d (.int .i64) none, .d (.sl (.pair (.int .i64) (.pair (.int .i64) (.pair (.int .i64) (.pair (.int .i64) (.int .i64)))))) none, .d (.int .i64) none], .ag [.d (.int .i64) none, .d (.int .i64) none, .d (.int .i64) none], .ag [.d (.int .i64) none, .d (.int .i64) none, .d (.int .i64) none, .d (.int .i64) none, .d (.int .i64) none]], [.d .bool none], fun x => f k x.1 x.2.1 x.2.2.1 x.2.2.2.1 x.2.2.2.2.1 x.2.2.2.2.2.1 x.2.2.2.2.2.2.1 x.2.2.2.2.2.2.2.1 x.2.2.2.2.2.2.2.2.1 x.2.2.2.2.2.2.2.2.2.1 x.2.2.2.2.2.2.2.2.2.2.1 x.2.2.2.2.2.2.2.2.2.2.2⟩
noncomputable def T : FnText := ⟨(conv [] (bodyOf Tryz.f139) 0).1, Tryz.f139.results.toList, 70, [], [.ag [.d (.int .i64) none, .d (.int .i64) none, .d (.sl (.pair (.int .i64) (.pair (.int .i64) (.pair (.int .i64) (.pair (.int .i64) (.int .i64)))))) none, .d (.int .i64) none], .ag [.d (.int .i64) none, .d (.int .i64) none, .d (.int .i64) none], .ag [.d (.int .i64) none, .d (.int .i64) none, .d (.int .i64) none, .d (.int .i64) none, .d (.int .i64) none]], [.d .bool none]⟩
noncomputable def tbl (k : Nat) : Tbl := [(114, impl_Shop_onLoom.spec k)]
theorem e (k : Nat) (o : Nat → St → Option (Bool)) (a0_0 a0_1 : Int) (l0_2 : List (Int × Int × Int × Int × Int)) (a0_3 a1_0 a1_1 a1_2 a2_0 a2_1 a2_2 a2_3 a2_4 : Int) : T.main tyt (tbl k) o (a0_0, a0_1, l0_2, a0_3, a1_0, a1_1, a1_2, a2_0, a2_1, a2_2, a2_3, a2_4) = m k a0_0 a0_1 l0_2 a0_3 a1_0 a1_1 a1_2 a2_0 a2_1 a2_2 a2_3 a2_4 := by kernel_rfl
theorem ok : T.ok = true := by kernel_rfl
theorem tblok (k : Nat) : TblOk Tryz.prog (tbl k) := TblOk.cons (impl_Shop_onLoom.sound k) (TblOk.nil _)
theorem sound (k : Nat) : Sound Tryz.prog 139 (spec k) := by
  have h := fn_ok (F := T) (tbl := tbl) mixed tyok Tryz.func139 (by kernel_rfl) (c0 := bodyOf Tryz.f139) rfl (conv_code _ _ _) rfl rfl ok k (fun j _ => tblok j)
  have e : spec k = ⟨T.ps, T.rs, T.ev tyt tbl k⟩ := congrArg (FnSpec.mk _ _) (funext fun x => ((e k (T.run tyt tbl k) x.1 x.2.1 x.2.2.1 x.2.2.2.1 x.2.2.2.2.1 x.2.2.2.2.2.1 x.2.2.2.2.2.2.1 x.2.2.2.2.2.2.2.1 x.2.2.2.2.2.2.2.2.1 x.2.2.2.2.2.2.2.2.2.1 x.2.2.2.2.2.2.2.2.2.2.1 x.2.2.2.2.2.2.2.2.2.2.2).trans (by rfl)).symm)
  rw [e]
  exact h
end impl_Shop_canChange

namespace impl_Shop_change
/-! ### impl_Shop_change: function 140 -/
def m (k : Nat) (a0_0 a0_1 : Int) (l0_2 : List (Int × Int × Int × Int × Int)) (a0_3 a1_0 a1_1 a1_2 : Int) : Option (Int × Int × List (Int × Int × Int × Int × Int) × Int) := ((chk l0_2.length a1_1).bind fun i1 => (if a1_0 = 3 then (some (a0_0, a0_1, (upd (upd (upd l0_2 i1 (0, 0, 0, 0, 0) fun e2 => (e2.1, e2.2.1, e2.2.2.1, e2.2.2.2.1, a0_0)) i1 (0, 0, 0, 0, 0) fun e3 => (e3.1, e3.2.1, 1, e3.2.2.2.1, e3.2.2.2.2)) i1 (0, 0, 0, 0, 0) fun e4 => (e4.1, e4.2.1, e4.2.2.1, a1_2, e4.2.2.2.2)), a0_3)) else (if a1_0 = 4 then (some (a0_0, a0_1, (upd (upd l0_2 i1 (0, 0, 0, 0, 0) fun e2 => (e2.1, e2.2.1, e2.2.2.1, e2.2.2.2.1, a0_0)) i1 (0, 0, 0, 0, 0) fun e5 => (e5.1, (w64 (((((upd l0_2 i1 (0, 0, 0, 0, 0) fun e2 => (e2.1, e2.2.1, e2.2.2.1, e2.2.2.2.1, a0_0)).getD i1 (0, 0, 0, 0, 0)).2).1) + a1_2)), e5.2.2.1, e5.2.2.2.1, e5.2.2.2.2)), a0_3)) else (if a1_0 = 5 then (some (a0_0, a0_1, (upd (upd (upd l0_2 i1 (0, 0, 0, 0, 0) fun e2 => (e2.1, e2.2.1, e2.2.2.1, e2.2.2.2.1, a0_0)) i1 (0, 0, 0, 0, 0) fun e6 => (e6.1, e6.2.1, 2, e6.2.2.2.1, e6.2.2.2.2)) i1 (0, 0, 0, 0, 0) fun e7 => (e7.1, e7.2.1, e7.2.2.1, 0, e7.2.2.2.2)), a0_3)) else (if a1_0 = 6 then (some (a0_0, a0_1, (upd (upd l0_2 i1 (0, 0, 0, 0, 0) fun e2 => (e2.1, e2.2.1, e2.2.2.1, e2.2.2.2.1, a0_0)) i1 (0, 0, 0, 0, 0) fun e8 => (e8.1, e8.2.1, 3, e8.2.2.2.1, e8.2.2.2.2)), a0_3)) else (if a1_0 = 7 then (some (a0_0, a0_1, (upd (upd l0_2 i1 (0, 0, 0, 0, 0) fun e2 => (e2.1, e2.2.1, e2.2.2.1, e2.2.2.2.1, a0_0)) i1 (0, 0, 0, 0, 0) fun e9 => (e9.1, e9.2.1, 4, e9.2.2.2.1, e9.2.2.2.2)), (w64 (a0_3 + a1_2)))) else (some (a0_0, a0_1, (upd l0_2 i1 (0, 0, 0, 0, 0) fun e2 => (e2.1, e2.2.1, e2.2.2.1, e2.2.2.2.1, a0_0)), a0_3))))))))
def f (k : Nat) (a0_0 a0_1 : Int) (l0_2 : List (Int × Int × Int × Int × Int)) (a0_3 a1_0 a1_1 a1_2 : Int) : Option (Int × Int × List (Int × Int × Int × Int × Int) × Int) := m k a0_0 a0_1 l0_2 a0_3 a1_0 a1_1 a1_2
noncomputable def spec (k : Nat) : FnSpec := ⟨[.bx [.d (.int .i64) none, .d (.int .i64) none, .d (.sl (.pair (.int .i64) (.pair (.int .i64) (.pair (.int .i64) (.pair (.int .i64) (.int .i64)))))) (some 108), .d (.int .i64) none], .ag [.d (.int .i64) none, .d (.int .i64) none, .d (.int .i64) none]], [], fun x => f k x.1 x.2.1 x.2.2.1 x.2.2.2.1 x.2.2.2.2.1 x.2.2.2.2.2.1 x.2.2.2.2.2.2⟩
noncomputable def T : FnText := ⟨(conv [] (bodyOf Tryz.f140) 0).1, Tryz.f140.results.toList, 69, [], [.bx [.d (.int .i64) none, .d (.int .i64) none, .d (.sl (.pair (.int .i64) (.pair (.int .i64) (.pair (.int .i64) (.pair (.int .i64) (.int .i64)))))) (some 108), .d (.int .i64) none], .ag [.d (.int .i64) none, .d (.int .i64) none, .d (.int .i64) none]], []⟩
noncomputable def tbl (k : Nat) : Tbl := []
theorem e (k : Nat) (o : Nat → St → Option (Int × Int × List (Int × Int × Int × Int × Int) × Int)) (a0_0 a0_1 : Int) (l0_2 : List (Int × Int × Int × Int × Int)) (a0_3 a1_0 a1_1 a1_2 : Int) : T.main tyt (tbl k) o (a0_0, a0_1, l0_2, a0_3, a1_0, a1_1, a1_2) = m k a0_0 a0_1 l0_2 a0_3 a1_0 a1_1 a1_2 := by kernel_rfl
theorem ok : T.ok = true := by kernel_rfl
theorem tblok (k : Nat) : TblOk Tryz.prog (tbl k) := TblOk.nil _
theorem sound (k : Nat) : Sound Tryz.prog 140 (spec k) := by
  have h := fn_ok (F := T) (tbl := tbl) mixed tyok Tryz.func140 (by kernel_rfl) (c0 := bodyOf Tryz.f140) rfl (conv_code _ _ _) rfl rfl ok k (fun j _ => tblok j)
  have e : spec k = ⟨T.ps, T.rs, T.ev tyt tbl k⟩ := congrArg (FnSpec.mk _ _) (funext fun x => ((e k (T.run tyt tbl k) x.1 x.2.1 x.2.2.1 x.2.2.2.1 x.2.2.2.2.1 x.2.2.2.2.2.1 x.2.2.2.2.2.2).trans (by rfl)).symm)
  rw [e]
  exact h
end impl_Shop_change


end Go.Proofs.YtiacidpjplmgaaaGreatDoor.DFnExactExecuteCommand
