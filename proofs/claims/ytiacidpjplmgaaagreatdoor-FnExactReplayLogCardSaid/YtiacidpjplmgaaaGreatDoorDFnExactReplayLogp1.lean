-- Printed by this session's own program (wip/deep/drow.py); Lean checks it.
import Derived.Test.YtiacidpjplmgaaaGreatDoorHc
import Derived.Test.YtiacidpjplmgaaaGreatDoorProg
set_option linter.unusedVariables false
set_option maxRecDepth 100000
namespace Go.Proofs.YtiacidpjplmgaaaGreatDoor.DFnExactReplayLog
open Go Go.Proofs.YtiacidpjplmgaaaGreatDoorD
def tyt3 : TI := ⟨.int .i64, 1, 8, (.int .i64)⟩
def tyt4 : TI := ⟨.bool, 1, 1, .bool⟩
def tyt5 : TI := ⟨.int .u8, 1, 1, (.int .u8)⟩
def tyt9 : TI := ⟨.string, 1, 16, .str⟩
def tyt23 : TI := ⟨.struct #[⟨ "Durable", 9, 0, false, "", "", 0⟩, ⟨ "Pending", 9, 1, false, "", "", 16⟩, ⟨ "Count", 3, 2, false, "", "", 32⟩], 3, 40, (.pair .str (.pair .str (.int .i64)))⟩
def tyt27 : TI := ⟨.struct #[⟨ "Durable", 9, 0, false, "", "", 0⟩, ⟨ "Pending", 9, 1, false, "", "", 16⟩, ⟨ "Count", 3, 2, false, "", "", 32⟩], 3, 40, (.pair .str (.pair .str (.int .i64)))⟩
def tyt36 : TI := ⟨.slice 108, 1, 24, (.sl (.pair (.int .i64) (.pair (.int .i64) (.pair (.int .i64) (.pair (.int .i64) (.int .i64))))))⟩
def tyt38 : TI := ⟨.struct #[⟨ "Day", 3, 0, false, "", "", 0⟩, ⟨ "Looms", 3, 1, false, "", "", 8⟩, ⟨ "Carpets", 36, 2, false, "", "", 16⟩, ⟨ "Money", 3, 3, false, "", "", 40⟩], 4, 48, (.pair (.int .i64) (.pair (.int .i64) (.pair (.sl (.pair (.int .i64) (.pair (.int .i64) (.pair (.int .i64) (.pair (.int .i64) (.int .i64)))))) (.int .i64))))⟩
def tyt40 : TI := ⟨.struct #[⟨ "Shop", 38, 0, false, "", "", 0⟩, ⟨ "Log", 27, 4, false, "", "", 48⟩], 7, 88, (.pair (.int .i64) (.pair (.int .i64) (.pair (.sl (.pair (.int .i64) (.pair (.int .i64) (.pair (.int .i64) (.pair (.int .i64) (.int .i64)))))) (.pair (.int .i64) (.pair .str (.pair .str (.int .i64)))))))⟩
def tyt47 : TI := ⟨.slice 5, 1, 24, (.sl (.int .u8))⟩
def tyt51 : TI := ⟨.slice 55, 1, 24, (.sl (.pair .str .str))⟩
def tyt55 : TI := ⟨.struct #[⟨ "Command", 9, 0, false, "", "", 0⟩, ⟨ "Reply", 9, 1, false, "", "", 16⟩], 2, 32, (.pair .str .str)⟩
def tyt56 : TI := ⟨.slice 9, 1, 24, (.sl .str)⟩
def tyt108 : TI := ⟨.struct #[⟨ "Rows", 3, 0, false, "", "", 0⟩, ⟨ "Made", 3, 1, false, "", "", 8⟩, ⟨ "State", 3, 2, false, "", "", 16⟩, ⟨ "Loom", 3, 3, false, "", "", 24⟩, ⟨ "Since", 3, 4, false, "", "", 32⟩], 5, 40, (.pair (.int .i64) (.pair (.int .i64) (.pair (.int .i64) (.pair (.int .i64) (.int .i64)))))⟩
def tyt110 : TI := ⟨.slice 3, 1, 24, (.sl (.int .i64))⟩
def tyt135 : TI := ⟨.struct #[⟨ "Kind", 3, 0, false, "", "", 0⟩, ⟨ "Carpet", 3, 1, false, "", "", 8⟩, ⟨ "Value", 3, 2, false, "", "", 16⟩], 3, 24, (.pair (.int .i64) (.pair (.int .i64) (.int .i64)))⟩
def tyt151 : TI := ⟨.array 5 9, 5, 80, (.pair .str (.pair .str (.pair .str (.pair .str .str))))⟩
def tyt168 : TI := ⟨.func #[5] #[4] false, 1, 8, .fn⟩
def tyt : TT := [(3, tyt3), (4, tyt4), (5, tyt5), (9, tyt9), (23, tyt23), (27, tyt27), (36, tyt36), (38, tyt38), (40, tyt40), (47, tyt47), (51, tyt51), (55, tyt55), (56, tyt56), (108, tyt108), (110, tyt110), (135, tyt135), (151, tyt151), (168, tyt168)]
theorem mixed : Go.Proofs.Tryz.prog.follows .mixedOrders = true := by kernel_rfl
theorem tok3 : TOk1 Go.Proofs.Tryz.prog 3 (tyt3) := TOk1.of (by kernel_rfl) (by kernel_rfl) (by kernel_rfl) (by kernel_rfl) (by kernel_rfl) (by kernel_rfl) (by kernel_rfl) (fun h => nomatch (show false = true from h)) (fun h => nomatch (show false = true from h))
theorem tok4 : TOk1 Go.Proofs.Tryz.prog 4 (tyt4) := TOk1.of (by kernel_rfl) (by kernel_rfl) (by kernel_rfl) (by kernel_rfl) (by kernel_rfl) (by kernel_rfl) (by kernel_rfl) (fun h => nomatch (show false = true from h)) (fun h => nomatch (show false = true from h))
theorem tok5 : TOk1 Go.Proofs.Tryz.prog 5 (tyt5) := TOk1.of (by kernel_rfl) (by kernel_rfl) (by kernel_rfl) (by kernel_rfl) (by kernel_rfl) (by kernel_rfl) (by kernel_rfl) (fun h => nomatch (show false = true from h)) (fun h => nomatch (show false = true from h))
theorem tok9 : TOk1 Go.Proofs.Tryz.prog 9 (tyt9) := TOk1.of (by kernel_rfl) (by kernel_rfl) (by kernel_rfl) (by kernel_rfl) (by kernel_rfl) (by kernel_rfl) (by kernel_rfl) (fun h => nomatch (show false = true from h)) (fun h => nomatch (show false = true from h))
theorem tok23 : TOk1 Go.Proofs.Tryz.prog 23 (tyt23) := TOk1.of (by kernel_rfl) (by kernel_rfl) (by kernel_rfl) (by kernel_rfl) (by kernel_rfl) (by kernel_rfl) (by kernel_rfl) (fun _ => by kernel_rfl) (fun _ => ⟨by kernel_rfl, by kernel_rfl, by kernel_rfl⟩)
theorem tok27 : TOk1 Go.Proofs.Tryz.prog 27 (tyt27) := TOk1.of (by kernel_rfl) (by kernel_rfl) (by kernel_rfl) (by kernel_rfl) (by kernel_rfl) (by kernel_rfl) (by kernel_rfl) (fun _ => by kernel_rfl) (fun _ => ⟨by kernel_rfl, by kernel_rfl, by kernel_rfl⟩)
theorem tok36 : TOk1 Go.Proofs.Tryz.prog 36 (tyt36) := TOk1.of (by kernel_rfl) (by kernel_rfl) (by kernel_rfl) (by kernel_rfl) (by kernel_rfl) (by kernel_rfl) (by kernel_rfl) (fun h => nomatch (show false = true from h)) (fun h => nomatch (show false = true from h))
theorem tok38 : TOk1 Go.Proofs.Tryz.prog 38 (tyt38) := TOk1.of (by kernel_rfl) (by kernel_rfl) (by kernel_rfl) (by kernel_rfl) (by kernel_rfl) (by kernel_rfl) (by kernel_rfl) (fun _ => by kernel_rfl) (fun h => nomatch (show false = true from h))
theorem tok40 : TOk1 Go.Proofs.Tryz.prog 40 (tyt40) := TOk1.of (by kernel_rfl) (by kernel_rfl) (by kernel_rfl) (by kernel_rfl) (by kernel_rfl) (by kernel_rfl) (by kernel_rfl) (fun _ => by kernel_rfl) (fun h => nomatch (show false = true from h))
theorem tok47 : TOk1 Go.Proofs.Tryz.prog 47 (tyt47) := TOk1.of (by kernel_rfl) (by kernel_rfl) (by kernel_rfl) (by kernel_rfl) (by kernel_rfl) (by kernel_rfl) (by kernel_rfl) (fun h => nomatch (show false = true from h)) (fun h => nomatch (show false = true from h))
theorem tok51 : TOk1 Go.Proofs.Tryz.prog 51 (tyt51) := TOk1.of (by kernel_rfl) (by kernel_rfl) (by kernel_rfl) (by kernel_rfl) (by kernel_rfl) (by kernel_rfl) (by kernel_rfl) (fun h => nomatch (show false = true from h)) (fun h => nomatch (show false = true from h))
theorem tok55 : TOk1 Go.Proofs.Tryz.prog 55 (tyt55) := TOk1.of (by kernel_rfl) (by kernel_rfl) (by kernel_rfl) (by kernel_rfl) (by kernel_rfl) (by kernel_rfl) (by kernel_rfl) (fun _ => by kernel_rfl) (fun _ => ⟨by kernel_rfl, by kernel_rfl, by kernel_rfl⟩)
theorem tok56 : TOk1 Go.Proofs.Tryz.prog 56 (tyt56) := TOk1.of (by kernel_rfl) (by kernel_rfl) (by kernel_rfl) (by kernel_rfl) (by kernel_rfl) (by kernel_rfl) (by kernel_rfl) (fun h => nomatch (show false = true from h)) (fun h => nomatch (show false = true from h))
theorem tok108 : TOk1 Go.Proofs.Tryz.prog 108 (tyt108) := TOk1.of (by kernel_rfl) (by kernel_rfl) (by kernel_rfl) (by kernel_rfl) (by kernel_rfl) (by kernel_rfl) (by kernel_rfl) (fun _ => by kernel_rfl) (fun _ => ⟨by kernel_rfl, by kernel_rfl, by kernel_rfl⟩)
theorem tok110 : TOk1 Go.Proofs.Tryz.prog 110 (tyt110) := TOk1.of (by kernel_rfl) (by kernel_rfl) (by kernel_rfl) (by kernel_rfl) (by kernel_rfl) (by kernel_rfl) (by kernel_rfl) (fun h => nomatch (show false = true from h)) (fun h => nomatch (show false = true from h))
theorem tok135 : TOk1 Go.Proofs.Tryz.prog 135 (tyt135) := TOk1.of (by kernel_rfl) (by kernel_rfl) (by kernel_rfl) (by kernel_rfl) (by kernel_rfl) (by kernel_rfl) (by kernel_rfl) (fun _ => by kernel_rfl) (fun _ => ⟨by kernel_rfl, by kernel_rfl, by kernel_rfl⟩)
theorem tok151 : TOk1 Go.Proofs.Tryz.prog 151 (tyt151) := TOk1.of (by kernel_rfl) (by kernel_rfl) (by kernel_rfl) (by kernel_rfl) (by kernel_rfl) (by kernel_rfl) (by kernel_rfl) (fun _ => by kernel_rfl) (fun _ => ⟨by kernel_rfl, by kernel_rfl, by kernel_rfl⟩)
theorem tok168 : TOk1 Go.Proofs.Tryz.prog 168 (tyt168) := TOk1.of (by kernel_rfl) (by kernel_rfl) (by kernel_rfl) (by kernel_rfl) (by kernel_rfl) (by kernel_rfl) (by kernel_rfl) (fun h => nomatch (show false = true from h)) (fun h => nomatch (show false = true from h))
theorem tyok : TOk Go.Proofs.Tryz.prog tyt := TOk.cons tok3 (TOk.cons tok4 (TOk.cons tok5 (TOk.cons tok9 (TOk.cons tok23 (TOk.cons tok27 (TOk.cons tok36 (TOk.cons tok38 (TOk.cons tok40 (TOk.cons tok47 (TOk.cons tok51 (TOk.cons tok55 (TOk.cons tok56 (TOk.cons tok108 (TOk.cons tok110 (TOk.cons tok135 (TOk.cons tok151 (TOk.cons tok168 (TOk.nil _))))))))))))))))))
/-! ### laws_szLog: function 9 -/
def laws_szLog.m (k : Nat) (a0_0 : ByteArray) (a0_1 : ByteArray) (a0_2 : Int) (a1 : Int) : Option (Int) := (if (w64 (a1 - (a0_0.size : Int))) < 0 then (some (-1)) else (if (w64 ((w64 (a1 - (a0_0.size : Int))) - (a0_1.size : Int))) < 0 then (some (-1)) else (some (w64 ((w64 (a1 - (a0_0.size : Int))) - (a0_1.size : Int))))))
def laws_szLog.f (k : Nat) (a0_0 : ByteArray) (a0_1 : ByteArray) (a0_2 : Int) (a1 : Int) : Option (Int) := laws_szLog.m k a0_0 a0_1 a0_2 a1
noncomputable def laws_szLog.spec (k : Nat) : FnSpec := ⟨[.ag [.d .str none, .d .str none, .d (.int .i64) none], .d (.int .i64) none], [.d (.int .i64) none], fun x => laws_szLog.f k x.1 x.2.1 x.2.2.1 x.2.2.2⟩
noncomputable def laws_szLog.T : FnText := ⟨(conv [] (bodyOf Go.Proofs.Tryz.f9) 0).1, Go.Proofs.Tryz.f9.results.toList, 20, [], [.ag [.d .str none, .d .str none, .d (.int .i64) none], .d (.int .i64) none], [.d (.int .i64) none]⟩
noncomputable def laws_szLog.tbl (k : Nat) : Tbl := []
theorem laws_szLog.e (k : Nat) (o : Nat → St → Option (Int)) (a0_0 : ByteArray) (a0_1 : ByteArray) (a0_2 : Int) (a1 : Int) : laws_szLog.T.main tyt (laws_szLog.tbl k) o (a0_0, a0_1, a0_2, a1) = laws_szLog.m k a0_0 a0_1 a0_2 a1 := by kernel_rfl
theorem laws_szLog.ok : laws_szLog.T.ok = true := by kernel_rfl
theorem laws_szLog.tblok (k : Nat) : TblOk Go.Proofs.Tryz.prog (laws_szLog.tbl k) := TblOk.nil _
theorem laws_szLog.sound (k : Nat) : Sound Go.Proofs.Tryz.prog 9 (laws_szLog.spec k) := by
  have h := fn_ok (F := laws_szLog.T) (tbl := laws_szLog.tbl) mixed tyok Go.Proofs.Tryz.func9 (by kernel_rfl) (c0 := bodyOf Go.Proofs.Tryz.f9) rfl (conv_code _ _ _) rfl rfl laws_szLog.ok k (fun j _ => laws_szLog.tblok j)
  have e : laws_szLog.spec k = ⟨laws_szLog.T.ps, laws_szLog.T.rs, laws_szLog.T.ev tyt laws_szLog.tbl k⟩ := congrArg (FnSpec.mk _ _) (funext fun x => ((laws_szLog.e k (laws_szLog.T.run tyt laws_szLog.tbl k) x.1 x.2.1 x.2.2.1 x.2.2.2).trans (by rfl)).symm)
  rw [e]
  exact h
/-! ### laws_toLog: function 11 -/
def laws_toLog.m (k : Nat) (a0_0 : ByteArray) (a0_1 : ByteArray) (a0_2 : Int) : Option (ByteArray × ByteArray × Int) := (some (a0_0, a0_1, a0_2))
def laws_toLog.f (k : Nat) (a0_0 : ByteArray) (a0_1 : ByteArray) (a0_2 : Int) : Option (ByteArray × ByteArray × Int) := laws_toLog.m k a0_0 a0_1 a0_2
noncomputable def laws_toLog.spec (k : Nat) : FnSpec := ⟨[.ag [.d .str none, .d .str none, .d (.int .i64) none]], [.ag [.d .str none, .d .str none, .d (.int .i64) none]], fun x => laws_toLog.f k x.1 x.2.1 x.2.2⟩
noncomputable def laws_toLog.T : FnText := ⟨(conv [] (bodyOf Go.Proofs.Tryz.f11) 0).1, Go.Proofs.Tryz.f11.results.toList, 14, [], [.ag [.d .str none, .d .str none, .d (.int .i64) none]], [.ag [.d .str none, .d .str none, .d (.int .i64) none]]⟩
noncomputable def laws_toLog.tbl (k : Nat) : Tbl := []
theorem laws_toLog.e (k : Nat) (o : Nat → St → Option (ByteArray × ByteArray × Int)) (a0_0 : ByteArray) (a0_1 : ByteArray) (a0_2 : Int) : laws_toLog.T.main tyt (laws_toLog.tbl k) o (a0_0, a0_1, a0_2) = laws_toLog.m k a0_0 a0_1 a0_2 := by kernel_rfl
theorem laws_toLog.ok : laws_toLog.T.ok = true := by kernel_rfl
theorem laws_toLog.tblok (k : Nat) : TblOk Go.Proofs.Tryz.prog (laws_toLog.tbl k) := TblOk.nil _
theorem laws_toLog.sound (k : Nat) : Sound Go.Proofs.Tryz.prog 11 (laws_toLog.spec k) := by
  have h := fn_ok (F := laws_toLog.T) (tbl := laws_toLog.tbl) mixed tyok Go.Proofs.Tryz.func11 (by kernel_rfl) (c0 := bodyOf Go.Proofs.Tryz.f11) rfl (conv_code _ _ _) rfl rfl laws_toLog.ok k (fun j _ => laws_toLog.tblok j)
  have e : laws_toLog.spec k = ⟨laws_toLog.T.ps, laws_toLog.T.rs, laws_toLog.T.ev tyt laws_toLog.tbl k⟩ := congrArg (FnSpec.mk _ _) (funext fun x => ((laws_toLog.e k (laws_toLog.T.run tyt laws_toLog.tbl k) x.1 x.2.1 x.2.2).trans (by rfl)).symm)
  rw [e]
  exact h
/-! ### spec_l1In: function 118 -/
def spec_l1In.m (k : Nat) (a0 : Int) (a1 : Int) (a2 : Int) : Option (Bool) := (if a1 ≤ a0 then (some (decide (a0 ≤ a2))) else (some false))
def spec_l1In.f (k : Nat) (a0 : Int) (a1 : Int) (a2 : Int) : Option (Bool) := spec_l1In.m k a0 a1 a2
noncomputable def spec_l1In.spec (k : Nat) : FnSpec := ⟨[.d (.int .i64) none, .d (.int .i64) none, .d (.int .i64) none], [.d .bool none], fun x => spec_l1In.f k x.1 x.2.1 x.2.2⟩
noncomputable def spec_l1In.T : FnText := ⟨(conv [] (bodyOf Go.Proofs.Tryz.f118) 0).1, Go.Proofs.Tryz.f118.results.toList, 15, [], [.d (.int .i64) none, .d (.int .i64) none, .d (.int .i64) none], [.d .bool none]⟩
noncomputable def spec_l1In.tbl (k : Nat) : Tbl := []
theorem spec_l1In.e (k : Nat) (o : Nat → St → Option (Bool)) (a0 : Int) (a1 : Int) (a2 : Int) : spec_l1In.T.main tyt (spec_l1In.tbl k) o (a0, a1, a2) = spec_l1In.m k a0 a1 a2 := by kernel_rfl
theorem spec_l1In.ok : spec_l1In.T.ok = true := by kernel_rfl
theorem spec_l1In.tblok (k : Nat) : TblOk Go.Proofs.Tryz.prog (spec_l1In.tbl k) := TblOk.nil _
theorem spec_l1In.sound (k : Nat) : Sound Go.Proofs.Tryz.prog 118 (spec_l1In.spec k) := by
  have h := fn_ok (F := spec_l1In.T) (tbl := spec_l1In.tbl) mixed tyok Go.Proofs.Tryz.func118 (by kernel_rfl) (c0 := bodyOf Go.Proofs.Tryz.f118) rfl (conv_code _ _ _) rfl rfl spec_l1In.ok k (fun j _ => spec_l1In.tblok j)
  have e : spec_l1In.spec k = ⟨spec_l1In.T.ps, spec_l1In.T.rs, spec_l1In.T.ev tyt spec_l1In.tbl k⟩ := congrArg (FnSpec.mk _ _) (funext fun x => ((spec_l1In.e k (spec_l1In.T.run tyt spec_l1In.tbl k) x.1 x.2.1 x.2.2).trans (by rfl)).symm)
  rw [e]
  exact h
/-! ### spec_NewShop: function 78 -/
def spec_NewShop.m (k : Nat) (a0 : Int) : Option (Int × Int × List (Int × Int × Int × Int × Int) × Int × Bool) := ((spec_l1In.f k a0 1 4).bind fun r1 => (cond (!r1) (some (0, 0, [], 0, false)) (some (0, a0, ([] : List (Int × Int × Int × Int × Int)), 0, true))))
def spec_NewShop.f (k : Nat) (a0 : Int) : Option (Int × Int × List (Int × Int × Int × Int × Int) × Int × Bool) := spec_NewShop.m k a0
noncomputable def spec_NewShop.spec (k : Nat) : FnSpec := ⟨[.d (.int .i64) none], [.ag [.d (.int .i64) none, .d (.int .i64) none, .d (.sl (.pair (.int .i64) (.pair (.int .i64) (.pair (.int .i64) (.pair (.int .i64) (.int .i64)))))) (some 108), .d (.int .i64) none], .d .bool none], fun x => spec_NewShop.f k x⟩
noncomputable def spec_NewShop.T : FnText := ⟨(conv [] (bodyOf Go.Proofs.Tryz.f78) 0).1, Go.Proofs.Tryz.f78.results.toList, 11, [], [.d (.int .i64) none], [.ag [.d (.int .i64) none, .d (.int .i64) none, .d (.sl (.pair (.int .i64) (.pair (.int .i64) (.pair (.int .i64) (.pair (.int .i64) (.int .i64)))))) (some 108), .d (.int .i64) none], .d .bool none]⟩
noncomputable def spec_NewShop.tbl (k : Nat) : Tbl := [(118, spec_l1In.spec k)]
theorem spec_NewShop.e (k : Nat) (o : Nat → St → Option (Int × Int × List (Int × Int × Int × Int × Int) × Int × Bool)) (a0 : Int) : spec_NewShop.T.main tyt (spec_NewShop.tbl k) o a0 = spec_NewShop.m k a0 := by kernel_rfl
theorem spec_NewShop.ok : spec_NewShop.T.ok = true := by kernel_rfl
theorem spec_NewShop.tblok (k : Nat) : TblOk Go.Proofs.Tryz.prog (spec_NewShop.tbl k) := TblOk.cons (spec_l1In.sound k) (TblOk.nil _)
theorem spec_NewShop.sound (k : Nat) : Sound Go.Proofs.Tryz.prog 78 (spec_NewShop.spec k) := by
  have h := fn_ok (F := spec_NewShop.T) (tbl := spec_NewShop.tbl) mixed tyok Go.Proofs.Tryz.func78 (by kernel_rfl) (c0 := bodyOf Go.Proofs.Tryz.f78) rfl (conv_code _ _ _) rfl rfl spec_NewShop.ok k (fun j _ => spec_NewShop.tblok j)
  have e : spec_NewShop.spec k = ⟨spec_NewShop.T.ps, spec_NewShop.T.rs, spec_NewShop.T.ev tyt spec_NewShop.tbl k⟩ := congrArg (FnSpec.mk _ _) (funext fun x => ((spec_NewShop.e k (spec_NewShop.T.run tyt spec_NewShop.tbl k) x).trans (by rfl)).symm)
  rw [e]
  exact h
/-! ### spec_NewConsole: function 37 -/
def spec_NewConsole.m (k : Nat) (a0 : Int) : Option (Int × Int × List (Int × Int × Int × Int × Int) × Int × ByteArray × ByteArray × Int × Bool) := ((spec_NewShop.f k a0).bind fun r1 => (cond (!r1.2.2.2.2) (some (0, 0, [], 0, ByteArray.empty, ByteArray.empty, 0, false)) (some (r1.1, r1.2.1, r1.2.2.1, r1.2.2.2.1, ByteArray.empty, ByteArray.empty, 0, true))))
def spec_NewConsole.f (k : Nat) (a0 : Int) : Option (Int × Int × List (Int × Int × Int × Int × Int) × Int × ByteArray × ByteArray × Int × Bool) := spec_NewConsole.m k a0
noncomputable def spec_NewConsole.spec (k : Nat) : FnSpec := ⟨[.d (.int .i64) none], [.ag [.d (.int .i64) none, .d (.int .i64) none, .d (.sl (.pair (.int .i64) (.pair (.int .i64) (.pair (.int .i64) (.pair (.int .i64) (.int .i64)))))) (some 108), .d (.int .i64) none, .d .str none, .d .str none, .d (.int .i64) none], .d .bool none], fun x => spec_NewConsole.f k x⟩
noncomputable def spec_NewConsole.T : FnText := ⟨(conv [] (bodyOf Go.Proofs.Tryz.f37) 0).1, Go.Proofs.Tryz.f37.results.toList, 16, [], [.d (.int .i64) none], [.ag [.d (.int .i64) none, .d (.int .i64) none, .d (.sl (.pair (.int .i64) (.pair (.int .i64) (.pair (.int .i64) (.pair (.int .i64) (.int .i64)))))) (some 108), .d (.int .i64) none, .d .str none, .d .str none, .d (.int .i64) none], .d .bool none]⟩
noncomputable def spec_NewConsole.tbl (k : Nat) : Tbl := [(78, spec_NewShop.spec k)]
theorem spec_NewConsole.e (k : Nat) (o : Nat → St → Option (Int × Int × List (Int × Int × Int × Int × Int) × Int × ByteArray × ByteArray × Int × Bool)) (a0 : Int) : spec_NewConsole.T.main tyt (spec_NewConsole.tbl k) o a0 = spec_NewConsole.m k a0 := by kernel_rfl
theorem spec_NewConsole.ok : spec_NewConsole.T.ok = true := by kernel_rfl
theorem spec_NewConsole.tblok (k : Nat) : TblOk Go.Proofs.Tryz.prog (spec_NewConsole.tbl k) := TblOk.cons (spec_NewShop.sound k) (TblOk.nil _)
theorem spec_NewConsole.sound (k : Nat) : Sound Go.Proofs.Tryz.prog 37 (spec_NewConsole.spec k) := by
  have h := fn_ok (F := spec_NewConsole.T) (tbl := spec_NewConsole.tbl) mixed tyok Go.Proofs.Tryz.func37 (by kernel_rfl) (c0 := bodyOf Go.Proofs.Tryz.f37) rfl (conv_code _ _ _) rfl rfl spec_NewConsole.ok k (fun j _ => spec_NewConsole.tblok j)
  have e : spec_NewConsole.spec k = ⟨spec_NewConsole.T.ps, spec_NewConsole.T.rs, spec_NewConsole.T.ev tyt spec_NewConsole.tbl k⟩ := congrArg (FnSpec.mk _ _) (funext fun x => ((spec_NewConsole.e k (spec_NewConsole.T.run tyt spec_NewConsole.tbl k) x).trans (by rfl)).symm)
  rw [e]
  exact h
/-! ### spec_l1Split: function 66 -/
def spec_l1Split.b5 (o5 : ByteArray → Int → List ByteArray → Int → Int → Option (List ByteArray)) (k : Nat) (x0_5 : ByteArray) (x1_5 : Int) (l2_5 : List ByteArray) (x3_5 : Int) (x4_5 : Int) : Option (List ByteArray) := (if x4_5 < (x0_5.size : Int) then ((chk x0_5.size x4_5).bind fun i1 => (if (byteAt x0_5 i1) = x1_5 then ((cut x0_5.size x3_5 x4_5).bind fun c2 => ((app 8796093022208 l2_5 [(x0_5.extract c2.1 (c2.1 + c2.2))]).bind fun l3 => (o5 x0_5 x1_5 l3 (w64 (x4_5 + 1)) (w64 (x4_5 + 1))))) else (o5 x0_5 x1_5 l2_5 x3_5 (w64 (x4_5 + 1))))) else ((cut x0_5.size x3_5 (x0_5.size : Int)).bind fun c4 => ((app 8796093022208 l2_5 [(x0_5.extract c4.1 (c4.1 + c4.2))]).bind fun l5 => (some l5))))
def spec_l1Split.l5 : Nat → ByteArray → Int → List ByteArray → Int → Int → Option (List ByteArray)
  | 0, _, _, _, _, _ => none
  | k + 1, x0_5, x1_5, l2_5, x3_5, x4_5 => spec_l1Split.b5 (spec_l1Split.l5 k) k x0_5 x1_5 l2_5 x3_5 x4_5
def spec_l1Split.m (o5 : ByteArray → Int → List ByteArray → Int → Int → Option (List ByteArray)) (k : Nat) (a0 : ByteArray) (a1 : Int) : Option (List ByteArray) := (o5 a0 a1 ([] : List (ByteArray)) 0 0)
def spec_l1Split.f (k : Nat) (a0 : ByteArray) (a1 : Int) : Option (List ByteArray) := spec_l1Split.m (spec_l1Split.l5 k) k a0 a1
noncomputable def spec_l1Split.spec (k : Nat) : FnSpec := ⟨[.d .str none, .d (.int .u8) none], [.d (.sl .str) (some 9)], fun x => spec_l1Split.f k x.1 x.2⟩
def spec_l1Split.S5 (x0_5 : ByteArray) (x1_5 : Int) (l2_5 : List ByteArray) (x3_5 : Int) (x4_5 : Int) : St := ⟨[(0, .val .str x0_5), (1, .val (.int .u8) x1_5), (5, .ref 100), (6, .val (.int .i64) x3_5), (7, .val (.int .i64) x4_5)], [(100, some (.row 9 .str l2_5))], 1000⟩
noncomputable def spec_l1Split.T : FnText := ⟨(conv [] (bodyOf Go.Proofs.Tryz.f66) 0).1, Go.Proofs.Tryz.f66.results.toList, 35, [(5, [(0, .rd .str), (1, .rd (.int .u8)), (5, .own 9 .str 100), (6, .rd (.int .i64)), (7, .rd (.int .i64))])], [.d .str none, .d (.int .u8) none], [.d (.sl .str) (some 9)]⟩
noncomputable def spec_l1Split.tbl (k : Nat) : Tbl := []
theorem spec_l1Split.e5 (k : Nat) (o : Nat → St → Option (List ByteArray)) (x0_5 : ByteArray) (x1_5 : Int) (l2_5 : List ByteArray) (x3_5 : Int) (x4_5 : Int) : spec_l1Split.T.step tyt (spec_l1Split.tbl k) o 5 (spec_l1Split.S5 x0_5 x1_5 l2_5 x3_5 x4_5) = spec_l1Split.b5 (fun x0_5 x1_5 l2_5 x3_5 x4_5 => o 5 (spec_l1Split.S5 x0_5 x1_5 l2_5 x3_5 x4_5)) k x0_5 x1_5 l2_5 x3_5 x4_5 := by kernel_rfl
theorem spec_l1Split.e (k : Nat) (o : Nat → St → Option (List ByteArray)) (a0 : ByteArray) (a1 : Int) : spec_l1Split.T.main tyt (spec_l1Split.tbl k) o (a0, a1) = spec_l1Split.m (fun x0_5 x1_5 l2_5 x3_5 x4_5 => o 5 (spec_l1Split.S5 x0_5 x1_5 l2_5 x3_5 x4_5)) k a0 a1 := by kernel_rfl
theorem spec_l1Split.ok : spec_l1Split.T.ok = true := by kernel_rfl
theorem spec_l1Split.run (k : Nat) : (∀ (x0_5 : ByteArray) (x1_5 : Int) (l2_5 : List ByteArray) (x3_5 : Int) (x4_5 : Int), spec_l1Split.T.run tyt spec_l1Split.tbl k 5 (spec_l1Split.S5 x0_5 x1_5 l2_5 x3_5 x4_5) = spec_l1Split.l5 k x0_5 x1_5 l2_5 x3_5 x4_5) := by
  induction k with
  | zero => exact fun x0_5 x1_5 l2_5 x3_5 x4_5 => rfl
  | succ k ih =>
    exact fun x0_5 x1_5 l2_5 x3_5 x4_5 => by
      have q5 : (fun x0_5 x1_5 l2_5 x3_5 x4_5 => spec_l1Split.T.run tyt spec_l1Split.tbl k 5 (spec_l1Split.S5 x0_5 x1_5 l2_5 x3_5 x4_5)) = spec_l1Split.l5 k := by funext x0_5 x1_5 l2_5 x3_5 x4_5; exact ih x0_5 x1_5 l2_5 x3_5 x4_5
      exact (spec_l1Split.e5 k (spec_l1Split.T.run tyt spec_l1Split.tbl k) x0_5 x1_5 l2_5 x3_5 x4_5).trans (by rw [q5]; rfl)
theorem spec_l1Split.tblok (k : Nat) : TblOk Go.Proofs.Tryz.prog (spec_l1Split.tbl k) := TblOk.nil _
theorem spec_l1Split.sound (k : Nat) : Sound Go.Proofs.Tryz.prog 66 (spec_l1Split.spec k) := by
  have h := fn_ok (F := spec_l1Split.T) (tbl := spec_l1Split.tbl) mixed tyok Go.Proofs.Tryz.func66 (by kernel_rfl) (c0 := bodyOf Go.Proofs.Tryz.f66) rfl (conv_code _ _ _) rfl rfl spec_l1Split.ok k (fun j _ => spec_l1Split.tblok j)
  have q5 : (fun x0_5 x1_5 l2_5 x3_5 x4_5 => spec_l1Split.T.run tyt spec_l1Split.tbl k 5 (spec_l1Split.S5 x0_5 x1_5 l2_5 x3_5 x4_5)) = spec_l1Split.l5 k := by funext x0_5 x1_5 l2_5 x3_5 x4_5; exact (spec_l1Split.run k) x0_5 x1_5 l2_5 x3_5 x4_5
  have e : spec_l1Split.spec k = ⟨spec_l1Split.T.ps, spec_l1Split.T.rs, spec_l1Split.T.ev tyt spec_l1Split.tbl k⟩ := congrArg (FnSpec.mk _ _) (funext fun x => ((spec_l1Split.e k (spec_l1Split.T.run tyt spec_l1Split.tbl k) x.1 x.2).trans (by rw [q5]; rfl)).symm)
  rw [e]
  exact h
/-! ### spec_l1Num: function 73, that calls itself -/
def spec_l1Num.m (self : Int → Option (ByteArray)) (k : Nat) (a0 : Int) : Option (ByteArray) := (if a0 < 0 then ((self (w64 (0 - a0))).bind fun r1 => ((catS (⟨#[45]⟩ : ByteArray) r1).bind fun s2 => (some s2))) else (if a0 < 10 then ((cut ((⟨#[48, 49, 50, 51, 52, 53, 54, 55, 56, 57]⟩ : ByteArray).size) a0 (w64 (a0 + 1))).bind fun c3 => (some ((⟨#[48, 49, 50, 51, 52, 53, 54, 55, 56, 57]⟩ : ByteArray).extract c3.1 (c3.1 + c3.2)))) else ((quo .i64 a0 10).bind fun q4 => ((self q4).bind fun r5 => ((rem a0 10).bind fun q6 => ((rem a0 10).bind fun q7 => ((cut ((⟨#[48, 49, 50, 51, 52, 53, 54, 55, 56, 57]⟩ : ByteArray).size) q6 (w64 (q7 + 1))).bind fun c8 => ((catS r5 ((⟨#[48, 49, 50, 51, 52, 53, 54, 55, 56, 57]⟩ : ByteArray).extract c8.1 (c8.1 + c8.2))).bind fun s9 => (some s9)))))))))
def spec_l1Num.f : Nat → Int → Option (ByteArray)
  | 0, _ => none
  | k + 1, a0 => spec_l1Num.m (spec_l1Num.f k) (k + 1) a0
noncomputable def spec_l1Num.spec (k : Nat) : FnSpec := ⟨[.d (.int .i64) none], [.d .str none], fun x => spec_l1Num.f k x⟩
noncomputable def spec_l1Num.T : FnText := ⟨(conv [] (bodyOf Go.Proofs.Tryz.f73) 0).1, Go.Proofs.Tryz.f73.results.toList, 25, [], [.d (.int .i64) none], [.d .str none]⟩
noncomputable def spec_l1Num.tbl (k0 k : Nat) : Tbl := [(73, spec_l1Num.spec k0)]
theorem spec_l1Num.e (k0 k : Nat) (o : Nat → St → Option (ByteArray)) (a0 : Int) : spec_l1Num.T.main tyt (spec_l1Num.tbl k0 k) o a0 = spec_l1Num.m (spec_l1Num.f k0) k a0 := by kernel_rfl
theorem spec_l1Num.ok : spec_l1Num.T.ok = true := by kernel_rfl
theorem spec_l1Num.tblok (k0 k : Nat) (hs : Sound Go.Proofs.Tryz.prog 73 (spec_l1Num.spec k0)) : TblOk Go.Proofs.Tryz.prog (spec_l1Num.tbl k0 k) := TblOk.cons hs (TblOk.nil _)
theorem spec_l1Num.sound (k : Nat) : Sound Go.Proofs.Tryz.prog 73 (spec_l1Num.spec k) := by
  induction k with
  | zero => exact ⟨fun args w => enters_fn Go.Proofs.Tryz.func73 (by kernel_rfl) rfl args w, fun x r hx => nomatch (show none = some r from hx)⟩
  | succ k0 ih =>
  have h := fn_ok (F := spec_l1Num.T) (tbl := spec_l1Num.tbl k0) mixed tyok Go.Proofs.Tryz.func73 (by kernel_rfl) (c0 := bodyOf Go.Proofs.Tryz.f73) rfl (conv_code _ _ _) rfl rfl spec_l1Num.ok (k0 + 1) (fun j _ => spec_l1Num.tblok k0 j ih)
  have e : spec_l1Num.spec (k0 + 1) = ⟨spec_l1Num.T.ps, spec_l1Num.T.rs, spec_l1Num.T.ev tyt (spec_l1Num.tbl k0) (k0 + 1)⟩ := congrArg (FnSpec.mk _ _) (funext fun x => ((spec_l1Num.e k0 (k0 + 1) (spec_l1Num.T.run tyt (spec_l1Num.tbl k0) (k0 + 1)) x).trans (by rfl)).symm)
  rw [e]
  exact h
/-! ### spec_l27Plain: function 85 -/
def spec_l27Plain.b3 (o3 : ByteArray → Int → Int → Option (Bool)) (k : Nat) (x0_3 : ByteArray) (x1_3 : Int) (x2_3 : Int) : Option (Bool) := (if x2_3 < (x0_3.size : Int) then ((chk x0_3.size x2_3).bind fun i1 => ((spec_l1In.f k (w64 ((byteAt x0_3 i1))) 32 126).bind fun r2 => (cond (!r2) (some false) ((chk x0_3.size x2_3).bind fun i3 => (if (byteAt x0_3 i3) = 35 then (some false) else (o3 x0_3 x1_3 (w64 (x2_3 + 1)))))))) else (some (decide ((x0_3.size : Int) ≤ x1_3))))
def spec_l27Plain.l3 : Nat → ByteArray → Int → Int → Option (Bool)
  | 0, _, _, _ => none
  | k + 1, x0_3, x1_3, x2_3 => spec_l27Plain.b3 (spec_l27Plain.l3 k) k x0_3 x1_3 x2_3
def spec_l27Plain.m (o3 : ByteArray → Int → Int → Option (Bool)) (k : Nat) (a0 : ByteArray) (a1 : Int) : Option (Bool) := (o3 a0 a1 0)
def spec_l27Plain.f (k : Nat) (a0 : ByteArray) (a1 : Int) : Option (Bool) := spec_l27Plain.m (spec_l27Plain.l3 k) k a0 a1
noncomputable def spec_l27Plain.spec (k : Nat) : FnSpec := ⟨[.d .str none, .d (.int .i64) none], [.d .bool none], fun x => spec_l27Plain.f k x.1 x.2⟩
def spec_l27Plain.S3 (x0_3 : ByteArray) (x1_3 : Int) (x2_3 : Int) : St := ⟨[(0, .val .str x0_3), (1, .val (.int .i64) x1_3), (5, .val (.int .i64) x2_3)], [], 1000⟩
noncomputable def spec_l27Plain.T : FnText := ⟨(conv [] (bodyOf Go.Proofs.Tryz.f85) 0).1, Go.Proofs.Tryz.f85.results.toList, 28, [(3, [(0, .rd .str), (1, .rd (.int .i64)), (5, .rd (.int .i64))])], [.d .str none, .d (.int .i64) none], [.d .bool none]⟩
noncomputable def spec_l27Plain.tbl (k : Nat) : Tbl := [(118, spec_l1In.spec k)]
theorem spec_l27Plain.e3 (k : Nat) (o : Nat → St → Option (Bool)) (x0_3 : ByteArray) (x1_3 : Int) (x2_3 : Int) : spec_l27Plain.T.step tyt (spec_l27Plain.tbl k) o 3 (spec_l27Plain.S3 x0_3 x1_3 x2_3) = spec_l27Plain.b3 (fun x0_3 x1_3 x2_3 => o 3 (spec_l27Plain.S3 x0_3 x1_3 x2_3)) k x0_3 x1_3 x2_3 := by kernel_rfl
theorem spec_l27Plain.e (k : Nat) (o : Nat → St → Option (Bool)) (a0 : ByteArray) (a1 : Int) : spec_l27Plain.T.main tyt (spec_l27Plain.tbl k) o (a0, a1) = spec_l27Plain.m (fun x0_3 x1_3 x2_3 => o 3 (spec_l27Plain.S3 x0_3 x1_3 x2_3)) k a0 a1 := by kernel_rfl
theorem spec_l27Plain.ok : spec_l27Plain.T.ok = true := by kernel_rfl
theorem spec_l27Plain.run (k : Nat) : (∀ (x0_3 : ByteArray) (x1_3 : Int) (x2_3 : Int), spec_l27Plain.T.run tyt spec_l27Plain.tbl k 3 (spec_l27Plain.S3 x0_3 x1_3 x2_3) = spec_l27Plain.l3 k x0_3 x1_3 x2_3) := by
  induction k with
  | zero => exact fun x0_3 x1_3 x2_3 => rfl
  | succ k ih =>
    exact fun x0_3 x1_3 x2_3 => by
      have q3 : (fun x0_3 x1_3 x2_3 => spec_l27Plain.T.run tyt spec_l27Plain.tbl k 3 (spec_l27Plain.S3 x0_3 x1_3 x2_3)) = spec_l27Plain.l3 k := by funext x0_3 x1_3 x2_3; exact ih x0_3 x1_3 x2_3
      exact (spec_l27Plain.e3 k (spec_l27Plain.T.run tyt spec_l27Plain.tbl k) x0_3 x1_3 x2_3).trans (by rw [q3]; rfl)
theorem spec_l27Plain.tblok (k : Nat) : TblOk Go.Proofs.Tryz.prog (spec_l27Plain.tbl k) := TblOk.cons (spec_l1In.sound k) (TblOk.nil _)
theorem spec_l27Plain.sound (k : Nat) : Sound Go.Proofs.Tryz.prog 85 (spec_l27Plain.spec k) := by
  have h := fn_ok (F := spec_l27Plain.T) (tbl := spec_l27Plain.tbl) mixed tyok Go.Proofs.Tryz.func85 (by kernel_rfl) (c0 := bodyOf Go.Proofs.Tryz.f85) rfl (conv_code _ _ _) rfl rfl spec_l27Plain.ok k (fun j _ => spec_l27Plain.tblok j)
  have q3 : (fun x0_3 x1_3 x2_3 => spec_l27Plain.T.run tyt spec_l27Plain.tbl k 3 (spec_l27Plain.S3 x0_3 x1_3 x2_3)) = spec_l27Plain.l3 k := by funext x0_3 x1_3 x2_3; exact (spec_l27Plain.run k) x0_3 x1_3 x2_3
  have e : spec_l27Plain.spec k = ⟨spec_l27Plain.T.ps, spec_l27Plain.T.rs, spec_l27Plain.T.ev tyt spec_l27Plain.tbl k⟩ := congrArg (FnSpec.mk _ _) (funext fun x => ((spec_l27Plain.e k (spec_l27Plain.T.run tyt spec_l27Plain.tbl k) x.1 x.2).trans (by rw [q3]; rfl)).symm)
  rw [e]
  exact h
/-! ### spec_l1Stands: function 86 -/
def spec_l1Stands.b3 (o3 : ByteArray → Int → Int → Option (Bool)) (k : Nat) (x0_3 : ByteArray) (x1_3 : Int) (x2_3 : Int) : Option (Bool) := (if x2_3 < (x0_3.size : Int) then ((chk x0_3.size x2_3).bind fun i1 => (if (byteAt x0_3 i1) = x1_3 then (some true) else (o3 x0_3 x1_3 (w64 (x2_3 + 1))))) else (some false))
def spec_l1Stands.l3 : Nat → ByteArray → Int → Int → Option (Bool)
  | 0, _, _, _ => none
  | k + 1, x0_3, x1_3, x2_3 => spec_l1Stands.b3 (spec_l1Stands.l3 k) k x0_3 x1_3 x2_3
def spec_l1Stands.m (o3 : ByteArray → Int → Int → Option (Bool)) (k : Nat) (a0 : ByteArray) (a1 : Int) : Option (Bool) := (o3 a0 a1 0)
def spec_l1Stands.f (k : Nat) (a0 : ByteArray) (a1 : Int) : Option (Bool) := spec_l1Stands.m (spec_l1Stands.l3 k) k a0 a1
noncomputable def spec_l1Stands.spec (k : Nat) : FnSpec := ⟨[.d .str none, .d (.int .u8) none], [.d .bool none], fun x => spec_l1Stands.f k x.1 x.2⟩
def spec_l1Stands.S3 (x0_3 : ByteArray) (x1_3 : Int) (x2_3 : Int) : St := ⟨[(0, .val .str x0_3), (1, .val (.int .u8) x1_3), (5, .val (.int .i64) x2_3)], [], 1000⟩
noncomputable def spec_l1Stands.T : FnText := ⟨(conv [] (bodyOf Go.Proofs.Tryz.f86) 0).1, Go.Proofs.Tryz.f86.results.toList, 17, [(3, [(0, .rd .str), (1, .rd (.int .u8)), (5, .rd (.int .i64))])], [.d .str none, .d (.int .u8) none], [.d .bool none]⟩
noncomputable def spec_l1Stands.tbl (k : Nat) : Tbl := []
theorem spec_l1Stands.e3 (k : Nat) (o : Nat → St → Option (Bool)) (x0_3 : ByteArray) (x1_3 : Int) (x2_3 : Int) : spec_l1Stands.T.step tyt (spec_l1Stands.tbl k) o 3 (spec_l1Stands.S3 x0_3 x1_3 x2_3) = spec_l1Stands.b3 (fun x0_3 x1_3 x2_3 => o 3 (spec_l1Stands.S3 x0_3 x1_3 x2_3)) k x0_3 x1_3 x2_3 := by kernel_rfl
theorem spec_l1Stands.e (k : Nat) (o : Nat → St → Option (Bool)) (a0 : ByteArray) (a1 : Int) : spec_l1Stands.T.main tyt (spec_l1Stands.tbl k) o (a0, a1) = spec_l1Stands.m (fun x0_3 x1_3 x2_3 => o 3 (spec_l1Stands.S3 x0_3 x1_3 x2_3)) k a0 a1 := by kernel_rfl
theorem spec_l1Stands.ok : spec_l1Stands.T.ok = true := by kernel_rfl
theorem spec_l1Stands.run (k : Nat) : (∀ (x0_3 : ByteArray) (x1_3 : Int) (x2_3 : Int), spec_l1Stands.T.run tyt spec_l1Stands.tbl k 3 (spec_l1Stands.S3 x0_3 x1_3 x2_3) = spec_l1Stands.l3 k x0_3 x1_3 x2_3) := by
  induction k with
  | zero => exact fun x0_3 x1_3 x2_3 => rfl
  | succ k ih =>
    exact fun x0_3 x1_3 x2_3 => by
      have q3 : (fun x0_3 x1_3 x2_3 => spec_l1Stands.T.run tyt spec_l1Stands.tbl k 3 (spec_l1Stands.S3 x0_3 x1_3 x2_3)) = spec_l1Stands.l3 k := by funext x0_3 x1_3 x2_3; exact ih x0_3 x1_3 x2_3
      exact (spec_l1Stands.e3 k (spec_l1Stands.T.run tyt spec_l1Stands.tbl k) x0_3 x1_3 x2_3).trans (by rw [q3]; rfl)
theorem spec_l1Stands.tblok (k : Nat) : TblOk Go.Proofs.Tryz.prog (spec_l1Stands.tbl k) := TblOk.nil _
theorem spec_l1Stands.sound (k : Nat) : Sound Go.Proofs.Tryz.prog 86 (spec_l1Stands.spec k) := by
  have h := fn_ok (F := spec_l1Stands.T) (tbl := spec_l1Stands.tbl) mixed tyok Go.Proofs.Tryz.func86 (by kernel_rfl) (c0 := bodyOf Go.Proofs.Tryz.f86) rfl (conv_code _ _ _) rfl rfl spec_l1Stands.ok k (fun j _ => spec_l1Stands.tblok j)
  have q3 : (fun x0_3 x1_3 x2_3 => spec_l1Stands.T.run tyt spec_l1Stands.tbl k 3 (spec_l1Stands.S3 x0_3 x1_3 x2_3)) = spec_l1Stands.l3 k := by funext x0_3 x1_3 x2_3; exact (spec_l1Stands.run k) x0_3 x1_3 x2_3
  have e : spec_l1Stands.spec k = ⟨spec_l1Stands.T.ps, spec_l1Stands.T.rs, spec_l1Stands.T.ev tyt spec_l1Stands.tbl k⟩ := congrArg (FnSpec.mk _ _) (funext fun x => ((spec_l1Stands.e k (spec_l1Stands.T.run tyt spec_l1Stands.tbl k) x.1 x.2).trans (by rw [q3]; rfl)).symm)
  rw [e]
  exact h
/-! ### spec_l27Good: function 45 -/
def spec_l27Good.m (k : Nat) (a0_0 : ByteArray) (a0_1 : ByteArray) : Option (Bool) := (if ¬ a0_0 = (⟨#[]⟩ : ByteArray) then ((spec_l27Plain.f k a0_0 160).bind fun r1 => (cond r1 ((spec_l1Stands.f k a0_0 64).bind fun r2 => (cond (!r2) ((spec_l27Plain.f k a0_1 200).bind fun r3 => (some r3)) (some false))) (some false))) else (some false))
def spec_l27Good.f (k : Nat) (a0_0 : ByteArray) (a0_1 : ByteArray) : Option (Bool) := spec_l27Good.m k a0_0 a0_1
noncomputable def spec_l27Good.spec (k : Nat) : FnSpec := ⟨[.ag [.d .str none, .d .str none]], [.d .bool none], fun x => spec_l27Good.f k x.1 x.2⟩
noncomputable def spec_l27Good.T : FnText := ⟨(conv [] (bodyOf Go.Proofs.Tryz.f45) 0).1, Go.Proofs.Tryz.f45.results.toList, 22, [], [.ag [.d .str none, .d .str none]], [.d .bool none]⟩
noncomputable def spec_l27Good.tbl (k : Nat) : Tbl := [(85, spec_l27Plain.spec k), (86, spec_l1Stands.spec k)]
theorem spec_l27Good.e (k : Nat) (o : Nat → St → Option (Bool)) (a0_0 : ByteArray) (a0_1 : ByteArray) : spec_l27Good.T.main tyt (spec_l27Good.tbl k) o (a0_0, a0_1) = spec_l27Good.m k a0_0 a0_1 := by kernel_rfl
theorem spec_l27Good.ok : spec_l27Good.T.ok = true := by kernel_rfl
theorem spec_l27Good.tblok (k : Nat) : TblOk Go.Proofs.Tryz.prog (spec_l27Good.tbl k) := TblOk.cons (spec_l27Plain.sound k) (TblOk.cons (spec_l1Stands.sound k) (TblOk.nil _))
theorem spec_l27Good.sound (k : Nat) : Sound Go.Proofs.Tryz.prog 45 (spec_l27Good.spec k) := by
  have h := fn_ok (F := spec_l27Good.T) (tbl := spec_l27Good.tbl) mixed tyok Go.Proofs.Tryz.func45 (by kernel_rfl) (c0 := bodyOf Go.Proofs.Tryz.f45) rfl (conv_code _ _ _) rfl rfl spec_l27Good.ok k (fun j _ => spec_l27Good.tblok j)
  have e : spec_l27Good.spec k = ⟨spec_l27Good.T.ps, spec_l27Good.T.rs, spec_l27Good.T.ev tyt spec_l27Good.tbl k⟩ := congrArg (FnSpec.mk _ _) (funext fun x => ((spec_l27Good.e k (spec_l27Good.T.run tyt spec_l27Good.tbl k) x.1 x.2).trans (by rfl)).symm)
  rw [e]
  exact h
/-! ### spec_l1Sum: function 161 -/
def spec_l1Sum.b4 (o4 : ByteArray → Int → Int → Option (Int)) (k : Nat) (x0_4 : ByteArray) (x1_4 : Int) (x2_4 : Int) : Option (Int) := (if x2_4 < (x0_4.size : Int) then ((chk x0_4.size x2_4).bind fun i1 => ((rem (w64 ((w64 ((w64 (41 * x1_4)) + (w64 ((byteAt x0_4 i1))))) + 1)) 999979).bind fun q2 => (o4 x0_4 q2 (w64 (x2_4 + 1))))) else (some x1_4))
def spec_l1Sum.l4 : Nat → ByteArray → Int → Int → Option (Int)
  | 0, _, _, _ => none
  | k + 1, x0_4, x1_4, x2_4 => spec_l1Sum.b4 (spec_l1Sum.l4 k) k x0_4 x1_4 x2_4
def spec_l1Sum.m (o4 : ByteArray → Int → Int → Option (Int)) (k : Nat) (a0 : ByteArray) : Option (Int) := (o4 a0 7 0)
def spec_l1Sum.f (k : Nat) (a0 : ByteArray) : Option (Int) := spec_l1Sum.m (spec_l1Sum.l4 k) k a0
noncomputable def spec_l1Sum.spec (k : Nat) : FnSpec := ⟨[.d .str none], [.d (.int .i64) none], fun x => spec_l1Sum.f k x⟩
def spec_l1Sum.S4 (x0_4 : ByteArray) (x1_4 : Int) (x2_4 : Int) : St := ⟨[(0, .val .str x0_4), (3, .val (.int .i64) x1_4), (4, .val (.int .i64) x2_4)], [], 1000⟩
noncomputable def spec_l1Sum.T : FnText := ⟨(conv [] (bodyOf Go.Proofs.Tryz.f161) 0).1, Go.Proofs.Tryz.f161.results.toList, 21, [(4, [(0, .rd .str), (3, .rd (.int .i64)), (4, .rd (.int .i64))])], [.d .str none], [.d (.int .i64) none]⟩
noncomputable def spec_l1Sum.tbl (k : Nat) : Tbl := []
theorem spec_l1Sum.e4 (k : Nat) (o : Nat → St → Option (Int)) (x0_4 : ByteArray) (x1_4 : Int) (x2_4 : Int) : spec_l1Sum.T.step tyt (spec_l1Sum.tbl k) o 4 (spec_l1Sum.S4 x0_4 x1_4 x2_4) = spec_l1Sum.b4 (fun x0_4 x1_4 x2_4 => o 4 (spec_l1Sum.S4 x0_4 x1_4 x2_4)) k x0_4 x1_4 x2_4 := by kernel_rfl
theorem spec_l1Sum.e (k : Nat) (o : Nat → St → Option (Int)) (a0 : ByteArray) : spec_l1Sum.T.main tyt (spec_l1Sum.tbl k) o a0 = spec_l1Sum.m (fun x0_4 x1_4 x2_4 => o 4 (spec_l1Sum.S4 x0_4 x1_4 x2_4)) k a0 := by kernel_rfl
theorem spec_l1Sum.ok : spec_l1Sum.T.ok = true := by kernel_rfl
theorem spec_l1Sum.run (k : Nat) : (∀ (x0_4 : ByteArray) (x1_4 : Int) (x2_4 : Int), spec_l1Sum.T.run tyt spec_l1Sum.tbl k 4 (spec_l1Sum.S4 x0_4 x1_4 x2_4) = spec_l1Sum.l4 k x0_4 x1_4 x2_4) := by
  induction k with
  | zero => exact fun x0_4 x1_4 x2_4 => rfl
  | succ k ih =>
    exact fun x0_4 x1_4 x2_4 => by
      have q4 : (fun x0_4 x1_4 x2_4 => spec_l1Sum.T.run tyt spec_l1Sum.tbl k 4 (spec_l1Sum.S4 x0_4 x1_4 x2_4)) = spec_l1Sum.l4 k := by funext x0_4 x1_4 x2_4; exact ih x0_4 x1_4 x2_4
      exact (spec_l1Sum.e4 k (spec_l1Sum.T.run tyt spec_l1Sum.tbl k) x0_4 x1_4 x2_4).trans (by rw [q4]; rfl)
theorem spec_l1Sum.tblok (k : Nat) : TblOk Go.Proofs.Tryz.prog (spec_l1Sum.tbl k) := TblOk.nil _
theorem spec_l1Sum.sound (k : Nat) : Sound Go.Proofs.Tryz.prog 161 (spec_l1Sum.spec k) := by
  have h := fn_ok (F := spec_l1Sum.T) (tbl := spec_l1Sum.tbl) mixed tyok Go.Proofs.Tryz.func161 (by kernel_rfl) (c0 := bodyOf Go.Proofs.Tryz.f161) rfl (conv_code _ _ _) rfl rfl spec_l1Sum.ok k (fun j _ => spec_l1Sum.tblok j)
  have q4 : (fun x0_4 x1_4 x2_4 => spec_l1Sum.T.run tyt spec_l1Sum.tbl k 4 (spec_l1Sum.S4 x0_4 x1_4 x2_4)) = spec_l1Sum.l4 k := by funext x0_4 x1_4 x2_4; exact (spec_l1Sum.run k) x0_4 x1_4 x2_4
  have e : spec_l1Sum.spec k = ⟨spec_l1Sum.T.ps, spec_l1Sum.T.rs, spec_l1Sum.T.ev tyt spec_l1Sum.tbl k⟩ := congrArg (FnSpec.mk _ _) (funext fun x => ((spec_l1Sum.e k (spec_l1Sum.T.run tyt spec_l1Sum.tbl k) x).trans (by rw [q4]; rfl)).symm)
  rw [e]
  exact h
/-! ### spec_l1Seal: function 131 -/
def spec_l1Seal.m (k : Nat) (a0 : ByteArray) : Option (ByteArray) := ((catS a0 (⟨#[35]⟩ : ByteArray)).bind fun s1 => ((spec_l1Sum.f k a0).bind fun r2 => ((spec_l1Num.f k r2).bind fun r3 => ((catS s1 r3).bind fun s4 => (some s4)))))
def spec_l1Seal.f (k : Nat) (a0 : ByteArray) : Option (ByteArray) := spec_l1Seal.m k a0
noncomputable def spec_l1Seal.spec (k : Nat) : FnSpec := ⟨[.d .str none], [.d .str none], fun x => spec_l1Seal.f k x⟩
noncomputable def spec_l1Seal.T : FnText := ⟨(conv [] (bodyOf Go.Proofs.Tryz.f131) 0).1, Go.Proofs.Tryz.f131.results.toList, 9, [], [.d .str none], [.d .str none]⟩
noncomputable def spec_l1Seal.tbl (k : Nat) : Tbl := [(161, spec_l1Sum.spec k), (73, spec_l1Num.spec k)]
theorem spec_l1Seal.e (k : Nat) (o : Nat → St → Option (ByteArray)) (a0 : ByteArray) : spec_l1Seal.T.main tyt (spec_l1Seal.tbl k) o a0 = spec_l1Seal.m k a0 := by kernel_rfl
theorem spec_l1Seal.ok : spec_l1Seal.T.ok = true := by kernel_rfl
theorem spec_l1Seal.tblok (k : Nat) : TblOk Go.Proofs.Tryz.prog (spec_l1Seal.tbl k) := TblOk.cons (spec_l1Sum.sound k) (TblOk.cons (spec_l1Num.sound k) (TblOk.nil _))
theorem spec_l1Seal.sound (k : Nat) : Sound Go.Proofs.Tryz.prog 131 (spec_l1Seal.spec k) := by
  have h := fn_ok (F := spec_l1Seal.T) (tbl := spec_l1Seal.tbl) mixed tyok Go.Proofs.Tryz.func131 (by kernel_rfl) (c0 := bodyOf Go.Proofs.Tryz.f131) rfl (conv_code _ _ _) rfl rfl spec_l1Seal.ok k (fun j _ => spec_l1Seal.tblok j)
  have e : spec_l1Seal.spec k = ⟨spec_l1Seal.T.ps, spec_l1Seal.T.rs, spec_l1Seal.T.ev tyt spec_l1Seal.tbl k⟩ := congrArg (FnSpec.mk _ _) (funext fun x => ((spec_l1Seal.e k (spec_l1Seal.T.run tyt spec_l1Seal.tbl k) x).trans (by rfl)).symm)
  rw [e]
  exact h
/-! ### spec_l27Line: function 91 -/
def spec_l27Line.m (k : Nat) (a0 : Int) (a1_0 : ByteArray) (a1_1 : ByteArray) : Option (ByteArray) := ((spec_l1Num.f k a0).bind fun r1 => ((catS r1 (⟨#[32]⟩ : ByteArray)).bind fun s2 => ((catS s2 a1_0).bind fun s3 => ((catS s3 (⟨#[64]⟩ : ByteArray)).bind fun s4 => ((catS s4 a1_1).bind fun s5 => ((spec_l1Seal.f k s5).bind fun r6 => ((catS r6 (⟨#[10]⟩ : ByteArray)).bind fun s7 => (some s7))))))))
def spec_l27Line.f (k : Nat) (a0 : Int) (a1_0 : ByteArray) (a1_1 : ByteArray) : Option (ByteArray) := spec_l27Line.m k a0 a1_0 a1_1
noncomputable def spec_l27Line.spec (k : Nat) : FnSpec := ⟨[.d (.int .i64) none, .ag [.d .str none, .d .str none]], [.d .str none], fun x => spec_l27Line.f k x.1 x.2.1 x.2.2⟩
noncomputable def spec_l27Line.T : FnText := ⟨(conv [] (bodyOf Go.Proofs.Tryz.f91) 0).1, Go.Proofs.Tryz.f91.results.toList, 17, [], [.d (.int .i64) none, .ag [.d .str none, .d .str none]], [.d .str none]⟩
noncomputable def spec_l27Line.tbl (k : Nat) : Tbl := [(73, spec_l1Num.spec k), (131, spec_l1Seal.spec k)]
theorem spec_l27Line.e (k : Nat) (o : Nat → St → Option (ByteArray)) (a0 : Int) (a1_0 : ByteArray) (a1_1 : ByteArray) : spec_l27Line.T.main tyt (spec_l27Line.tbl k) o (a0, a1_0, a1_1) = spec_l27Line.m k a0 a1_0 a1_1 := by kernel_rfl
theorem spec_l27Line.ok : spec_l27Line.T.ok = true := by kernel_rfl
theorem spec_l27Line.tblok (k : Nat) : TblOk Go.Proofs.Tryz.prog (spec_l27Line.tbl k) := TblOk.cons (spec_l1Num.sound k) (TblOk.cons (spec_l1Seal.sound k) (TblOk.nil _))
theorem spec_l27Line.sound (k : Nat) : Sound Go.Proofs.Tryz.prog 91 (spec_l27Line.spec k) := by
  have h := fn_ok (F := spec_l27Line.T) (tbl := spec_l27Line.tbl) mixed tyok Go.Proofs.Tryz.func91 (by kernel_rfl) (c0 := bodyOf Go.Proofs.Tryz.f91) rfl (conv_code _ _ _) rfl rfl spec_l27Line.ok k (fun j _ => spec_l27Line.tblok j)
  have e : spec_l27Line.spec k = ⟨spec_l27Line.T.ps, spec_l27Line.T.rs, spec_l27Line.T.ev tyt spec_l27Line.tbl k⟩ := congrArg (FnSpec.mk _ _) (funext fun x => ((spec_l27Line.e k (spec_l27Line.T.run tyt spec_l27Line.tbl k) x.1 x.2.1 x.2.2).trans (by rfl)).symm)
  rw [e]
  exact h
/-! ### spec_l27Read: function 120 -/
def spec_l27Read.m (k : Nat) (a0 : ByteArray) (a1 : Int) : Option (ByteArray × ByteArray × Bool) := ((spec_l1Num.f k a1).bind fun r1 => ((catS r1 (⟨#[32]⟩ : ByteArray)).bind fun s2 => ((spec_l1Split.f k a0 35).bind fun r3 => ((chk r3.length 0).bind fun i4 => (if ((r3.getD i4 ByteArray.empty).size : Int) < (s2.size : Int) then (some (ByteArray.empty, ByteArray.empty, false)) else ((cutTo ((r3.getD i4 ByteArray.empty).size) (s2.size : Int)).bind fun m6 => (if ¬ ((r3.getD i4 ByteArray.empty).extract 0 m6) = s2 then (some (ByteArray.empty, ByteArray.empty, false)) else ((cut ((r3.getD i4 ByteArray.empty).size) (s2.size : Int) ((r3.getD i4 ByteArray.empty).size : Int)).bind fun c7 => ((spec_l1Split.f k ((r3.getD i4 ByteArray.empty).extract c7.1 (c7.1 + c7.2)) 64).bind fun r8 => ((chk r8.length 0).bind fun i9 => (if ((r8.getD i9 ByteArray.empty).size : Int) = (((r3.getD i4 ByteArray.empty).extract c7.1 (c7.1 + c7.2)).size : Int) then (some (ByteArray.empty, ByteArray.empty, false)) else ((cut (((r3.getD i4 ByteArray.empty).extract c7.1 (c7.1 + c7.2)).size) (w64 (((r8.getD i9 ByteArray.empty).size : Int) + 1)) (((r3.getD i4 ByteArray.empty).extract c7.1 (c7.1 + c7.2)).size : Int)).bind fun c10 => ((spec_l27Good.f k (r8.getD i9 ByteArray.empty) (((r3.getD i4 ByteArray.empty).extract c7.1 (c7.1 + c7.2)).extract c10.1 (c10.1 + c10.2))).bind fun r11 => (cond r11 ((spec_l27Line.f k a1 (r8.getD i9 ByteArray.empty) (((r3.getD i4 ByteArray.empty).extract c7.1 (c7.1 + c7.2)).extract c10.1 (c10.1 + c10.2))).bind fun r12 => ((catS a0 (⟨#[10]⟩ : ByteArray)).bind fun s13 => (some ((r8.getD i9 ByteArray.empty), (((r3.getD i4 ByteArray.empty).extract c7.1 (c7.1 + c7.2)).extract c10.1 (c10.1 + c10.2)), (decide (r12 = s13)))))) (some ((r8.getD i9 ByteArray.empty), (((r3.getD i4 ByteArray.empty).extract c7.1 (c7.1 + c7.2)).extract c10.1 (c10.1 + c10.2)), false))))))))))))))))
def spec_l27Read.f (k : Nat) (a0 : ByteArray) (a1 : Int) : Option (ByteArray × ByteArray × Bool) := spec_l27Read.m k a0 a1
noncomputable def spec_l27Read.spec (k : Nat) : FnSpec := ⟨[.d .str none, .d (.int .i64) none], [.ag [.d .str none, .d .str none], .d .bool none], fun x => spec_l27Read.f k x.1 x.2⟩
noncomputable def spec_l27Read.T : FnText := ⟨(conv [] (bodyOf Go.Proofs.Tryz.f120) 0).1, Go.Proofs.Tryz.f120.results.toList, 64, [], [.d .str none, .d (.int .i64) none], [.ag [.d .str none, .d .str none], .d .bool none]⟩
noncomputable def spec_l27Read.tbl (k : Nat) : Tbl := [(73, spec_l1Num.spec k), (66, spec_l1Split.spec k), (45, spec_l27Good.spec k), (91, spec_l27Line.spec k)]
theorem spec_l27Read.e (k : Nat) (o : Nat → St → Option (ByteArray × ByteArray × Bool)) (a0 : ByteArray) (a1 : Int) : spec_l27Read.T.main tyt (spec_l27Read.tbl k) o (a0, a1) = spec_l27Read.m k a0 a1 := by kernel_rfl
theorem spec_l27Read.ok : spec_l27Read.T.ok = true := by kernel_rfl
theorem spec_l27Read.tblok (k : Nat) : TblOk Go.Proofs.Tryz.prog (spec_l27Read.tbl k) := TblOk.cons (spec_l1Num.sound k) (TblOk.cons (spec_l1Split.sound k) (TblOk.cons (spec_l27Good.sound k) (TblOk.cons (spec_l27Line.sound k) (TblOk.nil _))))
theorem spec_l27Read.sound (k : Nat) : Sound Go.Proofs.Tryz.prog 120 (spec_l27Read.spec k) := by
  have h := fn_ok (F := spec_l27Read.T) (tbl := spec_l27Read.tbl) mixed tyok Go.Proofs.Tryz.func120 (by kernel_rfl) (c0 := bodyOf Go.Proofs.Tryz.f120) rfl (conv_code _ _ _) rfl rfl spec_l27Read.ok k (fun j _ => spec_l27Read.tblok j)
  have e : spec_l27Read.spec k = ⟨spec_l27Read.T.ps, spec_l27Read.T.rs, spec_l27Read.T.ev tyt spec_l27Read.tbl k⟩ := congrArg (FnSpec.mk _ _) (funext fun x => ((spec_l27Read.e k (spec_l27Read.T.run tyt spec_l27Read.tbl k) x.1 x.2).trans (by rfl)).symm)
  rw [e]
  exact h
/-! ### spec_l27Open: function 81 -/
def spec_l27Open.b4 (o4 : ByteArray → (List (ByteArray × ByteArray)) → Int → Option (List (ByteArray × ByteArray) × Int)) (k : Nat) (x0_4 : ByteArray) (l1_4 : List (ByteArray × ByteArray)) (x2_4 : Int) : Option (List (ByteArray × ByteArray) × Int) := (if x2_4 < (x0_4.size : Int) then (if (l1_4.length : Int) < 60 then ((cut x0_4.size x2_4 (x0_4.size : Int)).bind fun c1 => ((spec_l1Split.f k (x0_4.extract c1.1 (c1.1 + c1.2)) 10).bind fun r2 => ((chk r2.length 0).bind fun i3 => ((spec_l27Read.f k (r2.getD i3 ByteArray.empty) (l1_4.length : Int)).bind fun r4 => (if (r2.length : Int) < 2 then (some (l1_4, x2_4)) else (cond (!r4.2.2) (some (l1_4, x2_4)) ((app 4398046511104 l1_4 [(r4.1, r4.2.1)]).bind fun l5 => ((chk r2.length 0).bind fun i6 => (o4 x0_4 l5 (w64 ((w64 (x2_4 + ((r2.getD i6 ByteArray.empty).size : Int))) + 1))))))))))) else (some (l1_4, x2_4))) else (some (l1_4, x2_4)))
def spec_l27Open.l4 : Nat → ByteArray → (List (ByteArray × ByteArray)) → Int → Option (List (ByteArray × ByteArray) × Int)
  | 0, _, _, _ => none
  | k + 1, x0_4, l1_4, x2_4 => spec_l27Open.b4 (spec_l27Open.l4 k) k x0_4 l1_4 x2_4
def spec_l27Open.m (o4 : ByteArray → (List (ByteArray × ByteArray)) → Int → Option (List (ByteArray × ByteArray) × Int)) (k : Nat) (a0 : ByteArray) : Option (List (ByteArray × ByteArray) × Int) := (o4 a0 ([] : List (ByteArray × ByteArray)) 0)
def spec_l27Open.f (k : Nat) (a0 : ByteArray) : Option (List (ByteArray × ByteArray) × Int) := spec_l27Open.m (spec_l27Open.l4 k) k a0
noncomputable def spec_l27Open.spec (k : Nat) : FnSpec := ⟨[.d .str none], [.d (.sl (.pair .str .str)) (some 55), .d (.int .i64) none], fun x => spec_l27Open.f k x⟩
def spec_l27Open.S4 (x0_4 : ByteArray) (l1_4 : List (ByteArray × ByteArray)) (x2_4 : Int) : St := ⟨[(0, .val .str x0_4), (4, .ref 100), (5, .val (.int .i64) x2_4)], [(100, some (.row 55 (.pair .str .str) l1_4))], 1000⟩
noncomputable def spec_l27Open.T : FnText := ⟨(conv [] (bodyOf Go.Proofs.Tryz.f81) 0).1, Go.Proofs.Tryz.f81.results.toList, 52, [(4, [(0, .rd .str), (4, .own 55 (.pair .str .str) 100), (5, .rd (.int .i64))])], [.d .str none], [.d (.sl (.pair .str .str)) (some 55), .d (.int .i64) none]⟩
noncomputable def spec_l27Open.tbl (k : Nat) : Tbl := [(66, spec_l1Split.spec k), (120, spec_l27Read.spec k)]
theorem spec_l27Open.e4 (k : Nat) (o : Nat → St → Option (List (ByteArray × ByteArray) × Int)) (x0_4 : ByteArray) (l1_4 : List (ByteArray × ByteArray)) (x2_4 : Int) : spec_l27Open.T.step tyt (spec_l27Open.tbl k) o 4 (spec_l27Open.S4 x0_4 l1_4 x2_4) = spec_l27Open.b4 (fun x0_4 l1_4 x2_4 => o 4 (spec_l27Open.S4 x0_4 l1_4 x2_4)) k x0_4 l1_4 x2_4 := by kernel_rfl
theorem spec_l27Open.e (k : Nat) (o : Nat → St → Option (List (ByteArray × ByteArray) × Int)) (a0 : ByteArray) : spec_l27Open.T.main tyt (spec_l27Open.tbl k) o a0 = spec_l27Open.m (fun x0_4 l1_4 x2_4 => o 4 (spec_l27Open.S4 x0_4 l1_4 x2_4)) k a0 := by kernel_rfl
theorem spec_l27Open.ok : spec_l27Open.T.ok = true := by kernel_rfl
theorem spec_l27Open.run (k : Nat) : (∀ (x0_4 : ByteArray) (l1_4 : List (ByteArray × ByteArray)) (x2_4 : Int), spec_l27Open.T.run tyt spec_l27Open.tbl k 4 (spec_l27Open.S4 x0_4 l1_4 x2_4) = spec_l27Open.l4 k x0_4 l1_4 x2_4) := by
  induction k with
  | zero => exact fun x0_4 l1_4 x2_4 => rfl
  | succ k ih =>
    exact fun x0_4 l1_4 x2_4 => by
      have q4 : (fun x0_4 l1_4 x2_4 => spec_l27Open.T.run tyt spec_l27Open.tbl k 4 (spec_l27Open.S4 x0_4 l1_4 x2_4)) = spec_l27Open.l4 k := by funext x0_4 l1_4 x2_4; exact ih x0_4 l1_4 x2_4
      exact (spec_l27Open.e4 k (spec_l27Open.T.run tyt spec_l27Open.tbl k) x0_4 l1_4 x2_4).trans (by rw [q4]; rfl)
theorem spec_l27Open.tblok (k : Nat) : TblOk Go.Proofs.Tryz.prog (spec_l27Open.tbl k) := TblOk.cons (spec_l1Split.sound k) (TblOk.cons (spec_l27Read.sound k) (TblOk.nil _))
theorem spec_l27Open.sound (k : Nat) : Sound Go.Proofs.Tryz.prog 81 (spec_l27Open.spec k) := by
  have h := fn_ok (F := spec_l27Open.T) (tbl := spec_l27Open.tbl) mixed tyok Go.Proofs.Tryz.func81 (by kernel_rfl) (c0 := bodyOf Go.Proofs.Tryz.f81) rfl (conv_code _ _ _) rfl rfl spec_l27Open.ok k (fun j _ => spec_l27Open.tblok j)
  have q4 : (fun x0_4 l1_4 x2_4 => spec_l27Open.T.run tyt spec_l27Open.tbl k 4 (spec_l27Open.S4 x0_4 l1_4 x2_4)) = spec_l27Open.l4 k := by funext x0_4 l1_4 x2_4; exact (spec_l27Open.run k) x0_4 l1_4 x2_4
  have e : spec_l27Open.spec k = ⟨spec_l27Open.T.ps, spec_l27Open.T.rs, spec_l27Open.T.ev tyt spec_l27Open.tbl k⟩ := congrArg (FnSpec.mk _ _) (funext fun x => ((spec_l27Open.e k (spec_l27Open.T.run tyt spec_l27Open.tbl k) x).trans (by rw [q4]; rfl)).symm)
  rw [e]
  exact h
/-! ### spec_l27Log: function 40 -/
def spec_l27Log.m (k : Nat) (a0_0 : ByteArray) (a0_1 : ByteArray) (a0_2 : Int) : Option (Bool) := (if 30000 < (w64 ((a0_0.size : Int) + (a0_1.size : Int))) then (some false) else ((catS a0_0 a0_1).bind fun s1 => ((spec_l27Open.f k s1).bind fun r2 => ((spec_l27Open.f k a0_0).bind fun r3 => (if r2.2 = (w64 ((a0_0.size : Int) + (a0_1.size : Int))) then (if r3.2 = (a0_0.size : Int) then (some (decide ((r2.1.length : Int) = a0_2))) else (some false)) else (some false))))))
def spec_l27Log.f (k : Nat) (a0_0 : ByteArray) (a0_1 : ByteArray) (a0_2 : Int) : Option (Bool) := spec_l27Log.m k a0_0 a0_1 a0_2
noncomputable def spec_l27Log.spec (k : Nat) : FnSpec := ⟨[.ag [.d .str none, .d .str none, .d (.int .i64) none]], [.d .bool none], fun x => spec_l27Log.f k x.1 x.2.1 x.2.2⟩
noncomputable def spec_l27Log.T : FnText := ⟨(conv [] (bodyOf Go.Proofs.Tryz.f40) 0).1, Go.Proofs.Tryz.f40.results.toList, 53, [], [.ag [.d .str none, .d .str none, .d (.int .i64) none]], [.d .bool none]⟩
noncomputable def spec_l27Log.tbl (k : Nat) : Tbl := [(81, spec_l27Open.spec k)]
theorem spec_l27Log.e (k : Nat) (o : Nat → St → Option (Bool)) (a0_0 : ByteArray) (a0_1 : ByteArray) (a0_2 : Int) : spec_l27Log.T.main tyt (spec_l27Log.tbl k) o (a0_0, a0_1, a0_2) = spec_l27Log.m k a0_0 a0_1 a0_2 := by kernel_rfl
theorem spec_l27Log.ok : spec_l27Log.T.ok = true := by kernel_rfl
theorem spec_l27Log.tblok (k : Nat) : TblOk Go.Proofs.Tryz.prog (spec_l27Log.tbl k) := TblOk.cons (spec_l27Open.sound k) (TblOk.nil _)
theorem spec_l27Log.sound (k : Nat) : Sound Go.Proofs.Tryz.prog 40 (spec_l27Log.spec k) := by
  have h := fn_ok (F := spec_l27Log.T) (tbl := spec_l27Log.tbl) mixed tyok Go.Proofs.Tryz.func40 (by kernel_rfl) (c0 := bodyOf Go.Proofs.Tryz.f40) rfl (conv_code _ _ _) rfl rfl spec_l27Log.ok k (fun j _ => spec_l27Log.tblok j)
  have e : spec_l27Log.spec k = ⟨spec_l27Log.T.ps, spec_l27Log.T.rs, spec_l27Log.T.ev tyt spec_l27Log.tbl k⟩ := congrArg (FnSpec.mk _ _) (funext fun x => ((spec_l27Log.e k (spec_l27Log.T.run tyt spec_l27Log.tbl k) x.1 x.2.1 x.2.2).trans (by rfl)).symm)
  rw [e]
  exact h
/-! ### spec_LogRecords: function 41 -/
def spec_LogRecords.m (k : Nat) (a0_0 : ByteArray) (a0_1 : ByteArray) (a0_2 : Int) : Option (List (ByteArray × ByteArray) × Bool) := ((spec_l27Log.f k a0_0 a0_1 a0_2).bind fun r1 => (cond (!r1) (some (([] : List (ByteArray × ByteArray)), false)) ((catS a0_0 a0_1).bind fun s2 => ((spec_l27Open.f k s2).bind fun r3 => (some (r3.1, true))))))
def spec_LogRecords.f (k : Nat) (a0_0 : ByteArray) (a0_1 : ByteArray) (a0_2 : Int) : Option (List (ByteArray × ByteArray) × Bool) := spec_LogRecords.m k a0_0 a0_1 a0_2
noncomputable def spec_LogRecords.spec (k : Nat) : FnSpec := ⟨[.ag [.d .str none, .d .str none, .d (.int .i64) none]], [.d (.sl (.pair .str .str)) (some 55), .d .bool none], fun x => spec_LogRecords.f k x.1 x.2.1 x.2.2⟩
noncomputable def spec_LogRecords.T : FnText := ⟨(conv [] (bodyOf Go.Proofs.Tryz.f41) 0).1, Go.Proofs.Tryz.f41.results.toList, 20, [], [.ag [.d .str none, .d .str none, .d (.int .i64) none]], [.d (.sl (.pair .str .str)) (some 55), .d .bool none]⟩
noncomputable def spec_LogRecords.tbl (k : Nat) : Tbl := [(40, spec_l27Log.spec k), (81, spec_l27Open.spec k)]
theorem spec_LogRecords.e (k : Nat) (o : Nat → St → Option (List (ByteArray × ByteArray) × Bool)) (a0_0 : ByteArray) (a0_1 : ByteArray) (a0_2 : Int) : spec_LogRecords.T.main tyt (spec_LogRecords.tbl k) o (a0_0, a0_1, a0_2) = spec_LogRecords.m k a0_0 a0_1 a0_2 := by kernel_rfl
theorem spec_LogRecords.ok : spec_LogRecords.T.ok = true := by kernel_rfl
theorem spec_LogRecords.tblok (k : Nat) : TblOk Go.Proofs.Tryz.prog (spec_LogRecords.tbl k) := TblOk.cons (spec_l27Log.sound k) (TblOk.cons (spec_l27Open.sound k) (TblOk.nil _))
theorem spec_LogRecords.sound (k : Nat) : Sound Go.Proofs.Tryz.prog 41 (spec_LogRecords.spec k) := by
  have h := fn_ok (F := spec_LogRecords.T) (tbl := spec_LogRecords.tbl) mixed tyok Go.Proofs.Tryz.func41 (by kernel_rfl) (c0 := bodyOf Go.Proofs.Tryz.f41) rfl (conv_code _ _ _) rfl rfl spec_LogRecords.ok k (fun j _ => spec_LogRecords.tblok j)
  have e : spec_LogRecords.spec k = ⟨spec_LogRecords.T.ps, spec_LogRecords.T.rs, spec_LogRecords.T.ev tyt spec_LogRecords.tbl k⟩ := congrArg (FnSpec.mk _ _) (funext fun x => ((spec_LogRecords.e k (spec_LogRecords.T.run tyt spec_LogRecords.tbl k) x.1 x.2.1 x.2.2).trans (by rfl)).symm)
  rw [e]
  exact h
/-! ### spec_l25Own: function 83 -/
def spec_l25Own.m (k : Nat) (a0_0 : Int) (a0_1 : Int) (l0_2 : List (Int × Int × Int × Int × Int)) (a0_3 : Int) : Option (Int × Int × List (Int × Int × Int × Int × Int) × Int) := ((app 3518437208883 ([] : List (Int × Int × Int × Int × Int)) l0_2).bind fun l1 => (some (a0_0, a0_1, l1, a0_3)))
def spec_l25Own.f (k : Nat) (a0_0 : Int) (a0_1 : Int) (l0_2 : List (Int × Int × Int × Int × Int)) (a0_3 : Int) : Option (Int × Int × List (Int × Int × Int × Int × Int) × Int) := spec_l25Own.m k a0_0 a0_1 l0_2 a0_3
noncomputable def spec_l25Own.spec (k : Nat) : FnSpec := ⟨[.ag [.d (.int .i64) none, .d (.int .i64) none, .d (.sl (.pair (.int .i64) (.pair (.int .i64) (.pair (.int .i64) (.pair (.int .i64) (.int .i64)))))) none, .d (.int .i64) none]], [.ag [.d (.int .i64) none, .d (.int .i64) none, .d (.sl (.pair (.int .i64) (.pair (.int .i64) (.pair (.int .i64) (.pair (.int .i64) (.int .i64)))))) (some 108), .d (.int .i64) none]], fun x => spec_l25Own.f k x.1 x.2.1 x.2.2.1 x.2.2.2⟩
noncomputable def spec_l25Own.T : FnText := ⟨(conv [] (bodyOf Go.Proofs.Tryz.f83) 0).1, Go.Proofs.Tryz.f83.results.toList, 14, [], [.ag [.d (.int .i64) none, .d (.int .i64) none, .d (.sl (.pair (.int .i64) (.pair (.int .i64) (.pair (.int .i64) (.pair (.int .i64) (.int .i64)))))) none, .d (.int .i64) none]], [.ag [.d (.int .i64) none, .d (.int .i64) none, .d (.sl (.pair (.int .i64) (.pair (.int .i64) (.pair (.int .i64) (.pair (.int .i64) (.int .i64)))))) (some 108), .d (.int .i64) none]]⟩
noncomputable def spec_l25Own.tbl (k : Nat) : Tbl := []
theorem spec_l25Own.e (k : Nat) (o : Nat → St → Option (Int × Int × List (Int × Int × Int × Int × Int) × Int)) (a0_0 : Int) (a0_1 : Int) (l0_2 : List (Int × Int × Int × Int × Int)) (a0_3 : Int) : spec_l25Own.T.main tyt (spec_l25Own.tbl k) o (a0_0, a0_1, l0_2, a0_3) = spec_l25Own.m k a0_0 a0_1 l0_2 a0_3 := by kernel_rfl
theorem spec_l25Own.ok : spec_l25Own.T.ok = true := by kernel_rfl
theorem spec_l25Own.tblok (k : Nat) : TblOk Go.Proofs.Tryz.prog (spec_l25Own.tbl k) := TblOk.nil _
theorem spec_l25Own.sound (k : Nat) : Sound Go.Proofs.Tryz.prog 83 (spec_l25Own.spec k) := by
  have h := fn_ok (F := spec_l25Own.T) (tbl := spec_l25Own.tbl) mixed tyok Go.Proofs.Tryz.func83 (by kernel_rfl) (c0 := bodyOf Go.Proofs.Tryz.f83) rfl (conv_code _ _ _) rfl rfl spec_l25Own.ok k (fun j _ => spec_l25Own.tblok j)
  have e : spec_l25Own.spec k = ⟨spec_l25Own.T.ps, spec_l25Own.T.rs, spec_l25Own.T.ev tyt spec_l25Own.tbl k⟩ := congrArg (FnSpec.mk _ _) (funext fun x => ((spec_l25Own.e k (spec_l25Own.T.run tyt spec_l25Own.tbl k) x.1 x.2.1 x.2.2.1 x.2.2.2).trans (by rfl)).symm)
  rw [e]
  exact h
/-! ### spec_l28Own: function 43 -/
def spec_l28Own.m (k : Nat) (a0_0 : Int) (a0_1 : Int) (l0_2 : List (Int × Int × Int × Int × Int)) (a0_3 : Int) (a0_4 : ByteArray) (a0_5 : ByteArray) (a0_6 : Int) : Option (Int × Int × List (Int × Int × Int × Int × Int) × Int × ByteArray × ByteArray × Int) := ((spec_l25Own.f k a0_0 a0_1 l0_2 a0_3).bind fun r1 => (some (r1.1, r1.2.1, r1.2.2.1, r1.2.2.2, a0_4, a0_5, a0_6)))
def spec_l28Own.f (k : Nat) (a0_0 : Int) (a0_1 : Int) (l0_2 : List (Int × Int × Int × Int × Int)) (a0_3 : Int) (a0_4 : ByteArray) (a0_5 : ByteArray) (a0_6 : Int) : Option (Int × Int × List (Int × Int × Int × Int × Int) × Int × ByteArray × ByteArray × Int) := spec_l28Own.m k a0_0 a0_1 l0_2 a0_3 a0_4 a0_5 a0_6
noncomputable def spec_l28Own.spec (k : Nat) : FnSpec := ⟨[.ag [.d (.int .i64) none, .d (.int .i64) none, .d (.sl (.pair (.int .i64) (.pair (.int .i64) (.pair (.int .i64) (.pair (.int .i64) (.int .i64)))))) none, .d (.int .i64) none, .d .str none, .d .str none, .d (.int .i64) none]], [.ag [.d (.int .i64) none, .d (.int .i64) none, .d (.sl (.pair (.int .i64) (.pair (.int .i64) (.pair (.int .i64) (.pair (.int .i64) (.int .i64)))))) (some 108), .d (.int .i64) none, .d .str none, .d .str none, .d (.int .i64) none]], fun x => spec_l28Own.f k x.1 x.2.1 x.2.2.1 x.2.2.2.1 x.2.2.2.2.1 x.2.2.2.2.2.1 x.2.2.2.2.2.2⟩
noncomputable def spec_l28Own.T : FnText := ⟨(conv [] (bodyOf Go.Proofs.Tryz.f43) 0).1, Go.Proofs.Tryz.f43.results.toList, 9, [], [.ag [.d (.int .i64) none, .d (.int .i64) none, .d (.sl (.pair (.int .i64) (.pair (.int .i64) (.pair (.int .i64) (.pair (.int .i64) (.int .i64)))))) none, .d (.int .i64) none, .d .str none, .d .str none, .d (.int .i64) none]], [.ag [.d (.int .i64) none, .d (.int .i64) none, .d (.sl (.pair (.int .i64) (.pair (.int .i64) (.pair (.int .i64) (.pair (.int .i64) (.int .i64)))))) (some 108), .d (.int .i64) none, .d .str none, .d .str none, .d (.int .i64) none]]⟩
noncomputable def spec_l28Own.tbl (k : Nat) : Tbl := [(83, spec_l25Own.spec k)]
theorem spec_l28Own.e (k : Nat) (o : Nat → St → Option (Int × Int × List (Int × Int × Int × Int × Int) × Int × ByteArray × ByteArray × Int)) (a0_0 : Int) (a0_1 : Int) (l0_2 : List (Int × Int × Int × Int × Int)) (a0_3 : Int) (a0_4 : ByteArray) (a0_5 : ByteArray) (a0_6 : Int) : spec_l28Own.T.main tyt (spec_l28Own.tbl k) o (a0_0, a0_1, l0_2, a0_3, a0_4, a0_5, a0_6) = spec_l28Own.m k a0_0 a0_1 l0_2 a0_3 a0_4 a0_5 a0_6 := by kernel_rfl
theorem spec_l28Own.ok : spec_l28Own.T.ok = true := by kernel_rfl
theorem spec_l28Own.tblok (k : Nat) : TblOk Go.Proofs.Tryz.prog (spec_l28Own.tbl k) := TblOk.cons (spec_l25Own.sound k) (TblOk.nil _)
theorem spec_l28Own.sound (k : Nat) : Sound Go.Proofs.Tryz.prog 43 (spec_l28Own.spec k) := by
  have h := fn_ok (F := spec_l28Own.T) (tbl := spec_l28Own.tbl) mixed tyok Go.Proofs.Tryz.func43 (by kernel_rfl) (c0 := bodyOf Go.Proofs.Tryz.f43) rfl (conv_code _ _ _) rfl rfl spec_l28Own.ok k (fun j _ => spec_l28Own.tblok j)
  have e : spec_l28Own.spec k = ⟨spec_l28Own.T.ps, spec_l28Own.T.rs, spec_l28Own.T.ev tyt spec_l28Own.tbl k⟩ := congrArg (FnSpec.mk _ _) (funext fun x => ((spec_l28Own.e k (spec_l28Own.T.run tyt spec_l28Own.tbl k) x.1 x.2.1 x.2.2.1 x.2.2.2.1 x.2.2.2.2.1 x.2.2.2.2.2.1 x.2.2.2.2.2.2).trans (by rfl)).symm)
  rw [e]
  exact h
/-! ### spec_l2Day: function 121 -/
def spec_l2Day.m (k : Nat) (a0 : Int) : Option (Bool) := ((spec_l1In.f k a0 0 4000).bind fun r1 => (some r1))
def spec_l2Day.f (k : Nat) (a0 : Int) : Option (Bool) := spec_l2Day.m k a0
noncomputable def spec_l2Day.spec (k : Nat) : FnSpec := ⟨[.d (.int .i64) none], [.d .bool none], fun x => spec_l2Day.f k x⟩
noncomputable def spec_l2Day.T : FnText := ⟨(conv [] (bodyOf Go.Proofs.Tryz.f121) 0).1, Go.Proofs.Tryz.f121.results.toList, 5, [], [.d (.int .i64) none], [.d .bool none]⟩
noncomputable def spec_l2Day.tbl (k : Nat) : Tbl := [(118, spec_l1In.spec k)]
theorem spec_l2Day.e (k : Nat) (o : Nat → St → Option (Bool)) (a0 : Int) : spec_l2Day.T.main tyt (spec_l2Day.tbl k) o a0 = spec_l2Day.m k a0 := by kernel_rfl
theorem spec_l2Day.ok : spec_l2Day.T.ok = true := by kernel_rfl
theorem spec_l2Day.tblok (k : Nat) : TblOk Go.Proofs.Tryz.prog (spec_l2Day.tbl k) := TblOk.cons (spec_l1In.sound k) (TblOk.nil _)
theorem spec_l2Day.sound (k : Nat) : Sound Go.Proofs.Tryz.prog 121 (spec_l2Day.spec k) := by
  have h := fn_ok (F := spec_l2Day.T) (tbl := spec_l2Day.tbl) mixed tyok Go.Proofs.Tryz.func121 (by kernel_rfl) (c0 := bodyOf Go.Proofs.Tryz.f121) rfl (conv_code _ _ _) rfl rfl spec_l2Day.ok k (fun j _ => spec_l2Day.tblok j)
  have e : spec_l2Day.spec k = ⟨spec_l2Day.T.ps, spec_l2Day.T.rs, spec_l2Day.T.ev tyt spec_l2Day.tbl k⟩ := congrArg (FnSpec.mk _ _) (funext fun x => ((spec_l2Day.e k (spec_l2Day.T.run tyt spec_l2Day.tbl k) x).trans (by rfl)).symm)
  rw [e]
  exact h
/-! ### spec_l25Carpet: function 122 -/
def spec_l25Carpet.m (k : Nat) (a0_0 : Int) (a0_1 : Int) (l0_2 : List (Int × Int × Int × Int × Int)) (a0_3 : Int) (a1_0 : Int) (a1_1 : Int) (a1_2 : Int) (a1_3 : Int) (a1_4 : Int) : Option (Bool) := ((spec_l1In.f k a1_0 1 500).bind fun r1 => (cond (!r1) (some false) ((spec_l1In.f k a1_1 0 a1_0).bind fun r2 => (cond (!r2) (some false) ((spec_l1In.f k a1_2 0 4).bind fun r3 => (cond (!r3) (some false) ((spec_l1In.f k a1_4 0 a0_0).bind fun r4 => (cond (!r4) (some false) (if a1_2 = 1 then ((spec_l1In.f k a1_3 1 a0_1).bind fun r5 => (some r5)) else (if a1_2 = 0 then (if a1_3 = 0 then (some (decide (a1_1 = 0))) else (some false)) else (if a1_3 = 0 then (some (decide (a1_1 = a1_0))) else (some false))))))))))))
def spec_l25Carpet.f (k : Nat) (a0_0 : Int) (a0_1 : Int) (l0_2 : List (Int × Int × Int × Int × Int)) (a0_3 : Int) (a1_0 : Int) (a1_1 : Int) (a1_2 : Int) (a1_3 : Int) (a1_4 : Int) : Option (Bool) := spec_l25Carpet.m k a0_0 a0_1 l0_2 a0_3 a1_0 a1_1 a1_2 a1_3 a1_4
noncomputable def spec_l25Carpet.spec (k : Nat) : FnSpec := ⟨[.ag [.d (.int .i64) none, .d (.int .i64) none, .d (.sl (.pair (.int .i64) (.pair (.int .i64) (.pair (.int .i64) (.pair (.int .i64) (.int .i64)))))) none, .d (.int .i64) none], .ag [.d (.int .i64) none, .d (.int .i64) none, .d (.int .i64) none, .d (.int .i64) none, .d (.int .i64) none]], [.d .bool none], fun x => spec_l25Carpet.f k x.1 x.2.1 x.2.2.1 x.2.2.2.1 x.2.2.2.2.1 x.2.2.2.2.2.1 x.2.2.2.2.2.2.1 x.2.2.2.2.2.2.2.1 x.2.2.2.2.2.2.2.2⟩
noncomputable def spec_l25Carpet.T : FnText := ⟨(conv [] (bodyOf Go.Proofs.Tryz.f122) 0).1, Go.Proofs.Tryz.f122.results.toList, 60, [], [.ag [.d (.int .i64) none, .d (.int .i64) none, .d (.sl (.pair (.int .i64) (.pair (.int .i64) (.pair (.int .i64) (.pair (.int .i64) (.int .i64)))))) none, .d (.int .i64) none], .ag [.d (.int .i64) none, .d (.int .i64) none, .d (.int .i64) none, .d (.int .i64) none, .d (.int .i64) none]], [.d .bool none]⟩
noncomputable def spec_l25Carpet.tbl (k : Nat) : Tbl := [(118, spec_l1In.spec k)]
theorem spec_l25Carpet.e (k : Nat) (o : Nat → St → Option (Bool)) (a0_0 : Int) (a0_1 : Int) (l0_2 : List (Int × Int × Int × Int × Int)) (a0_3 : Int) (a1_0 : Int) (a1_1 : Int) (a1_2 : Int) (a1_3 : Int) (a1_4 : Int) : spec_l25Carpet.T.main tyt (spec_l25Carpet.tbl k) o (a0_0, a0_1, l0_2, a0_3, a1_0, a1_1, a1_2, a1_3, a1_4) = spec_l25Carpet.m k a0_0 a0_1 l0_2 a0_3 a1_0 a1_1 a1_2 a1_3 a1_4 := by kernel_rfl
theorem spec_l25Carpet.ok : spec_l25Carpet.T.ok = true := by kernel_rfl
theorem spec_l25Carpet.tblok (k : Nat) : TblOk Go.Proofs.Tryz.prog (spec_l25Carpet.tbl k) := TblOk.cons (spec_l1In.sound k) (TblOk.nil _)
theorem spec_l25Carpet.sound (k : Nat) : Sound Go.Proofs.Tryz.prog 122 (spec_l25Carpet.spec k) := by
  have h := fn_ok (F := spec_l25Carpet.T) (tbl := spec_l25Carpet.tbl) mixed tyok Go.Proofs.Tryz.func122 (by kernel_rfl) (c0 := bodyOf Go.Proofs.Tryz.f122) rfl (conv_code _ _ _) rfl rfl spec_l25Carpet.ok k (fun j _ => spec_l25Carpet.tblok j)
  have e : spec_l25Carpet.spec k = ⟨spec_l25Carpet.T.ps, spec_l25Carpet.T.rs, spec_l25Carpet.T.ev tyt spec_l25Carpet.tbl k⟩ := congrArg (FnSpec.mk _ _) (funext fun x => ((spec_l25Carpet.e k (spec_l25Carpet.T.run tyt spec_l25Carpet.tbl k) x.1 x.2.1 x.2.2.1 x.2.2.2.1 x.2.2.2.2.1 x.2.2.2.2.2.1 x.2.2.2.2.2.2.1 x.2.2.2.2.2.2.2.1 x.2.2.2.2.2.2.2.2).trans (by rfl)).symm)
  rw [e]
  exact h
/-! ### spec_l25Good: function 84 -/
def spec_l25Good.b6 (o14 : Int → Int → (List (Int × Int × Int × Int × Int)) → Int → Int → Int → Option (Bool)) (k : Nat) (x0_6 : Int) (x1_6 : Int) (l2_6 : List (Int × Int × Int × Int × Int)) (x3_6 : Int) (x4_6 : Int) : Option (Bool) := (if x4_6 < (l2_6.length : Int) then ((chk l2_6.length x4_6).bind fun i4 => ((spec_l25Carpet.f k x0_6 x1_6 l2_6 x3_6 ((l2_6.getD i4 (0, 0, 0, 0, 0)).1) (((l2_6.getD i4 (0, 0, 0, 0, 0)).2).1) ((((l2_6.getD i4 (0, 0, 0, 0, 0)).2).2).1) (((((l2_6.getD i4 (0, 0, 0, 0, 0)).2).2).2).1) (((((l2_6.getD i4 (0, 0, 0, 0, 0)).2).2).2).2)).bind fun r5 => (cond (!r5) (some false) (o14 x0_6 x1_6 l2_6 x3_6 x4_6 0)))) else (some true))
def spec_l25Good.b14 (o6 : Int → Int → (List (Int × Int × Int × Int × Int)) → Int → Int → Option (Bool)) (o14 : Int → Int → (List (Int × Int × Int × Int × Int)) → Int → Int → Int → Option (Bool)) (k : Nat) (x0_14 : Int) (x1_14 : Int) (l2_14 : List (Int × Int × Int × Int × Int)) (x3_14 : Int) (x4_14 : Int) (x5_14 : Int) : Option (Bool) := (if x5_14 < x4_14 then ((chk l2_14.length x4_14).bind fun i6 => (if 0 < (((((l2_14.getD i6 (0, 0, 0, 0, 0)).2).2).2).1) then ((chk l2_14.length x5_14).bind fun i7 => ((chk l2_14.length x4_14).bind fun i8 => (if (((((l2_14.getD i7 (0, 0, 0, 0, 0)).2).2).2).1) = (((((l2_14.getD i8 (0, 0, 0, 0, 0)).2).2).2).1) then (some false) else (o14 x0_14 x1_14 l2_14 x3_14 x4_14 (w64 (x5_14 + 1)))))) else (o14 x0_14 x1_14 l2_14 x3_14 x4_14 (w64 (x5_14 + 1))))) else (o6 x0_14 x1_14 l2_14 x3_14 (w64 (x4_14 + 1))))
mutual
def spec_l25Good.l6 : Nat → Int → Int → (List (Int × Int × Int × Int × Int)) → Int → Int → Option (Bool)
  | 0, _, _, _, _, _ => none
  | k + 1, x0_6, x1_6, l2_6, x3_6, x4_6 => spec_l25Good.b6 (spec_l25Good.l14 k) k x0_6 x1_6 l2_6 x3_6 x4_6
def spec_l25Good.l14 : Nat → Int → Int → (List (Int × Int × Int × Int × Int)) → Int → Int → Int → Option (Bool)
  | 0, _, _, _, _, _, _ => none
  | k + 1, x0_14, x1_14, l2_14, x3_14, x4_14, x5_14 => spec_l25Good.b14 (spec_l25Good.l6 k) (spec_l25Good.l14 k) k x0_14 x1_14 l2_14 x3_14 x4_14 x5_14
end
def spec_l25Good.m (o6 : Int → Int → (List (Int × Int × Int × Int × Int)) → Int → Int → Option (Bool)) (k : Nat) (a0_0 : Int) (a0_1 : Int) (l0_2 : List (Int × Int × Int × Int × Int)) (a0_3 : Int) : Option (Bool) := ((spec_l2Day.f k a0_0).bind fun r1 => (cond (!r1) (some false) ((spec_l1In.f k a0_1 1 4).bind fun r2 => (cond (!r2) (some false) ((spec_l1In.f k a0_3 0 1000000).bind fun r3 => (cond (!r3) (some false) (if 8 < (l0_2.length : Int) then (some false) else (o6 a0_0 a0_1 l0_2 a0_3 0))))))))
def spec_l25Good.f (k : Nat) (a0_0 : Int) (a0_1 : Int) (l0_2 : List (Int × Int × Int × Int × Int)) (a0_3 : Int) : Option (Bool) := spec_l25Good.m (spec_l25Good.l6 k) k a0_0 a0_1 l0_2 a0_3
noncomputable def spec_l25Good.spec (k : Nat) : FnSpec := ⟨[.ag [.d (.int .i64) none, .d (.int .i64) none, .d (.sl (.pair (.int .i64) (.pair (.int .i64) (.pair (.int .i64) (.pair (.int .i64) (.int .i64)))))) none, .d (.int .i64) none]], [.d .bool none], fun x => spec_l25Good.f k x.1 x.2.1 x.2.2.1 x.2.2.2⟩
def spec_l25Good.S6 (x0_6 : Int) (x1_6 : Int) (l2_6 : List (Int × Int × Int × Int × Int)) (x3_6 : Int) (x4_6 : Int) : St := ⟨[(1, .ptr 100 0), (3, .val (.int .i64) x4_6)], [(100, some (.box [.val (.int .i64) x0_6, .val (.int .i64) x1_6, .val (.sl (.pair (.int .i64) (.pair (.int .i64) (.pair (.int .i64) (.pair (.int .i64) (.int .i64)))))) l2_6, .val (.int .i64) x3_6]))], 1000⟩
def spec_l25Good.S14 (x0_14 : Int) (x1_14 : Int) (l2_14 : List (Int × Int × Int × Int × Int)) (x3_14 : Int) (x4_14 : Int) (x5_14 : Int) : St := ⟨[(1, .ptr 100 0), (3, .val (.int .i64) x4_14), (4, .val (.int .i64) x5_14)], [(100, some (.box [.val (.int .i64) x0_14, .val (.int .i64) x1_14, .val (.sl (.pair (.int .i64) (.pair (.int .i64) (.pair (.int .i64) (.pair (.int .i64) (.int .i64)))))) l2_14, .val (.int .i64) x3_14]))], 1000⟩
noncomputable def spec_l25Good.T : FnText := ⟨(conv [] (bodyOf Go.Proofs.Tryz.f84) 0).1, Go.Proofs.Tryz.f84.results.toList, 69, [(6, [(1, .bx 100 [.rd (.int .i64), .rd (.int .i64), .rd (.sl (.pair (.int .i64) (.pair (.int .i64) (.pair (.int .i64) (.pair (.int .i64) (.int .i64)))))), .rd (.int .i64)]), (3, .rd (.int .i64))]), (14, [(1, .bx 100 [.rd (.int .i64), .rd (.int .i64), .rd (.sl (.pair (.int .i64) (.pair (.int .i64) (.pair (.int .i64) (.pair (.int .i64) (.int .i64)))))), .rd (.int .i64)]), (3, .rd (.int .i64)), (4, .rd (.int .i64))])], [.ag [.d (.int .i64) none, .d (.int .i64) none, .d (.sl (.pair (.int .i64) (.pair (.int .i64) (.pair (.int .i64) (.pair (.int .i64) (.int .i64)))))) none, .d (.int .i64) none]], [.d .bool none]⟩
noncomputable def spec_l25Good.tbl (k : Nat) : Tbl := [(121, spec_l2Day.spec k), (118, spec_l1In.spec k), (122, spec_l25Carpet.spec k)]
theorem spec_l25Good.e6 (k : Nat) (o : Nat → St → Option (Bool)) (x0_6 : Int) (x1_6 : Int) (l2_6 : List (Int × Int × Int × Int × Int)) (x3_6 : Int) (x4_6 : Int) : spec_l25Good.T.step tyt (spec_l25Good.tbl k) o 6 (spec_l25Good.S6 x0_6 x1_6 l2_6 x3_6 x4_6) = spec_l25Good.b6 (fun x0_14 x1_14 l2_14 x3_14 x4_14 x5_14 => o 14 (spec_l25Good.S14 x0_14 x1_14 l2_14 x3_14 x4_14 x5_14)) k x0_6 x1_6 l2_6 x3_6 x4_6 := by kernel_rfl
theorem spec_l25Good.e14 (k : Nat) (o : Nat → St → Option (Bool)) (x0_14 : Int) (x1_14 : Int) (l2_14 : List (Int × Int × Int × Int × Int)) (x3_14 : Int) (x4_14 : Int) (x5_14 : Int) : spec_l25Good.T.step tyt (spec_l25Good.tbl k) o 14 (spec_l25Good.S14 x0_14 x1_14 l2_14 x3_14 x4_14 x5_14) = spec_l25Good.b14 (fun x0_6 x1_6 l2_6 x3_6 x4_6 => o 6 (spec_l25Good.S6 x0_6 x1_6 l2_6 x3_6 x4_6)) (fun x0_14 x1_14 l2_14 x3_14 x4_14 x5_14 => o 14 (spec_l25Good.S14 x0_14 x1_14 l2_14 x3_14 x4_14 x5_14)) k x0_14 x1_14 l2_14 x3_14 x4_14 x5_14 := by kernel_rfl
theorem spec_l25Good.e (k : Nat) (o : Nat → St → Option (Bool)) (a0_0 : Int) (a0_1 : Int) (l0_2 : List (Int × Int × Int × Int × Int)) (a0_3 : Int) : spec_l25Good.T.main tyt (spec_l25Good.tbl k) o (a0_0, a0_1, l0_2, a0_3) = spec_l25Good.m (fun x0_6 x1_6 l2_6 x3_6 x4_6 => o 6 (spec_l25Good.S6 x0_6 x1_6 l2_6 x3_6 x4_6)) k a0_0 a0_1 l0_2 a0_3 := by kernel_rfl
theorem spec_l25Good.ok : spec_l25Good.T.ok = true := by kernel_rfl
theorem spec_l25Good.run (k : Nat) : (∀ (x0_6 : Int) (x1_6 : Int) (l2_6 : List (Int × Int × Int × Int × Int)) (x3_6 : Int) (x4_6 : Int), spec_l25Good.T.run tyt spec_l25Good.tbl k 6 (spec_l25Good.S6 x0_6 x1_6 l2_6 x3_6 x4_6) = spec_l25Good.l6 k x0_6 x1_6 l2_6 x3_6 x4_6) ∧ (∀ (x0_14 : Int) (x1_14 : Int) (l2_14 : List (Int × Int × Int × Int × Int)) (x3_14 : Int) (x4_14 : Int) (x5_14 : Int), spec_l25Good.T.run tyt spec_l25Good.tbl k 14 (spec_l25Good.S14 x0_14 x1_14 l2_14 x3_14 x4_14 x5_14) = spec_l25Good.l14 k x0_14 x1_14 l2_14 x3_14 x4_14 x5_14) := by
  induction k with
  | zero => exact ⟨fun x0_6 x1_6 l2_6 x3_6 x4_6 => rfl, fun x0_14 x1_14 l2_14 x3_14 x4_14 x5_14 => rfl⟩
  | succ k ih =>
    exact ⟨fun x0_6 x1_6 l2_6 x3_6 x4_6 => by
      have q14 : (fun x0_14 x1_14 l2_14 x3_14 x4_14 x5_14 => spec_l25Good.T.run tyt spec_l25Good.tbl k 14 (spec_l25Good.S14 x0_14 x1_14 l2_14 x3_14 x4_14 x5_14)) = spec_l25Good.l14 k := by funext x0_14 x1_14 l2_14 x3_14 x4_14 x5_14; exact ih.2 x0_14 x1_14 l2_14 x3_14 x4_14 x5_14
      exact (spec_l25Good.e6 k (spec_l25Good.T.run tyt spec_l25Good.tbl k) x0_6 x1_6 l2_6 x3_6 x4_6).trans (by rw [q14]; rfl), fun x0_14 x1_14 l2_14 x3_14 x4_14 x5_14 => by
      have q6 : (fun x0_6 x1_6 l2_6 x3_6 x4_6 => spec_l25Good.T.run tyt spec_l25Good.tbl k 6 (spec_l25Good.S6 x0_6 x1_6 l2_6 x3_6 x4_6)) = spec_l25Good.l6 k := by funext x0_6 x1_6 l2_6 x3_6 x4_6; exact ih.1 x0_6 x1_6 l2_6 x3_6 x4_6
      have q14 : (fun x0_14 x1_14 l2_14 x3_14 x4_14 x5_14 => spec_l25Good.T.run tyt spec_l25Good.tbl k 14 (spec_l25Good.S14 x0_14 x1_14 l2_14 x3_14 x4_14 x5_14)) = spec_l25Good.l14 k := by funext x0_14 x1_14 l2_14 x3_14 x4_14 x5_14; exact ih.2 x0_14 x1_14 l2_14 x3_14 x4_14 x5_14
      exact (spec_l25Good.e14 k (spec_l25Good.T.run tyt spec_l25Good.tbl k) x0_14 x1_14 l2_14 x3_14 x4_14 x5_14).trans (by rw [q6, q14]; rfl)⟩
theorem spec_l25Good.tblok (k : Nat) : TblOk Go.Proofs.Tryz.prog (spec_l25Good.tbl k) := TblOk.cons (spec_l2Day.sound k) (TblOk.cons (spec_l1In.sound k) (TblOk.cons (spec_l25Carpet.sound k) (TblOk.nil _)))
theorem spec_l25Good.sound (k : Nat) : Sound Go.Proofs.Tryz.prog 84 (spec_l25Good.spec k) := by
  have h := fn_ok (F := spec_l25Good.T) (tbl := spec_l25Good.tbl) mixed tyok Go.Proofs.Tryz.func84 (by kernel_rfl) (c0 := bodyOf Go.Proofs.Tryz.f84) rfl (conv_code _ _ _) rfl rfl spec_l25Good.ok k (fun j _ => spec_l25Good.tblok j)
  have q6 : (fun x0_6 x1_6 l2_6 x3_6 x4_6 => spec_l25Good.T.run tyt spec_l25Good.tbl k 6 (spec_l25Good.S6 x0_6 x1_6 l2_6 x3_6 x4_6)) = spec_l25Good.l6 k := by funext x0_6 x1_6 l2_6 x3_6 x4_6; exact (spec_l25Good.run k).1 x0_6 x1_6 l2_6 x3_6 x4_6
  have e : spec_l25Good.spec k = ⟨spec_l25Good.T.ps, spec_l25Good.T.rs, spec_l25Good.T.ev tyt spec_l25Good.tbl k⟩ := congrArg (FnSpec.mk _ _) (funext fun x => ((spec_l25Good.e k (spec_l25Good.T.run tyt spec_l25Good.tbl k) x.1 x.2.1 x.2.2.1 x.2.2.2).trans (by rw [q6]; rfl)).symm)
  rw [e]
  exact h
/-! ### spec_l28Good: function 44 -/
def spec_l28Good.m (k : Nat) (a0_0 : Int) (a0_1 : Int) (l0_2 : List (Int × Int × Int × Int × Int)) (a0_3 : Int) (a0_4 : ByteArray) (a0_5 : ByteArray) (a0_6 : Int) : Option (Bool) := ((spec_l25Good.f k a0_0 a0_1 l0_2 a0_3).bind fun r1 => (cond r1 ((spec_l27Log.f k a0_4 a0_5 a0_6).bind fun r2 => (some r2)) (some false)))
def spec_l28Good.f (k : Nat) (a0_0 : Int) (a0_1 : Int) (l0_2 : List (Int × Int × Int × Int × Int)) (a0_3 : Int) (a0_4 : ByteArray) (a0_5 : ByteArray) (a0_6 : Int) : Option (Bool) := spec_l28Good.m k a0_0 a0_1 l0_2 a0_3 a0_4 a0_5 a0_6
noncomputable def spec_l28Good.spec (k : Nat) : FnSpec := ⟨[.ag [.d (.int .i64) none, .d (.int .i64) none, .d (.sl (.pair (.int .i64) (.pair (.int .i64) (.pair (.int .i64) (.pair (.int .i64) (.int .i64)))))) none, .d (.int .i64) none, .d .str none, .d .str none, .d (.int .i64) none]], [.d .bool none], fun x => spec_l28Good.f k x.1 x.2.1 x.2.2.1 x.2.2.2.1 x.2.2.2.2.1 x.2.2.2.2.2.1 x.2.2.2.2.2.2⟩
noncomputable def spec_l28Good.T : FnText := ⟨(conv [] (bodyOf Go.Proofs.Tryz.f44) 0).1, Go.Proofs.Tryz.f44.results.toList, 11, [], [.ag [.d (.int .i64) none, .d (.int .i64) none, .d (.sl (.pair (.int .i64) (.pair (.int .i64) (.pair (.int .i64) (.pair (.int .i64) (.int .i64)))))) none, .d (.int .i64) none, .d .str none, .d .str none, .d (.int .i64) none]], [.d .bool none]⟩
noncomputable def spec_l28Good.tbl (k : Nat) : Tbl := [(84, spec_l25Good.spec k), (40, spec_l27Log.spec k)]
theorem spec_l28Good.e (k : Nat) (o : Nat → St → Option (Bool)) (a0_0 : Int) (a0_1 : Int) (l0_2 : List (Int × Int × Int × Int × Int)) (a0_3 : Int) (a0_4 : ByteArray) (a0_5 : ByteArray) (a0_6 : Int) : spec_l28Good.T.main tyt (spec_l28Good.tbl k) o (a0_0, a0_1, l0_2, a0_3, a0_4, a0_5, a0_6) = spec_l28Good.m k a0_0 a0_1 l0_2 a0_3 a0_4 a0_5 a0_6 := by kernel_rfl
theorem spec_l28Good.ok : spec_l28Good.T.ok = true := by kernel_rfl
theorem spec_l28Good.tblok (k : Nat) : TblOk Go.Proofs.Tryz.prog (spec_l28Good.tbl k) := TblOk.cons (spec_l25Good.sound k) (TblOk.cons (spec_l27Log.sound k) (TblOk.nil _))
theorem spec_l28Good.sound (k : Nat) : Sound Go.Proofs.Tryz.prog 44 (spec_l28Good.spec k) := by
  have h := fn_ok (F := spec_l28Good.T) (tbl := spec_l28Good.tbl) mixed tyok Go.Proofs.Tryz.func44 (by kernel_rfl) (c0 := bodyOf Go.Proofs.Tryz.f44) rfl (conv_code _ _ _) rfl rfl spec_l28Good.ok k (fun j _ => spec_l28Good.tblok j)
  have e : spec_l28Good.spec k = ⟨spec_l28Good.T.ps, spec_l28Good.T.rs, spec_l28Good.T.ev tyt spec_l28Good.tbl k⟩ := congrArg (FnSpec.mk _ _) (funext fun x => ((spec_l28Good.e k (spec_l28Good.T.run tyt spec_l28Good.tbl k) x.1 x.2.1 x.2.2.1 x.2.2.2.1 x.2.2.2.2.1 x.2.2.2.2.2.1 x.2.2.2.2.2.2).trans (by rfl)).symm)
  rw [e]
  exact h
/-! ### spec_l1Read: function 123 -/
def spec_l1Read.b2 (o10 : ByteArray → ByteArray → Int → Int → Option (Int × Bool)) (k : Nat) (x0_2 : ByteArray) (x1_2 : ByteArray) : Option (Int × Bool) := ((spec_l1In.f k (x1_2.size : Int) 1 6).bind fun r3 => (cond (!r3) (some (0, false)) (o10 x0_2 x1_2 0 0)))
def spec_l1Read.b10 (o10 : ByteArray → ByteArray → Int → Int → Option (Int × Bool)) (o17 : ByteArray → Int → Option (Int × Bool)) (k : Nat) (x0_10 : ByteArray) (x1_10 : ByteArray) (x2_10 : Int) (x3_10 : Int) : Option (Int × Bool) := (if x3_10 < (x1_10.size : Int) then ((chk x1_10.size x3_10).bind fun i4 => (if (byteAt x1_10 i4) < 48 then (some (0, false)) else ((chk x1_10.size x3_10).bind fun i5 => (if 57 < (byteAt x1_10 i5) then (some (0, false)) else ((chk x1_10.size x3_10).bind fun i6 => (o10 x0_10 x1_10 (w64 ((w64 (10 * x2_10)) + (w64 ((IntKind.u8.wrap ((byteAt x1_10 i6) - 48)))))) (w64 (x3_10 + 1)))))))) else (if (x1_10.size : Int) < (x0_10.size : Int) then (o17 x0_10 (w64 (0 - x2_10))) else (o17 x0_10 x2_10)))
def spec_l1Read.b17 (k : Nat) (x0_17 : ByteArray) (x1_17 : Int) : Option (Int × Bool) := ((spec_l1Num.f k x1_17).bind fun r7 => (if ¬ r7 = x0_17 then (some (0, false)) else (some (x1_17, true))))
mutual
def spec_l1Read.l2 : Nat → ByteArray → ByteArray → Option (Int × Bool)
  | 0, _, _ => none
  | k + 1, x0_2, x1_2 => spec_l1Read.b2 (spec_l1Read.l10 k) k x0_2 x1_2
def spec_l1Read.l10 : Nat → ByteArray → ByteArray → Int → Int → Option (Int × Bool)
  | 0, _, _, _, _ => none
  | k + 1, x0_10, x1_10, x2_10, x3_10 => spec_l1Read.b10 (spec_l1Read.l10 k) (spec_l1Read.l17 k) k x0_10 x1_10 x2_10 x3_10
def spec_l1Read.l17 : Nat → ByteArray → Int → Option (Int × Bool)
  | 0, _, _ => none
  | k + 1, x0_17, x1_17 => spec_l1Read.b17 k x0_17 x1_17
end
def spec_l1Read.m (o2 : ByteArray → ByteArray → Option (Int × Bool)) (k : Nat) (a0 : ByteArray) : Option (Int × Bool) := (if 1 < (a0.size : Int) then ((chk a0.size 0).bind fun i1 => (if (byteAt a0 i1) = 45 then ((cut a0.size 1 (a0.size : Int)).bind fun c2 => (o2 a0 (a0.extract c2.1 (c2.1 + c2.2)))) else (o2 a0 a0))) else (o2 a0 a0))
def spec_l1Read.f (k : Nat) (a0 : ByteArray) : Option (Int × Bool) := spec_l1Read.m (spec_l1Read.l2 k) k a0
noncomputable def spec_l1Read.spec (k : Nat) : FnSpec := ⟨[.d .str none], [.d (.int .i64) none, .d .bool none], fun x => spec_l1Read.f k x⟩
def spec_l1Read.S2 (x0_2 : ByteArray) (x1_2 : ByteArray) : St := ⟨[(0, .val .str x0_2), (4, .val .str x1_2)], [], 1000⟩
def spec_l1Read.S10 (x0_10 : ByteArray) (x1_10 : ByteArray) (x2_10 : Int) (x3_10 : Int) : St := ⟨[(0, .val .str x0_10), (4, .val .str x1_10), (5, .val (.int .i64) x2_10), (6, .val (.int .i64) x3_10)], [], 1000⟩
def spec_l1Read.S17 (x0_17 : ByteArray) (x1_17 : Int) : St := ⟨[(0, .val .str x0_17), (5, .val (.int .i64) x1_17)], [], 1000⟩
noncomputable def spec_l1Read.T : FnText := ⟨(conv [2, 17] (bodyOf Go.Proofs.Tryz.f123) 0).1, Go.Proofs.Tryz.f123.results.toList, 58, [(2, [(0, .rd .str), (4, .rd .str)]), (10, [(0, .rd .str), (4, .rd .str), (5, .rd (.int .i64)), (6, .rd (.int .i64))]), (17, [(0, .rd .str), (5, .rd (.int .i64))])], [.d .str none], [.d (.int .i64) none, .d .bool none]⟩
noncomputable def spec_l1Read.tbl (k : Nat) : Tbl := [(118, spec_l1In.spec k), (73, spec_l1Num.spec k)]
theorem spec_l1Read.e2 (k : Nat) (o : Nat → St → Option (Int × Bool)) (x0_2 : ByteArray) (x1_2 : ByteArray) : spec_l1Read.T.step tyt (spec_l1Read.tbl k) o 2 (spec_l1Read.S2 x0_2 x1_2) = spec_l1Read.b2 (fun x0_10 x1_10 x2_10 x3_10 => o 10 (spec_l1Read.S10 x0_10 x1_10 x2_10 x3_10)) k x0_2 x1_2 := by kernel_rfl
theorem spec_l1Read.e10 (k : Nat) (o : Nat → St → Option (Int × Bool)) (x0_10 : ByteArray) (x1_10 : ByteArray) (x2_10 : Int) (x3_10 : Int) : spec_l1Read.T.step tyt (spec_l1Read.tbl k) o 10 (spec_l1Read.S10 x0_10 x1_10 x2_10 x3_10) = spec_l1Read.b10 (fun x0_10 x1_10 x2_10 x3_10 => o 10 (spec_l1Read.S10 x0_10 x1_10 x2_10 x3_10)) (fun x0_17 x1_17 => o 17 (spec_l1Read.S17 x0_17 x1_17)) k x0_10 x1_10 x2_10 x3_10 := by kernel_rfl
theorem spec_l1Read.e17 (k : Nat) (o : Nat → St → Option (Int × Bool)) (x0_17 : ByteArray) (x1_17 : Int) : spec_l1Read.T.step tyt (spec_l1Read.tbl k) o 17 (spec_l1Read.S17 x0_17 x1_17) = spec_l1Read.b17 k x0_17 x1_17 := by kernel_rfl
theorem spec_l1Read.e (k : Nat) (o : Nat → St → Option (Int × Bool)) (a0 : ByteArray) : spec_l1Read.T.main tyt (spec_l1Read.tbl k) o a0 = spec_l1Read.m (fun x0_2 x1_2 => o 2 (spec_l1Read.S2 x0_2 x1_2)) k a0 := by kernel_rfl
theorem spec_l1Read.ok : spec_l1Read.T.ok = true := by kernel_rfl
theorem spec_l1Read.run (k : Nat) : (∀ (x0_2 : ByteArray) (x1_2 : ByteArray), spec_l1Read.T.run tyt spec_l1Read.tbl k 2 (spec_l1Read.S2 x0_2 x1_2) = spec_l1Read.l2 k x0_2 x1_2) ∧ (∀ (x0_10 : ByteArray) (x1_10 : ByteArray) (x2_10 : Int) (x3_10 : Int), spec_l1Read.T.run tyt spec_l1Read.tbl k 10 (spec_l1Read.S10 x0_10 x1_10 x2_10 x3_10) = spec_l1Read.l10 k x0_10 x1_10 x2_10 x3_10) ∧ (∀ (x0_17 : ByteArray) (x1_17 : Int), spec_l1Read.T.run tyt spec_l1Read.tbl k 17 (spec_l1Read.S17 x0_17 x1_17) = spec_l1Read.l17 k x0_17 x1_17) := by
  induction k with
  | zero => exact ⟨fun x0_2 x1_2 => rfl, fun x0_10 x1_10 x2_10 x3_10 => rfl, fun x0_17 x1_17 => rfl⟩
  | succ k ih =>
    exact ⟨fun x0_2 x1_2 => by
      have q10 : (fun x0_10 x1_10 x2_10 x3_10 => spec_l1Read.T.run tyt spec_l1Read.tbl k 10 (spec_l1Read.S10 x0_10 x1_10 x2_10 x3_10)) = spec_l1Read.l10 k := by funext x0_10 x1_10 x2_10 x3_10; exact ih.2.1 x0_10 x1_10 x2_10 x3_10
      exact (spec_l1Read.e2 k (spec_l1Read.T.run tyt spec_l1Read.tbl k) x0_2 x1_2).trans (by rw [q10]; rfl), fun x0_10 x1_10 x2_10 x3_10 => by
      have q10 : (fun x0_10 x1_10 x2_10 x3_10 => spec_l1Read.T.run tyt spec_l1Read.tbl k 10 (spec_l1Read.S10 x0_10 x1_10 x2_10 x3_10)) = spec_l1Read.l10 k := by funext x0_10 x1_10 x2_10 x3_10; exact ih.2.1 x0_10 x1_10 x2_10 x3_10
      have q17 : (fun x0_17 x1_17 => spec_l1Read.T.run tyt spec_l1Read.tbl k 17 (spec_l1Read.S17 x0_17 x1_17)) = spec_l1Read.l17 k := by funext x0_17 x1_17; exact ih.2.2 x0_17 x1_17
      exact (spec_l1Read.e10 k (spec_l1Read.T.run tyt spec_l1Read.tbl k) x0_10 x1_10 x2_10 x3_10).trans (by rw [q10, q17]; rfl), fun x0_17 x1_17 => by
      exact (spec_l1Read.e17 k (spec_l1Read.T.run tyt spec_l1Read.tbl k) x0_17 x1_17).trans (by rfl)⟩
theorem spec_l1Read.tblok (k : Nat) : TblOk Go.Proofs.Tryz.prog (spec_l1Read.tbl k) := TblOk.cons (spec_l1In.sound k) (TblOk.cons (spec_l1Num.sound k) (TblOk.nil _))
theorem spec_l1Read.sound (k : Nat) : Sound Go.Proofs.Tryz.prog 123 (spec_l1Read.spec k) := by
  have h := fn_ok (F := spec_l1Read.T) (tbl := spec_l1Read.tbl) mixed tyok Go.Proofs.Tryz.func123 (by kernel_rfl) (c0 := bodyOf Go.Proofs.Tryz.f123) rfl (conv_code _ _ _) rfl rfl spec_l1Read.ok k (fun j _ => spec_l1Read.tblok j)
  have q2 : (fun x0_2 x1_2 => spec_l1Read.T.run tyt spec_l1Read.tbl k 2 (spec_l1Read.S2 x0_2 x1_2)) = spec_l1Read.l2 k := by funext x0_2 x1_2; exact (spec_l1Read.run k).1 x0_2 x1_2
  have e : spec_l1Read.spec k = ⟨spec_l1Read.T.ps, spec_l1Read.T.rs, spec_l1Read.T.ev tyt spec_l1Read.tbl k⟩ := congrArg (FnSpec.mk _ _) (funext fun x => ((spec_l1Read.e k (spec_l1Read.T.run tyt spec_l1Read.tbl k) x).trans (by rw [q2]; rfl)).symm)
  rw [e]
  exact h
/-! ### spec_ParseInt: function 87 -/
def spec_ParseInt.m (k : Nat) (a0 : ByteArray) : Option (Int × Bool) := ((spec_l1Read.f k a0).bind fun r1 => (some (r1.1, r1.2)))
def spec_ParseInt.f (k : Nat) (a0 : ByteArray) : Option (Int × Bool) := spec_ParseInt.m k a0
noncomputable def spec_ParseInt.spec (k : Nat) : FnSpec := ⟨[.d .str none], [.d (.int .i64) none, .d .bool none], fun x => spec_ParseInt.f k x⟩
noncomputable def spec_ParseInt.T : FnText := ⟨(conv [] (bodyOf Go.Proofs.Tryz.f87) 0).1, Go.Proofs.Tryz.f87.results.toList, 8, [], [.d .str none], [.d (.int .i64) none, .d .bool none]⟩
noncomputable def spec_ParseInt.tbl (k : Nat) : Tbl := [(123, spec_l1Read.spec k)]
theorem spec_ParseInt.e (k : Nat) (o : Nat → St → Option (Int × Bool)) (a0 : ByteArray) : spec_ParseInt.T.main tyt (spec_ParseInt.tbl k) o a0 = spec_ParseInt.m k a0 := by kernel_rfl
theorem spec_ParseInt.ok : spec_ParseInt.T.ok = true := by kernel_rfl
theorem spec_ParseInt.tblok (k : Nat) : TblOk Go.Proofs.Tryz.prog (spec_ParseInt.tbl k) := TblOk.cons (spec_l1Read.sound k) (TblOk.nil _)
theorem spec_ParseInt.sound (k : Nat) : Sound Go.Proofs.Tryz.prog 87 (spec_ParseInt.spec k) := by
  have h := fn_ok (F := spec_ParseInt.T) (tbl := spec_ParseInt.tbl) mixed tyok Go.Proofs.Tryz.func87 (by kernel_rfl) (c0 := bodyOf Go.Proofs.Tryz.f87) rfl (conv_code _ _ _) rfl rfl spec_ParseInt.ok k (fun j _ => spec_ParseInt.tblok j)
  have e : spec_ParseInt.spec k = ⟨spec_ParseInt.T.ps, spec_ParseInt.T.rs, spec_ParseInt.T.ev tyt spec_ParseInt.tbl k⟩ := congrArg (FnSpec.mk _ _) (funext fun x => ((spec_ParseInt.e k (spec_ParseInt.T.run tyt spec_ParseInt.tbl k) x).trans (by rfl)).symm)
  rw [e]
  exact h
/-! ### spec_FreeLooms: function 124 -/
def spec_FreeLooms.b7 (o14 : Int → Int → (List (Int × Int × Int × Int × Int)) → Int → List Int → Int → Bool → Int → Option (List Int × Bool)) (k : Nat) (x0_7 : Int) (x1_7 : Int) (l2_7 : List (Int × Int × Int × Int × Int)) (x3_7 : Int) (l4_7 : List Int) (x5_7 : Int) : Option (List Int × Bool) := (if x5_7 ≤ x1_7 then (o14 x0_7 x1_7 l2_7 x3_7 l4_7 x5_7 true 0) else (some (l4_7, true)))
def spec_FreeLooms.b14 (o7 : Int → Int → (List (Int × Int × Int × Int × Int)) → Int → List Int → Int → Option (List Int × Bool)) (o14 : Int → Int → (List (Int × Int × Int × Int × Int)) → Int → List Int → Int → Bool → Int → Option (List Int × Bool)) (k : Nat) (x0_14 : Int) (x1_14 : Int) (l2_14 : List (Int × Int × Int × Int × Int)) (x3_14 : Int) (l4_14 : List Int) (x5_14 : Int) (x6_14 : Bool) (x7_14 : Int) : Option (List Int × Bool) := (if x7_14 < (l2_14.length : Int) then (cond x6_14 ((chk l2_14.length x7_14).bind fun i2 => (o14 x0_14 x1_14 l2_14 x3_14 l4_14 x5_14 (decide (¬ (((((l2_14.getD i2 (0, 0, 0, 0, 0)).2).2).2).1) = x5_14)) (w64 (x7_14 + 1)))) (o14 x0_14 x1_14 l2_14 x3_14 l4_14 x5_14 false (w64 (x7_14 + 1)))) else (cond x6_14 ((app 17592186044416 l4_14 [x5_14]).bind fun l3 => (o7 x0_14 x1_14 l2_14 x3_14 l3 (w64 (x5_14 + 1)))) (o7 x0_14 x1_14 l2_14 x3_14 l4_14 (w64 (x5_14 + 1)))))
mutual
def spec_FreeLooms.l7 : Nat → Int → Int → (List (Int × Int × Int × Int × Int)) → Int → List Int → Int → Option (List Int × Bool)
  | 0, _, _, _, _, _, _ => none
  | k + 1, x0_7, x1_7, l2_7, x3_7, l4_7, x5_7 => spec_FreeLooms.b7 (spec_FreeLooms.l14 k) k x0_7 x1_7 l2_7 x3_7 l4_7 x5_7
def spec_FreeLooms.l14 : Nat → Int → Int → (List (Int × Int × Int × Int × Int)) → Int → List Int → Int → Bool → Int → Option (List Int × Bool)
  | 0, _, _, _, _, _, _, _, _ => none
  | k + 1, x0_14, x1_14, l2_14, x3_14, l4_14, x5_14, x6_14, x7_14 => spec_FreeLooms.b14 (spec_FreeLooms.l7 k) (spec_FreeLooms.l14 k) k x0_14 x1_14 l2_14 x3_14 l4_14 x5_14 x6_14 x7_14
end
def spec_FreeLooms.m (o7 : Int → Int → (List (Int × Int × Int × Int × Int)) → Int → List Int → Int → Option (List Int × Bool)) (k : Nat) (a0_0 : Int) (a0_1 : Int) (l0_2 : List (Int × Int × Int × Int × Int)) (a0_3 : Int) : Option (List Int × Bool) := ((spec_l25Good.f k a0_0 a0_1 l0_2 a0_3).bind fun r1 => (cond (!r1) (some (([] : List (Int)), false)) (o7 a0_0 a0_1 l0_2 a0_3 ([] : List (Int)) 1)))
def spec_FreeLooms.f (k : Nat) (a0_0 : Int) (a0_1 : Int) (l0_2 : List (Int × Int × Int × Int × Int)) (a0_3 : Int) : Option (List Int × Bool) := spec_FreeLooms.m (spec_FreeLooms.l7 k) k a0_0 a0_1 l0_2 a0_3
noncomputable def spec_FreeLooms.spec (k : Nat) : FnSpec := ⟨[.ag [.d (.int .i64) none, .d (.int .i64) none, .d (.sl (.pair (.int .i64) (.pair (.int .i64) (.pair (.int .i64) (.pair (.int .i64) (.int .i64)))))) none, .d (.int .i64) none]], [.d (.sl (.int .i64)) (some 3), .d .bool none], fun x => spec_FreeLooms.f k x.1 x.2.1 x.2.2.1 x.2.2.2⟩
def spec_FreeLooms.S7 (x0_7 : Int) (x1_7 : Int) (l2_7 : List (Int × Int × Int × Int × Int)) (x3_7 : Int) (l4_7 : List Int) (x5_7 : Int) : St := ⟨[(1, .ptr 100 0), (4, .ref 101), (5, .val (.int .i64) x5_7)], [(101, some (.row 3 (.int .i64) l4_7)), (100, some (.box [.val (.int .i64) x0_7, .val (.int .i64) x1_7, .val (.sl (.pair (.int .i64) (.pair (.int .i64) (.pair (.int .i64) (.pair (.int .i64) (.int .i64)))))) l2_7, .val (.int .i64) x3_7]))], 1000⟩
def spec_FreeLooms.S14 (x0_14 : Int) (x1_14 : Int) (l2_14 : List (Int × Int × Int × Int × Int)) (x3_14 : Int) (l4_14 : List Int) (x5_14 : Int) (x6_14 : Bool) (x7_14 : Int) : St := ⟨[(1, .ptr 100 0), (4, .ref 101), (5, .val (.int .i64) x5_14), (6, .val .bool x6_14), (7, .val (.int .i64) x7_14)], [(101, some (.row 3 (.int .i64) l4_14)), (100, some (.box [.val (.int .i64) x0_14, .val (.int .i64) x1_14, .val (.sl (.pair (.int .i64) (.pair (.int .i64) (.pair (.int .i64) (.pair (.int .i64) (.int .i64)))))) l2_14, .val (.int .i64) x3_14]))], 1000⟩
noncomputable def spec_FreeLooms.T : FnText := ⟨(conv [] (bodyOf Go.Proofs.Tryz.f124) 0).1, Go.Proofs.Tryz.f124.results.toList, 43, [(7, [(1, .bx 100 [.rd (.int .i64), .rd (.int .i64), .rd (.sl (.pair (.int .i64) (.pair (.int .i64) (.pair (.int .i64) (.pair (.int .i64) (.int .i64)))))), .rd (.int .i64)]), (4, .own 3 (.int .i64) 101), (5, .rd (.int .i64))]), (14, [(1, .bx 100 [.rd (.int .i64), .rd (.int .i64), .rd (.sl (.pair (.int .i64) (.pair (.int .i64) (.pair (.int .i64) (.pair (.int .i64) (.int .i64)))))), .rd (.int .i64)]), (4, .own 3 (.int .i64) 101), (5, .rd (.int .i64)), (6, .rd .bool), (7, .rd (.int .i64))])], [.ag [.d (.int .i64) none, .d (.int .i64) none, .d (.sl (.pair (.int .i64) (.pair (.int .i64) (.pair (.int .i64) (.pair (.int .i64) (.int .i64)))))) none, .d (.int .i64) none]], [.d (.sl (.int .i64)) (some 3), .d .bool none]⟩
noncomputable def spec_FreeLooms.tbl (k : Nat) : Tbl := [(84, spec_l25Good.spec k)]
theorem spec_FreeLooms.e7 (k : Nat) (o : Nat → St → Option (List Int × Bool)) (x0_7 : Int) (x1_7 : Int) (l2_7 : List (Int × Int × Int × Int × Int)) (x3_7 : Int) (l4_7 : List Int) (x5_7 : Int) : spec_FreeLooms.T.step tyt (spec_FreeLooms.tbl k) o 7 (spec_FreeLooms.S7 x0_7 x1_7 l2_7 x3_7 l4_7 x5_7) = spec_FreeLooms.b7 (fun x0_14 x1_14 l2_14 x3_14 l4_14 x5_14 x6_14 x7_14 => o 14 (spec_FreeLooms.S14 x0_14 x1_14 l2_14 x3_14 l4_14 x5_14 x6_14 x7_14)) k x0_7 x1_7 l2_7 x3_7 l4_7 x5_7 := by kernel_rfl
theorem spec_FreeLooms.e14 (k : Nat) (o : Nat → St → Option (List Int × Bool)) (x0_14 : Int) (x1_14 : Int) (l2_14 : List (Int × Int × Int × Int × Int)) (x3_14 : Int) (l4_14 : List Int) (x5_14 : Int) (x6_14 : Bool) (x7_14 : Int) : spec_FreeLooms.T.step tyt (spec_FreeLooms.tbl k) o 14 (spec_FreeLooms.S14 x0_14 x1_14 l2_14 x3_14 l4_14 x5_14 x6_14 x7_14) = spec_FreeLooms.b14 (fun x0_7 x1_7 l2_7 x3_7 l4_7 x5_7 => o 7 (spec_FreeLooms.S7 x0_7 x1_7 l2_7 x3_7 l4_7 x5_7)) (fun x0_14 x1_14 l2_14 x3_14 l4_14 x5_14 x6_14 x7_14 => o 14 (spec_FreeLooms.S14 x0_14 x1_14 l2_14 x3_14 l4_14 x5_14 x6_14 x7_14)) k x0_14 x1_14 l2_14 x3_14 l4_14 x5_14 x6_14 x7_14 := by kernel_rfl
theorem spec_FreeLooms.e (k : Nat) (o : Nat → St → Option (List Int × Bool)) (a0_0 : Int) (a0_1 : Int) (l0_2 : List (Int × Int × Int × Int × Int)) (a0_3 : Int) : spec_FreeLooms.T.main tyt (spec_FreeLooms.tbl k) o (a0_0, a0_1, l0_2, a0_3) = spec_FreeLooms.m (fun x0_7 x1_7 l2_7 x3_7 l4_7 x5_7 => o 7 (spec_FreeLooms.S7 x0_7 x1_7 l2_7 x3_7 l4_7 x5_7)) k a0_0 a0_1 l0_2 a0_3 := by kernel_rfl
theorem spec_FreeLooms.ok : spec_FreeLooms.T.ok = true := by kernel_rfl
theorem spec_FreeLooms.run (k : Nat) : (∀ (x0_7 : Int) (x1_7 : Int) (l2_7 : List (Int × Int × Int × Int × Int)) (x3_7 : Int) (l4_7 : List Int) (x5_7 : Int), spec_FreeLooms.T.run tyt spec_FreeLooms.tbl k 7 (spec_FreeLooms.S7 x0_7 x1_7 l2_7 x3_7 l4_7 x5_7) = spec_FreeLooms.l7 k x0_7 x1_7 l2_7 x3_7 l4_7 x5_7) ∧ (∀ (x0_14 : Int) (x1_14 : Int) (l2_14 : List (Int × Int × Int × Int × Int)) (x3_14 : Int) (l4_14 : List Int) (x5_14 : Int) (x6_14 : Bool) (x7_14 : Int), spec_FreeLooms.T.run tyt spec_FreeLooms.tbl k 14 (spec_FreeLooms.S14 x0_14 x1_14 l2_14 x3_14 l4_14 x5_14 x6_14 x7_14) = spec_FreeLooms.l14 k x0_14 x1_14 l2_14 x3_14 l4_14 x5_14 x6_14 x7_14) := by
  induction k with
  | zero => exact ⟨fun x0_7 x1_7 l2_7 x3_7 l4_7 x5_7 => rfl, fun x0_14 x1_14 l2_14 x3_14 l4_14 x5_14 x6_14 x7_14 => rfl⟩
  | succ k ih =>
    exact ⟨fun x0_7 x1_7 l2_7 x3_7 l4_7 x5_7 => by
      have q14 : (fun x0_14 x1_14 l2_14 x3_14 l4_14 x5_14 x6_14 x7_14 => spec_FreeLooms.T.run tyt spec_FreeLooms.tbl k 14 (spec_FreeLooms.S14 x0_14 x1_14 l2_14 x3_14 l4_14 x5_14 x6_14 x7_14)) = spec_FreeLooms.l14 k := by funext x0_14 x1_14 l2_14 x3_14 l4_14 x5_14 x6_14 x7_14; exact ih.2 x0_14 x1_14 l2_14 x3_14 l4_14 x5_14 x6_14 x7_14
      exact (spec_FreeLooms.e7 k (spec_FreeLooms.T.run tyt spec_FreeLooms.tbl k) x0_7 x1_7 l2_7 x3_7 l4_7 x5_7).trans (by rw [q14]; rfl), fun x0_14 x1_14 l2_14 x3_14 l4_14 x5_14 x6_14 x7_14 => by
      have q7 : (fun x0_7 x1_7 l2_7 x3_7 l4_7 x5_7 => spec_FreeLooms.T.run tyt spec_FreeLooms.tbl k 7 (spec_FreeLooms.S7 x0_7 x1_7 l2_7 x3_7 l4_7 x5_7)) = spec_FreeLooms.l7 k := by funext x0_7 x1_7 l2_7 x3_7 l4_7 x5_7; exact ih.1 x0_7 x1_7 l2_7 x3_7 l4_7 x5_7
      have q14 : (fun x0_14 x1_14 l2_14 x3_14 l4_14 x5_14 x6_14 x7_14 => spec_FreeLooms.T.run tyt spec_FreeLooms.tbl k 14 (spec_FreeLooms.S14 x0_14 x1_14 l2_14 x3_14 l4_14 x5_14 x6_14 x7_14)) = spec_FreeLooms.l14 k := by funext x0_14 x1_14 l2_14 x3_14 l4_14 x5_14 x6_14 x7_14; exact ih.2 x0_14 x1_14 l2_14 x3_14 l4_14 x5_14 x6_14 x7_14
      exact (spec_FreeLooms.e14 k (spec_FreeLooms.T.run tyt spec_FreeLooms.tbl k) x0_14 x1_14 l2_14 x3_14 l4_14 x5_14 x6_14 x7_14).trans (by rw [q7, q14]; rfl)⟩
theorem spec_FreeLooms.tblok (k : Nat) : TblOk Go.Proofs.Tryz.prog (spec_FreeLooms.tbl k) := TblOk.cons (spec_l25Good.sound k) (TblOk.nil _)
theorem spec_FreeLooms.sound (k : Nat) : Sound Go.Proofs.Tryz.prog 124 (spec_FreeLooms.spec k) := by
  have h := fn_ok (F := spec_FreeLooms.T) (tbl := spec_FreeLooms.tbl) mixed tyok Go.Proofs.Tryz.func124 (by kernel_rfl) (c0 := bodyOf Go.Proofs.Tryz.f124) rfl (conv_code _ _ _) rfl rfl spec_FreeLooms.ok k (fun j _ => spec_FreeLooms.tblok j)
  have q7 : (fun x0_7 x1_7 l2_7 x3_7 l4_7 x5_7 => spec_FreeLooms.T.run tyt spec_FreeLooms.tbl k 7 (spec_FreeLooms.S7 x0_7 x1_7 l2_7 x3_7 l4_7 x5_7)) = spec_FreeLooms.l7 k := by funext x0_7 x1_7 l2_7 x3_7 l4_7 x5_7; exact (spec_FreeLooms.run k).1 x0_7 x1_7 l2_7 x3_7 l4_7 x5_7
  have e : spec_FreeLooms.spec k = ⟨spec_FreeLooms.T.ps, spec_FreeLooms.T.rs, spec_FreeLooms.T.ev tyt spec_FreeLooms.tbl k⟩ := congrArg (FnSpec.mk _ _) (funext fun x => ((spec_FreeLooms.e k (spec_FreeLooms.T.run tyt spec_FreeLooms.tbl k) x.1 x.2.1 x.2.2.1 x.2.2.2).trans (by rw [q7]; rfl)).symm)
  rw [e]
  exact h
/-! ### spec_l28List: function 125 -/
def spec_l28List.b10 (o10 : List Int → ByteArray → Int → Option (ByteArray)) (k : Nat) (l0_10 : List Int) (x1_10 : ByteArray) (x2_10 : Int) : Option (ByteArray) := (if x2_10 < (l0_10.length : Int) then ((catS x1_10 (⟨#[32]⟩ : ByteArray)).bind fun s3 => ((chk l0_10.length x2_10).bind fun i4 => ((spec_l1Num.f k (l0_10.getD i4 0)).bind fun r5 => ((catS s3 r5).bind fun s6 => (o10 l0_10 s6 (w64 (x2_10 + 1))))))) else (some x1_10))
def spec_l28List.l10 : Nat → List Int → ByteArray → Int → Option (ByteArray)
  | 0, _, _, _ => none
  | k + 1, l0_10, x1_10, x2_10 => spec_l28List.b10 (spec_l28List.l10 k) k l0_10 x1_10 x2_10
def spec_l28List.m (o10 : List Int → ByteArray → Int → Option (ByteArray)) (k : Nat) (l0 : List Int) (a1 : Bool) : Option (ByteArray) := (cond (!a1) (some (⟨#[63]⟩ : ByteArray)) (if (l0.length : Int) = 0 then (some (⟨#[110, 111, 110, 101]⟩ : ByteArray)) else ((chk l0.length 0).bind fun i1 => ((spec_l1Num.f k (l0.getD i1 0)).bind fun r2 => (o10 l0 r2 1)))))
def spec_l28List.f (k : Nat) (l0 : List Int) (a1 : Bool) : Option (ByteArray) := spec_l28List.m (spec_l28List.l10 k) k l0 a1
noncomputable def spec_l28List.spec (k : Nat) : FnSpec := ⟨[.d (.sl (.int .i64)) none, .d .bool none], [.d .str none], fun x => spec_l28List.f k x.1 x.2⟩
def spec_l28List.S10 (l0_10 : List Int) (x1_10 : ByteArray) (x2_10 : Int) : St := ⟨[(0, .val (.sl (.int .i64)) l0_10), (5, .val .str x1_10), (6, .val (.int .i64) x2_10)], [], 1000⟩
noncomputable def spec_l28List.T : FnText := ⟨(conv [] (bodyOf Go.Proofs.Tryz.f125) 0).1, Go.Proofs.Tryz.f125.results.toList, 31, [(10, [(0, .rd (.sl (.int .i64))), (5, .rd .str), (6, .rd (.int .i64))])], [.d (.sl (.int .i64)) none, .d .bool none], [.d .str none]⟩
noncomputable def spec_l28List.tbl (k : Nat) : Tbl := [(73, spec_l1Num.spec k)]
theorem spec_l28List.e10 (k : Nat) (o : Nat → St → Option (ByteArray)) (l0_10 : List Int) (x1_10 : ByteArray) (x2_10 : Int) : spec_l28List.T.step tyt (spec_l28List.tbl k) o 10 (spec_l28List.S10 l0_10 x1_10 x2_10) = spec_l28List.b10 (fun l0_10 x1_10 x2_10 => o 10 (spec_l28List.S10 l0_10 x1_10 x2_10)) k l0_10 x1_10 x2_10 := by kernel_rfl
theorem spec_l28List.e (k : Nat) (o : Nat → St → Option (ByteArray)) (l0 : List Int) (a1 : Bool) : spec_l28List.T.main tyt (spec_l28List.tbl k) o (l0, a1) = spec_l28List.m (fun l0_10 x1_10 x2_10 => o 10 (spec_l28List.S10 l0_10 x1_10 x2_10)) k l0 a1 := by kernel_rfl
theorem spec_l28List.ok : spec_l28List.T.ok = true := by kernel_rfl
theorem spec_l28List.run (k : Nat) : (∀ (l0_10 : List Int) (x1_10 : ByteArray) (x2_10 : Int), spec_l28List.T.run tyt spec_l28List.tbl k 10 (spec_l28List.S10 l0_10 x1_10 x2_10) = spec_l28List.l10 k l0_10 x1_10 x2_10) := by
  induction k with
  | zero => exact fun l0_10 x1_10 x2_10 => rfl
  | succ k ih =>
    exact fun l0_10 x1_10 x2_10 => by
      have q10 : (fun l0_10 x1_10 x2_10 => spec_l28List.T.run tyt spec_l28List.tbl k 10 (spec_l28List.S10 l0_10 x1_10 x2_10)) = spec_l28List.l10 k := by funext l0_10 x1_10 x2_10; exact ih l0_10 x1_10 x2_10
      exact (spec_l28List.e10 k (spec_l28List.T.run tyt spec_l28List.tbl k) l0_10 x1_10 x2_10).trans (by rw [q10]; rfl)
theorem spec_l28List.tblok (k : Nat) : TblOk Go.Proofs.Tryz.prog (spec_l28List.tbl k) := TblOk.cons (spec_l1Num.sound k) (TblOk.nil _)
theorem spec_l28List.sound (k : Nat) : Sound Go.Proofs.Tryz.prog 125 (spec_l28List.spec k) := by
  have h := fn_ok (F := spec_l28List.T) (tbl := spec_l28List.tbl) mixed tyok Go.Proofs.Tryz.func125 (by kernel_rfl) (c0 := bodyOf Go.Proofs.Tryz.f125) rfl (conv_code _ _ _) rfl rfl spec_l28List.ok k (fun j _ => spec_l28List.tblok j)
  have q10 : (fun l0_10 x1_10 x2_10 => spec_l28List.T.run tyt spec_l28List.tbl k 10 (spec_l28List.S10 l0_10 x1_10 x2_10)) = spec_l28List.l10 k := by funext l0_10 x1_10 x2_10; exact (spec_l28List.run k) l0_10 x1_10 x2_10
  have e : spec_l28List.spec k = ⟨spec_l28List.T.ps, spec_l28List.T.rs, spec_l28List.T.ev tyt spec_l28List.tbl k⟩ := congrArg (FnSpec.mk _ _) (funext fun x => ((spec_l28List.e k (spec_l28List.T.run tyt spec_l28List.tbl k) x.1 x.2).trans (by rw [q10]; rfl)).symm)
  rw [e]
  exact h
/-! ### spec_RowsLeft: function 126 -/
def spec_RowsLeft.b7 (o7 : Int → Int → (List (Int × Int × Int × Int × Int)) → Int → Int → Int → Option (Int × Bool)) (k : Nat) (x0_7 : Int) (x1_7 : Int) (l2_7 : List (Int × Int × Int × Int × Int)) (x3_7 : Int) (x4_7 : Int) (x5_7 : Int) : Option (Int × Bool) := (if x5_7 < (l2_7.length : Int) then ((chk l2_7.length x5_7).bind fun i2 => ((chk l2_7.length x5_7).bind fun i3 => (o7 x0_7 x1_7 l2_7 x3_7 (w64 ((w64 (x4_7 + ((l2_7.getD i2 (0, 0, 0, 0, 0)).1))) - (((l2_7.getD i3 (0, 0, 0, 0, 0)).2).1))) (w64 (x5_7 + 1))))) else (some (x4_7, true)))
def spec_RowsLeft.l7 : Nat → Int → Int → (List (Int × Int × Int × Int × Int)) → Int → Int → Int → Option (Int × Bool)
  | 0, _, _, _, _, _, _ => none
  | k + 1, x0_7, x1_7, l2_7, x3_7, x4_7, x5_7 => spec_RowsLeft.b7 (spec_RowsLeft.l7 k) k x0_7 x1_7 l2_7 x3_7 x4_7 x5_7
def spec_RowsLeft.m (o7 : Int → Int → (List (Int × Int × Int × Int × Int)) → Int → Int → Int → Option (Int × Bool)) (k : Nat) (a0_0 : Int) (a0_1 : Int) (l0_2 : List (Int × Int × Int × Int × Int)) (a0_3 : Int) : Option (Int × Bool) := ((spec_l25Good.f k a0_0 a0_1 l0_2 a0_3).bind fun r1 => (cond (!r1) (some (0, false)) (o7 a0_0 a0_1 l0_2 a0_3 0 0)))
def spec_RowsLeft.f (k : Nat) (a0_0 : Int) (a0_1 : Int) (l0_2 : List (Int × Int × Int × Int × Int)) (a0_3 : Int) : Option (Int × Bool) := spec_RowsLeft.m (spec_RowsLeft.l7 k) k a0_0 a0_1 l0_2 a0_3
noncomputable def spec_RowsLeft.spec (k : Nat) : FnSpec := ⟨[.ag [.d (.int .i64) none, .d (.int .i64) none, .d (.sl (.pair (.int .i64) (.pair (.int .i64) (.pair (.int .i64) (.pair (.int .i64) (.int .i64)))))) none, .d (.int .i64) none]], [.d (.int .i64) none, .d .bool none], fun x => spec_RowsLeft.f k x.1 x.2.1 x.2.2.1 x.2.2.2⟩
def spec_RowsLeft.S7 (x0_7 : Int) (x1_7 : Int) (l2_7 : List (Int × Int × Int × Int × Int)) (x3_7 : Int) (x4_7 : Int) (x5_7 : Int) : St := ⟨[(1, .ptr 100 0), (4, .val (.int .i64) x4_7), (5, .val (.int .i64) x5_7)], [(100, some (.box [.val (.int .i64) x0_7, .val (.int .i64) x1_7, .val (.sl (.pair (.int .i64) (.pair (.int .i64) (.pair (.int .i64) (.pair (.int .i64) (.int .i64)))))) l2_7, .val (.int .i64) x3_7]))], 1000⟩
noncomputable def spec_RowsLeft.T : FnText := ⟨(conv [] (bodyOf Go.Proofs.Tryz.f126) 0).1, Go.Proofs.Tryz.f126.results.toList, 32, [(7, [(1, .bx 100 [.rd (.int .i64), .rd (.int .i64), .rd (.sl (.pair (.int .i64) (.pair (.int .i64) (.pair (.int .i64) (.pair (.int .i64) (.int .i64)))))), .rd (.int .i64)]), (4, .rd (.int .i64)), (5, .rd (.int .i64))])], [.ag [.d (.int .i64) none, .d (.int .i64) none, .d (.sl (.pair (.int .i64) (.pair (.int .i64) (.pair (.int .i64) (.pair (.int .i64) (.int .i64)))))) none, .d (.int .i64) none]], [.d (.int .i64) none, .d .bool none]⟩
noncomputable def spec_RowsLeft.tbl (k : Nat) : Tbl := [(84, spec_l25Good.spec k)]
theorem spec_RowsLeft.e7 (k : Nat) (o : Nat → St → Option (Int × Bool)) (x0_7 : Int) (x1_7 : Int) (l2_7 : List (Int × Int × Int × Int × Int)) (x3_7 : Int) (x4_7 : Int) (x5_7 : Int) : spec_RowsLeft.T.step tyt (spec_RowsLeft.tbl k) o 7 (spec_RowsLeft.S7 x0_7 x1_7 l2_7 x3_7 x4_7 x5_7) = spec_RowsLeft.b7 (fun x0_7 x1_7 l2_7 x3_7 x4_7 x5_7 => o 7 (spec_RowsLeft.S7 x0_7 x1_7 l2_7 x3_7 x4_7 x5_7)) k x0_7 x1_7 l2_7 x3_7 x4_7 x5_7 := by kernel_rfl
theorem spec_RowsLeft.e (k : Nat) (o : Nat → St → Option (Int × Bool)) (a0_0 : Int) (a0_1 : Int) (l0_2 : List (Int × Int × Int × Int × Int)) (a0_3 : Int) : spec_RowsLeft.T.main tyt (spec_RowsLeft.tbl k) o (a0_0, a0_1, l0_2, a0_3) = spec_RowsLeft.m (fun x0_7 x1_7 l2_7 x3_7 x4_7 x5_7 => o 7 (spec_RowsLeft.S7 x0_7 x1_7 l2_7 x3_7 x4_7 x5_7)) k a0_0 a0_1 l0_2 a0_3 := by kernel_rfl
theorem spec_RowsLeft.ok : spec_RowsLeft.T.ok = true := by kernel_rfl
theorem spec_RowsLeft.run (k : Nat) : (∀ (x0_7 : Int) (x1_7 : Int) (l2_7 : List (Int × Int × Int × Int × Int)) (x3_7 : Int) (x4_7 : Int) (x5_7 : Int), spec_RowsLeft.T.run tyt spec_RowsLeft.tbl k 7 (spec_RowsLeft.S7 x0_7 x1_7 l2_7 x3_7 x4_7 x5_7) = spec_RowsLeft.l7 k x0_7 x1_7 l2_7 x3_7 x4_7 x5_7) := by
  induction k with
  | zero => exact fun x0_7 x1_7 l2_7 x3_7 x4_7 x5_7 => rfl
  | succ k ih =>
    exact fun x0_7 x1_7 l2_7 x3_7 x4_7 x5_7 => by
      have q7 : (fun x0_7 x1_7 l2_7 x3_7 x4_7 x5_7 => spec_RowsLeft.T.run tyt spec_RowsLeft.tbl k 7 (spec_RowsLeft.S7 x0_7 x1_7 l2_7 x3_7 x4_7 x5_7)) = spec_RowsLeft.l7 k := by funext x0_7 x1_7 l2_7 x3_7 x4_7 x5_7; exact ih x0_7 x1_7 l2_7 x3_7 x4_7 x5_7
      exact (spec_RowsLeft.e7 k (spec_RowsLeft.T.run tyt spec_RowsLeft.tbl k) x0_7 x1_7 l2_7 x3_7 x4_7 x5_7).trans (by rw [q7]; rfl)
theorem spec_RowsLeft.tblok (k : Nat) : TblOk Go.Proofs.Tryz.prog (spec_RowsLeft.tbl k) := TblOk.cons (spec_l25Good.sound k) (TblOk.nil _)
theorem spec_RowsLeft.sound (k : Nat) : Sound Go.Proofs.Tryz.prog 126 (spec_RowsLeft.spec k) := by
  have h := fn_ok (F := spec_RowsLeft.T) (tbl := spec_RowsLeft.tbl) mixed tyok Go.Proofs.Tryz.func126 (by kernel_rfl) (c0 := bodyOf Go.Proofs.Tryz.f126) rfl (conv_code _ _ _) rfl rfl spec_RowsLeft.ok k (fun j _ => spec_RowsLeft.tblok j)
  have q7 : (fun x0_7 x1_7 l2_7 x3_7 x4_7 x5_7 => spec_RowsLeft.T.run tyt spec_RowsLeft.tbl k 7 (spec_RowsLeft.S7 x0_7 x1_7 l2_7 x3_7 x4_7 x5_7)) = spec_RowsLeft.l7 k := by funext x0_7 x1_7 l2_7 x3_7 x4_7 x5_7; exact (spec_RowsLeft.run k) x0_7 x1_7 l2_7 x3_7 x4_7 x5_7
  have e : spec_RowsLeft.spec k = ⟨spec_RowsLeft.T.ps, spec_RowsLeft.T.rs, spec_RowsLeft.T.ev tyt spec_RowsLeft.tbl k⟩ := congrArg (FnSpec.mk _ _) (funext fun x => ((spec_RowsLeft.e k (spec_RowsLeft.T.run tyt spec_RowsLeft.tbl k) x.1 x.2.1 x.2.2.1 x.2.2.2).trans (by rw [q7]; rfl)).symm)
  rw [e]
  exact h
/-! ### spec_CarpetStates: function 127 -/
def spec_CarpetStates.b7 (o7 : Int → Int → (List (Int × Int × Int × Int × Int)) → Int → List Int → Int → Option (List Int × Bool)) (k : Nat) (x0_7 : Int) (x1_7 : Int) (l2_7 : List (Int × Int × Int × Int × Int)) (x3_7 : Int) (l4_7 : List Int) (x5_7 : Int) : Option (List Int × Bool) := (if x5_7 < (l2_7.length : Int) then ((chk l2_7.length x5_7).bind fun i3 => ((chk l4_7.length ((((l2_7.getD i3 (0, 0, 0, 0, 0)).2).2).1)).bind fun i4 => ((chk l4_7.length ((((l2_7.getD i3 (0, 0, 0, 0, 0)).2).2).1)).bind fun i5 => (o7 x0_7 x1_7 l2_7 x3_7 (l4_7.set i5 (w64 ((l4_7.getD i4 0) + 1))) (w64 (x5_7 + 1)))))) else (some (l4_7, true)))
def spec_CarpetStates.l7 : Nat → Int → Int → (List (Int × Int × Int × Int × Int)) → Int → List Int → Int → Option (List Int × Bool)
  | 0, _, _, _, _, _, _ => none
  | k + 1, x0_7, x1_7, l2_7, x3_7, l4_7, x5_7 => spec_CarpetStates.b7 (spec_CarpetStates.l7 k) k x0_7 x1_7 l2_7 x3_7 l4_7 x5_7
def spec_CarpetStates.m (o7 : Int → Int → (List (Int × Int × Int × Int × Int)) → Int → List Int → Int → Option (List Int × Bool)) (k : Nat) (a0_0 : Int) (a0_1 : Int) (l0_2 : List (Int × Int × Int × Int × Int)) (a0_3 : Int) : Option (List Int × Bool) := ((spec_l25Good.f k a0_0 a0_1 l0_2 a0_3).bind fun r1 => (cond (!r1) (some (([] : List (Int)), false)) ((mkl 17592186044416 5 5).bind fun n2 => (o7 a0_0 a0_1 l0_2 a0_3 (List.replicate n2 (0 : Int)) 0))))
def spec_CarpetStates.f (k : Nat) (a0_0 : Int) (a0_1 : Int) (l0_2 : List (Int × Int × Int × Int × Int)) (a0_3 : Int) : Option (List Int × Bool) := spec_CarpetStates.m (spec_CarpetStates.l7 k) k a0_0 a0_1 l0_2 a0_3
noncomputable def spec_CarpetStates.spec (k : Nat) : FnSpec := ⟨[.ag [.d (.int .i64) none, .d (.int .i64) none, .d (.sl (.pair (.int .i64) (.pair (.int .i64) (.pair (.int .i64) (.pair (.int .i64) (.int .i64)))))) none, .d (.int .i64) none]], [.d (.sl (.int .i64)) (some 3), .d .bool none], fun x => spec_CarpetStates.f k x.1 x.2.1 x.2.2.1 x.2.2.2⟩
def spec_CarpetStates.S7 (x0_7 : Int) (x1_7 : Int) (l2_7 : List (Int × Int × Int × Int × Int)) (x3_7 : Int) (l4_7 : List Int) (x5_7 : Int) : St := ⟨[(1, .ptr 100 0), (4, .ref 101), (5, .val (.int .i64) x5_7)], [(101, some (.row 3 (.int .i64) l4_7)), (100, some (.box [.val (.int .i64) x0_7, .val (.int .i64) x1_7, .val (.sl (.pair (.int .i64) (.pair (.int .i64) (.pair (.int .i64) (.pair (.int .i64) (.int .i64)))))) l2_7, .val (.int .i64) x3_7]))], 1000⟩
noncomputable def spec_CarpetStates.T : FnText := ⟨(conv [] (bodyOf Go.Proofs.Tryz.f127) 0).1, Go.Proofs.Tryz.f127.results.toList, 34, [(7, [(1, .bx 100 [.rd (.int .i64), .rd (.int .i64), .rd (.sl (.pair (.int .i64) (.pair (.int .i64) (.pair (.int .i64) (.pair (.int .i64) (.int .i64)))))), .rd (.int .i64)]), (4, .own 3 (.int .i64) 101), (5, .rd (.int .i64))])], [.ag [.d (.int .i64) none, .d (.int .i64) none, .d (.sl (.pair (.int .i64) (.pair (.int .i64) (.pair (.int .i64) (.pair (.int .i64) (.int .i64)))))) none, .d (.int .i64) none]], [.d (.sl (.int .i64)) (some 3), .d .bool none]⟩
noncomputable def spec_CarpetStates.tbl (k : Nat) : Tbl := [(84, spec_l25Good.spec k)]
theorem spec_CarpetStates.e7 (k : Nat) (o : Nat → St → Option (List Int × Bool)) (x0_7 : Int) (x1_7 : Int) (l2_7 : List (Int × Int × Int × Int × Int)) (x3_7 : Int) (l4_7 : List Int) (x5_7 : Int) : spec_CarpetStates.T.step tyt (spec_CarpetStates.tbl k) o 7 (spec_CarpetStates.S7 x0_7 x1_7 l2_7 x3_7 l4_7 x5_7) = spec_CarpetStates.b7 (fun x0_7 x1_7 l2_7 x3_7 l4_7 x5_7 => o 7 (spec_CarpetStates.S7 x0_7 x1_7 l2_7 x3_7 l4_7 x5_7)) k x0_7 x1_7 l2_7 x3_7 l4_7 x5_7 := by kernel_rfl
theorem spec_CarpetStates.e (k : Nat) (o : Nat → St → Option (List Int × Bool)) (a0_0 : Int) (a0_1 : Int) (l0_2 : List (Int × Int × Int × Int × Int)) (a0_3 : Int) : spec_CarpetStates.T.main tyt (spec_CarpetStates.tbl k) o (a0_0, a0_1, l0_2, a0_3) = spec_CarpetStates.m (fun x0_7 x1_7 l2_7 x3_7 l4_7 x5_7 => o 7 (spec_CarpetStates.S7 x0_7 x1_7 l2_7 x3_7 l4_7 x5_7)) k a0_0 a0_1 l0_2 a0_3 := by kernel_rfl
theorem spec_CarpetStates.ok : spec_CarpetStates.T.ok = true := by kernel_rfl
theorem spec_CarpetStates.run (k : Nat) : (∀ (x0_7 : Int) (x1_7 : Int) (l2_7 : List (Int × Int × Int × Int × Int)) (x3_7 : Int) (l4_7 : List Int) (x5_7 : Int), spec_CarpetStates.T.run tyt spec_CarpetStates.tbl k 7 (spec_CarpetStates.S7 x0_7 x1_7 l2_7 x3_7 l4_7 x5_7) = spec_CarpetStates.l7 k x0_7 x1_7 l2_7 x3_7 l4_7 x5_7) := by
  induction k with
  | zero => exact fun x0_7 x1_7 l2_7 x3_7 l4_7 x5_7 => rfl
  | succ k ih =>
    exact fun x0_7 x1_7 l2_7 x3_7 l4_7 x5_7 => by
      have q7 : (fun x0_7 x1_7 l2_7 x3_7 l4_7 x5_7 => spec_CarpetStates.T.run tyt spec_CarpetStates.tbl k 7 (spec_CarpetStates.S7 x0_7 x1_7 l2_7 x3_7 l4_7 x5_7)) = spec_CarpetStates.l7 k := by funext x0_7 x1_7 l2_7 x3_7 l4_7 x5_7; exact ih x0_7 x1_7 l2_7 x3_7 l4_7 x5_7
      exact (spec_CarpetStates.e7 k (spec_CarpetStates.T.run tyt spec_CarpetStates.tbl k) x0_7 x1_7 l2_7 x3_7 l4_7 x5_7).trans (by rw [q7]; rfl)
theorem spec_CarpetStates.tblok (k : Nat) : TblOk Go.Proofs.Tryz.prog (spec_CarpetStates.tbl k) := TblOk.cons (spec_l25Good.sound k) (TblOk.nil _)
theorem spec_CarpetStates.sound (k : Nat) : Sound Go.Proofs.Tryz.prog 127 (spec_CarpetStates.spec k) := by
  have h := fn_ok (F := spec_CarpetStates.T) (tbl := spec_CarpetStates.tbl) mixed tyok Go.Proofs.Tryz.func127 (by kernel_rfl) (c0 := bodyOf Go.Proofs.Tryz.f127) rfl (conv_code _ _ _) rfl rfl spec_CarpetStates.ok k (fun j _ => spec_CarpetStates.tblok j)
  have q7 : (fun x0_7 x1_7 l2_7 x3_7 l4_7 x5_7 => spec_CarpetStates.T.run tyt spec_CarpetStates.tbl k 7 (spec_CarpetStates.S7 x0_7 x1_7 l2_7 x3_7 l4_7 x5_7)) = spec_CarpetStates.l7 k := by funext x0_7 x1_7 l2_7 x3_7 l4_7 x5_7; exact (spec_CarpetStates.run k) x0_7 x1_7 l2_7 x3_7 l4_7 x5_7
  have e : spec_CarpetStates.spec k = ⟨spec_CarpetStates.T.ps, spec_CarpetStates.T.rs, spec_CarpetStates.T.ev tyt spec_CarpetStates.tbl k⟩ := congrArg (FnSpec.mk _ _) (funext fun x => ((spec_CarpetStates.e k (spec_CarpetStates.T.run tyt spec_CarpetStates.tbl k) x.1 x.2.1 x.2.2.1 x.2.2.2).trans (by rw [q7]; rfl)).symm)
  rw [e]
  exact h
/-! ### spec_l1Most: function 109 -/
def spec_l1Most.m (k : Nat) (a0 : Int) (a1 : Int) : Option (Int) := (if a1 < a0 then (some a0) else (some a1))
def spec_l1Most.f (k : Nat) (a0 : Int) (a1 : Int) : Option (Int) := spec_l1Most.m k a0 a1
noncomputable def spec_l1Most.spec (k : Nat) : FnSpec := ⟨[.d (.int .i64) none, .d (.int .i64) none], [.d (.int .i64) none], fun x => spec_l1Most.f k x.1 x.2⟩
noncomputable def spec_l1Most.T : FnText := ⟨(conv [] (bodyOf Go.Proofs.Tryz.f109) 0).1, Go.Proofs.Tryz.f109.results.toList, 10, [], [.d (.int .i64) none, .d (.int .i64) none], [.d (.int .i64) none]⟩
noncomputable def spec_l1Most.tbl (k : Nat) : Tbl := []
theorem spec_l1Most.e (k : Nat) (o : Nat → St → Option (Int)) (a0 : Int) (a1 : Int) : spec_l1Most.T.main tyt (spec_l1Most.tbl k) o (a0, a1) = spec_l1Most.m k a0 a1 := by kernel_rfl
theorem spec_l1Most.ok : spec_l1Most.T.ok = true := by kernel_rfl
theorem spec_l1Most.tblok (k : Nat) : TblOk Go.Proofs.Tryz.prog (spec_l1Most.tbl k) := TblOk.nil _
theorem spec_l1Most.sound (k : Nat) : Sound Go.Proofs.Tryz.prog 109 (spec_l1Most.spec k) := by
  have h := fn_ok (F := spec_l1Most.T) (tbl := spec_l1Most.tbl) mixed tyok Go.Proofs.Tryz.func109 (by kernel_rfl) (c0 := bodyOf Go.Proofs.Tryz.f109) rfl (conv_code _ _ _) rfl rfl spec_l1Most.ok k (fun j _ => spec_l1Most.tblok j)
  have e : spec_l1Most.spec k = ⟨spec_l1Most.T.ps, spec_l1Most.T.rs, spec_l1Most.T.ev tyt spec_l1Most.tbl k⟩ := congrArg (FnSpec.mk _ _) (funext fun x => ((spec_l1Most.e k (spec_l1Most.T.run tyt spec_l1Most.tbl k) x.1 x.2).trans (by rfl)).symm)
  rw [e]
  exact h
/-! ### spec_DaysToSell: function 128 -/
def spec_DaysToSell.b7 (o7 : Int → Int → (List (Int × Int × Int × Int × Int)) → Int → Int → Int → Option (Int × Bool)) (k : Nat) (x0_7 : Int) (x1_7 : Int) (l2_7 : List (Int × Int × Int × Int × Int)) (x3_7 : Int) (x4_7 : Int) (x5_7 : Int) : Option (Int × Bool) := (if x5_7 < (l2_7.length : Int) then ((chk l2_7.length x5_7).bind fun i2 => ((spec_l1Most.f k 0 (w64 ((w64 ((((((l2_7.getD i2 (0, 0, 0, 0, 0)).2).2).2).2) + 3)) - x0_7))).bind fun r3 => (if ((((l2_7.getD i2 (0, 0, 0, 0, 0)).2).2).1) = 3 then (if (w64 (x0_7 + r3)) ≤ 4000 then (if x4_7 < 0 then (o7 x0_7 x1_7 l2_7 x3_7 r3 (w64 (x5_7 + 1))) else (if r3 < x4_7 then (o7 x0_7 x1_7 l2_7 x3_7 r3 (w64 (x5_7 + 1))) else (o7 x0_7 x1_7 l2_7 x3_7 x4_7 (w64 (x5_7 + 1))))) else (o7 x0_7 x1_7 l2_7 x3_7 x4_7 (w64 (x5_7 + 1)))) else (o7 x0_7 x1_7 l2_7 x3_7 x4_7 (w64 (x5_7 + 1)))))) else (if x4_7 < 0 then (some (0, false)) else (some (x4_7, true))))
def spec_DaysToSell.l7 : Nat → Int → Int → (List (Int × Int × Int × Int × Int)) → Int → Int → Int → Option (Int × Bool)
  | 0, _, _, _, _, _, _ => none
  | k + 1, x0_7, x1_7, l2_7, x3_7, x4_7, x5_7 => spec_DaysToSell.b7 (spec_DaysToSell.l7 k) k x0_7 x1_7 l2_7 x3_7 x4_7 x5_7
def spec_DaysToSell.m (o7 : Int → Int → (List (Int × Int × Int × Int × Int)) → Int → Int → Int → Option (Int × Bool)) (k : Nat) (a0_0 : Int) (a0_1 : Int) (l0_2 : List (Int × Int × Int × Int × Int)) (a0_3 : Int) : Option (Int × Bool) := ((spec_l25Good.f k a0_0 a0_1 l0_2 a0_3).bind fun r1 => (cond (!r1) (some (0, false)) (o7 a0_0 a0_1 l0_2 a0_3 (-1) 0)))
def spec_DaysToSell.f (k : Nat) (a0_0 : Int) (a0_1 : Int) (l0_2 : List (Int × Int × Int × Int × Int)) (a0_3 : Int) : Option (Int × Bool) := spec_DaysToSell.m (spec_DaysToSell.l7 k) k a0_0 a0_1 l0_2 a0_3
noncomputable def spec_DaysToSell.spec (k : Nat) : FnSpec := ⟨[.ag [.d (.int .i64) none, .d (.int .i64) none, .d (.sl (.pair (.int .i64) (.pair (.int .i64) (.pair (.int .i64) (.pair (.int .i64) (.int .i64)))))) none, .d (.int .i64) none]], [.d (.int .i64) none, .d .bool none], fun x => spec_DaysToSell.f k x.1 x.2.1 x.2.2.1 x.2.2.2⟩
def spec_DaysToSell.S7 (x0_7 : Int) (x1_7 : Int) (l2_7 : List (Int × Int × Int × Int × Int)) (x3_7 : Int) (x4_7 : Int) (x5_7 : Int) : St := ⟨[(1, .ptr 100 0), (4, .val (.int .i64) x4_7), (5, .val (.int .i64) x5_7)], [(100, some (.box [.val (.int .i64) x0_7, .val (.int .i64) x1_7, .val (.sl (.pair (.int .i64) (.pair (.int .i64) (.pair (.int .i64) (.pair (.int .i64) (.int .i64)))))) l2_7, .val (.int .i64) x3_7]))], 1000⟩
noncomputable def spec_DaysToSell.T : FnText := ⟨(conv [] (bodyOf Go.Proofs.Tryz.f128) 0).1, Go.Proofs.Tryz.f128.results.toList, 53, [(7, [(1, .bx 100 [.rd (.int .i64), .rd (.int .i64), .rd (.sl (.pair (.int .i64) (.pair (.int .i64) (.pair (.int .i64) (.pair (.int .i64) (.int .i64)))))), .rd (.int .i64)]), (4, .rd (.int .i64)), (5, .rd (.int .i64))])], [.ag [.d (.int .i64) none, .d (.int .i64) none, .d (.sl (.pair (.int .i64) (.pair (.int .i64) (.pair (.int .i64) (.pair (.int .i64) (.int .i64)))))) none, .d (.int .i64) none]], [.d (.int .i64) none, .d .bool none]⟩
noncomputable def spec_DaysToSell.tbl (k : Nat) : Tbl := [(84, spec_l25Good.spec k), (109, spec_l1Most.spec k)]
theorem spec_DaysToSell.e7 (k : Nat) (o : Nat → St → Option (Int × Bool)) (x0_7 : Int) (x1_7 : Int) (l2_7 : List (Int × Int × Int × Int × Int)) (x3_7 : Int) (x4_7 : Int) (x5_7 : Int) : spec_DaysToSell.T.step tyt (spec_DaysToSell.tbl k) o 7 (spec_DaysToSell.S7 x0_7 x1_7 l2_7 x3_7 x4_7 x5_7) = spec_DaysToSell.b7 (fun x0_7 x1_7 l2_7 x3_7 x4_7 x5_7 => o 7 (spec_DaysToSell.S7 x0_7 x1_7 l2_7 x3_7 x4_7 x5_7)) k x0_7 x1_7 l2_7 x3_7 x4_7 x5_7 := by kernel_rfl
theorem spec_DaysToSell.e (k : Nat) (o : Nat → St → Option (Int × Bool)) (a0_0 : Int) (a0_1 : Int) (l0_2 : List (Int × Int × Int × Int × Int)) (a0_3 : Int) : spec_DaysToSell.T.main tyt (spec_DaysToSell.tbl k) o (a0_0, a0_1, l0_2, a0_3) = spec_DaysToSell.m (fun x0_7 x1_7 l2_7 x3_7 x4_7 x5_7 => o 7 (spec_DaysToSell.S7 x0_7 x1_7 l2_7 x3_7 x4_7 x5_7)) k a0_0 a0_1 l0_2 a0_3 := by kernel_rfl
theorem spec_DaysToSell.ok : spec_DaysToSell.T.ok = true := by kernel_rfl
theorem spec_DaysToSell.run (k : Nat) : (∀ (x0_7 : Int) (x1_7 : Int) (l2_7 : List (Int × Int × Int × Int × Int)) (x3_7 : Int) (x4_7 : Int) (x5_7 : Int), spec_DaysToSell.T.run tyt spec_DaysToSell.tbl k 7 (spec_DaysToSell.S7 x0_7 x1_7 l2_7 x3_7 x4_7 x5_7) = spec_DaysToSell.l7 k x0_7 x1_7 l2_7 x3_7 x4_7 x5_7) := by
  induction k with
  | zero => exact fun x0_7 x1_7 l2_7 x3_7 x4_7 x5_7 => rfl
  | succ k ih =>
    exact fun x0_7 x1_7 l2_7 x3_7 x4_7 x5_7 => by
      have q7 : (fun x0_7 x1_7 l2_7 x3_7 x4_7 x5_7 => spec_DaysToSell.T.run tyt spec_DaysToSell.tbl k 7 (spec_DaysToSell.S7 x0_7 x1_7 l2_7 x3_7 x4_7 x5_7)) = spec_DaysToSell.l7 k := by funext x0_7 x1_7 l2_7 x3_7 x4_7 x5_7; exact ih x0_7 x1_7 l2_7 x3_7 x4_7 x5_7
      exact (spec_DaysToSell.e7 k (spec_DaysToSell.T.run tyt spec_DaysToSell.tbl k) x0_7 x1_7 l2_7 x3_7 x4_7 x5_7).trans (by rw [q7]; rfl)
theorem spec_DaysToSell.tblok (k : Nat) : TblOk Go.Proofs.Tryz.prog (spec_DaysToSell.tbl k) := TblOk.cons (spec_l25Good.sound k) (TblOk.cons (spec_l1Most.sound k) (TblOk.nil _))
theorem spec_DaysToSell.sound (k : Nat) : Sound Go.Proofs.Tryz.prog 128 (spec_DaysToSell.spec k) := by
  have h := fn_ok (F := spec_DaysToSell.T) (tbl := spec_DaysToSell.tbl) mixed tyok Go.Proofs.Tryz.func128 (by kernel_rfl) (c0 := bodyOf Go.Proofs.Tryz.f128) rfl (conv_code _ _ _) rfl rfl spec_DaysToSell.ok k (fun j _ => spec_DaysToSell.tblok j)
  have q7 : (fun x0_7 x1_7 l2_7 x3_7 x4_7 x5_7 => spec_DaysToSell.T.run tyt spec_DaysToSell.tbl k 7 (spec_DaysToSell.S7 x0_7 x1_7 l2_7 x3_7 x4_7 x5_7)) = spec_DaysToSell.l7 k := by funext x0_7 x1_7 l2_7 x3_7 x4_7 x5_7; exact (spec_DaysToSell.run k) x0_7 x1_7 l2_7 x3_7 x4_7 x5_7
  have e : spec_DaysToSell.spec k = ⟨spec_DaysToSell.T.ps, spec_DaysToSell.T.rs, spec_DaysToSell.T.ev tyt spec_DaysToSell.tbl k⟩ := congrArg (FnSpec.mk _ _) (funext fun x => ((spec_DaysToSell.e k (spec_DaysToSell.T.run tyt spec_DaysToSell.tbl k) x.1 x.2.1 x.2.2.1 x.2.2.2).trans (by rw [q7]; rfl)).symm)
  rw [e]
  exact h
/-! ### spec_l28Word: function 88 -/
def spec_l28Word.m (k : Nat) (a0_0 : Int) (a0_1 : Int) (l0_2 : List (Int × Int × Int × Int × Int)) (a0_3 : Int) (a1 : ByteArray) : Option (ByteArray) := (if a1 = (⟨#[100, 97, 121]⟩ : ByteArray) then ((spec_l1Num.f k a0_0).bind fun r1 => (some r1)) else (if a1 = (⟨#[109, 111, 110, 101, 121]⟩ : ByteArray) then ((spec_l1Num.f k a0_3).bind fun r2 => (some r2)) else (if a1 = (⟨#[102, 114, 101, 101]⟩ : ByteArray) then ((spec_FreeLooms.f k a0_0 a0_1 l0_2 a0_3).bind fun r3 => ((spec_l28List.f k r3.1 r3.2).bind fun r4 => (some r4))) else (if a1 = (⟨#[114, 111, 119, 115]⟩ : ByteArray) then ((spec_RowsLeft.f k a0_0 a0_1 l0_2 a0_3).bind fun r5 => ((spec_l1Num.f k r5.1).bind fun r6 => (some r6))) else (if a1 = (⟨#[115, 116, 97, 116, 101, 115]⟩ : ByteArray) then ((spec_CarpetStates.f k a0_0 a0_1 l0_2 a0_3).bind fun r7 => ((spec_l28List.f k r7.1 r7.2).bind fun r8 => (some r8))) else (if a1 = (⟨#[110, 101, 120, 116]⟩ : ByteArray) then ((spec_DaysToSell.f k a0_0 a0_1 l0_2 a0_3).bind fun r9 => (cond r9.2 ((spec_l1Num.f k r9.1).bind fun r10 => (some r10)) (some (⟨#[63]⟩ : ByteArray)))) else (some (⟨#[63]⟩ : ByteArray))))))))
def spec_l28Word.f (k : Nat) (a0_0 : Int) (a0_1 : Int) (l0_2 : List (Int × Int × Int × Int × Int)) (a0_3 : Int) (a1 : ByteArray) : Option (ByteArray) := spec_l28Word.m k a0_0 a0_1 l0_2 a0_3 a1
noncomputable def spec_l28Word.spec (k : Nat) : FnSpec := ⟨[.ag [.d (.int .i64) none, .d (.int .i64) none, .d (.sl (.pair (.int .i64) (.pair (.int .i64) (.pair (.int .i64) (.pair (.int .i64) (.int .i64)))))) none, .d (.int .i64) none], .d .str none], [.d .str none], fun x => spec_l28Word.f k x.1 x.2.1 x.2.2.1 x.2.2.2.1 x.2.2.2.2⟩
noncomputable def spec_l28Word.T : FnText := ⟨(conv [] (bodyOf Go.Proofs.Tryz.f88) 0).1, Go.Proofs.Tryz.f88.results.toList, 63, [], [.ag [.d (.int .i64) none, .d (.int .i64) none, .d (.sl (.pair (.int .i64) (.pair (.int .i64) (.pair (.int .i64) (.pair (.int .i64) (.int .i64)))))) none, .d (.int .i64) none], .d .str none], [.d .str none]⟩
noncomputable def spec_l28Word.tbl (k : Nat) : Tbl := [(73, spec_l1Num.spec k), (124, spec_FreeLooms.spec k), (125, spec_l28List.spec k), (126, spec_RowsLeft.spec k), (127, spec_CarpetStates.spec k), (128, spec_DaysToSell.spec k)]
theorem spec_l28Word.e (k : Nat) (o : Nat → St → Option (ByteArray)) (a0_0 : Int) (a0_1 : Int) (l0_2 : List (Int × Int × Int × Int × Int)) (a0_3 : Int) (a1 : ByteArray) : spec_l28Word.T.main tyt (spec_l28Word.tbl k) o (a0_0, a0_1, l0_2, a0_3, a1) = spec_l28Word.m k a0_0 a0_1 l0_2 a0_3 a1 := by kernel_rfl
theorem spec_l28Word.ok : spec_l28Word.T.ok = true := by kernel_rfl
theorem spec_l28Word.tblok (k : Nat) : TblOk Go.Proofs.Tryz.prog (spec_l28Word.tbl k) := TblOk.cons (spec_l1Num.sound k) (TblOk.cons (spec_FreeLooms.sound k) (TblOk.cons (spec_l28List.sound k) (TblOk.cons (spec_RowsLeft.sound k) (TblOk.cons (spec_CarpetStates.sound k) (TblOk.cons (spec_DaysToSell.sound k) (TblOk.nil _))))))
theorem spec_l28Word.sound (k : Nat) : Sound Go.Proofs.Tryz.prog 88 (spec_l28Word.spec k) := by
  have h := fn_ok (F := spec_l28Word.T) (tbl := spec_l28Word.tbl) mixed tyok Go.Proofs.Tryz.func88 (by kernel_rfl) (c0 := bodyOf Go.Proofs.Tryz.f88) rfl (conv_code _ _ _) rfl rfl spec_l28Word.ok k (fun j _ => spec_l28Word.tblok j)
  have e : spec_l28Word.spec k = ⟨spec_l28Word.T.ps, spec_l28Word.T.rs, spec_l28Word.T.ev tyt spec_l28Word.tbl k⟩ := congrArg (FnSpec.mk _ _) (funext fun x => ((spec_l28Word.e k (spec_l28Word.T.run tyt spec_l28Word.tbl k) x.1 x.2.1 x.2.2.1 x.2.2.2.1 x.2.2.2.2).trans (by rfl)).symm)
  rw [e]
  exact h
/-! ### spec_l25Step: function 168 -/
def spec_l25Step.m (k : Nat) (a0_0 : Int) (a0_1 : Int) (l0_2 : List (Int × Int × Int × Int × Int)) (a0_3 : Int) (a1_0 : Int) (a1_1 : Int) (a1_2 : Int) : Option (Bool) := (if a1_0 = 1 then (if a1_1 = 0 then (some (decide (1 ≤ a1_2))) else (some false)) else (if a1_0 = 2 then (if a1_1 = 0 then ((spec_l1In.f k a1_2 1 500).bind fun r1 => (some r1)) else (some false)) else ((spec_l1In.f k a1_1 0 (w64 ((l0_2.length : Int) - 1))).bind fun r2 => (cond (!r2) (some false) (if a1_0 = 3 then ((spec_l1In.f k a1_2 1 a0_1).bind fun r3 => (some r3)) else (if a1_0 = 4 then ((spec_l1In.f k a1_2 1 20).bind fun r4 => (some r4)) else (if a1_0 = 7 then (some (decide (1 ≤ a1_2))) else (if a1_0 = 5 then (some (decide (a1_2 = 0))) else (if a1_0 = 6 then (some (decide (a1_2 = 0))) else (some false))))))))))
def spec_l25Step.f (k : Nat) (a0_0 : Int) (a0_1 : Int) (l0_2 : List (Int × Int × Int × Int × Int)) (a0_3 : Int) (a1_0 : Int) (a1_1 : Int) (a1_2 : Int) : Option (Bool) := spec_l25Step.m k a0_0 a0_1 l0_2 a0_3 a1_0 a1_1 a1_2
noncomputable def spec_l25Step.spec (k : Nat) : FnSpec := ⟨[.ag [.d (.int .i64) none, .d (.int .i64) none, .d (.sl (.pair (.int .i64) (.pair (.int .i64) (.pair (.int .i64) (.pair (.int .i64) (.int .i64)))))) none, .d (.int .i64) none], .ag [.d (.int .i64) none, .d (.int .i64) none, .d (.int .i64) none]], [.d .bool none], fun x => spec_l25Step.f k x.1 x.2.1 x.2.2.1 x.2.2.2.1 x.2.2.2.2.1 x.2.2.2.2.2.1 x.2.2.2.2.2.2⟩
noncomputable def spec_l25Step.T : FnText := ⟨(conv [] (bodyOf Go.Proofs.Tryz.f168) 0).1, Go.Proofs.Tryz.f168.results.toList, 67, [], [.ag [.d (.int .i64) none, .d (.int .i64) none, .d (.sl (.pair (.int .i64) (.pair (.int .i64) (.pair (.int .i64) (.pair (.int .i64) (.int .i64)))))) none, .d (.int .i64) none], .ag [.d (.int .i64) none, .d (.int .i64) none, .d (.int .i64) none]], [.d .bool none]⟩
noncomputable def spec_l25Step.tbl (k : Nat) : Tbl := [(118, spec_l1In.spec k)]
theorem spec_l25Step.e (k : Nat) (o : Nat → St → Option (Bool)) (a0_0 : Int) (a0_1 : Int) (l0_2 : List (Int × Int × Int × Int × Int)) (a0_3 : Int) (a1_0 : Int) (a1_1 : Int) (a1_2 : Int) : spec_l25Step.T.main tyt (spec_l25Step.tbl k) o (a0_0, a0_1, l0_2, a0_3, a1_0, a1_1, a1_2) = spec_l25Step.m k a0_0 a0_1 l0_2 a0_3 a1_0 a1_1 a1_2 := by kernel_rfl
theorem spec_l25Step.ok : spec_l25Step.T.ok = true := by kernel_rfl
theorem spec_l25Step.tblok (k : Nat) : TblOk Go.Proofs.Tryz.prog (spec_l25Step.tbl k) := TblOk.cons (spec_l1In.sound k) (TblOk.nil _)
theorem spec_l25Step.sound (k : Nat) : Sound Go.Proofs.Tryz.prog 168 (spec_l25Step.spec k) := by
  have h := fn_ok (F := spec_l25Step.T) (tbl := spec_l25Step.tbl) mixed tyok Go.Proofs.Tryz.func168 (by kernel_rfl) (c0 := bodyOf Go.Proofs.Tryz.f168) rfl (conv_code _ _ _) rfl rfl spec_l25Step.ok k (fun j _ => spec_l25Step.tblok j)
  have e : spec_l25Step.spec k = ⟨spec_l25Step.T.ps, spec_l25Step.T.rs, spec_l25Step.T.ev tyt spec_l25Step.tbl k⟩ := congrArg (FnSpec.mk _ _) (funext fun x => ((spec_l25Step.e k (spec_l25Step.T.run tyt spec_l25Step.tbl k) x.1 x.2.1 x.2.2.1 x.2.2.2.1 x.2.2.2.2.1 x.2.2.2.2.2.1 x.2.2.2.2.2.2).trans (by rfl)).symm)
  rw [e]
  exact h
/-! ### spec_l25Change: function 185 -/
def spec_l25Change.m (k : Nat) (a0_0 : Int) (a0_1 : Int) (a0_2 : Int) (a0_3 : Int) (a0_4 : Int) (a1_0 : Int) (a1_1 : Int) (a1_2 : Int) (a2 : Int) : Option (Int × Int × Int × Int × Int × Bool) := (if a1_0 = 3 then (some (a0_0, a0_1, 1, a1_2, a2, (decide (a0_2 = 0)))) else (if a1_0 = 4 then (if a0_2 = 1 then (some (a0_0, (w64 (a0_1 + a1_2)), a0_2, a0_3, a2, (decide (1 ≤ (w64 (a2 - a0_4)))))) else (some (a0_0, (w64 (a0_1 + a1_2)), a0_2, a0_3, a2, false))) else (if a1_0 = 5 then (some (a0_0, a0_1, 2, 0, a2, (decide (a0_2 = 1)))) else (if a1_0 = 6 then (some (a0_0, a0_1, 3, a0_3, a2, (decide (a0_2 = 2)))) else (if a0_2 = 3 then (some (a0_0, a0_1, 4, a0_3, a2, (decide (3 ≤ (w64 (a2 - a0_4)))))) else (some (a0_0, a0_1, 4, a0_3, a2, false)))))))
def spec_l25Change.f (k : Nat) (a0_0 : Int) (a0_1 : Int) (a0_2 : Int) (a0_3 : Int) (a0_4 : Int) (a1_0 : Int) (a1_1 : Int) (a1_2 : Int) (a2 : Int) : Option (Int × Int × Int × Int × Int × Bool) := spec_l25Change.m k a0_0 a0_1 a0_2 a0_3 a0_4 a1_0 a1_1 a1_2 a2
noncomputable def spec_l25Change.spec (k : Nat) : FnSpec := ⟨[.ag [.d (.int .i64) none, .d (.int .i64) none, .d (.int .i64) none, .d (.int .i64) none, .d (.int .i64) none], .ag [.d (.int .i64) none, .d (.int .i64) none, .d (.int .i64) none], .d (.int .i64) none], [.ag [.d (.int .i64) none, .d (.int .i64) none, .d (.int .i64) none, .d (.int .i64) none, .d (.int .i64) none], .d .bool none], fun x => spec_l25Change.f k x.1 x.2.1 x.2.2.1 x.2.2.2.1 x.2.2.2.2.1 x.2.2.2.2.2.1 x.2.2.2.2.2.2.1 x.2.2.2.2.2.2.2.1 x.2.2.2.2.2.2.2.2⟩
noncomputable def spec_l25Change.T : FnText := ⟨(conv [] (bodyOf Go.Proofs.Tryz.f185) 0).1, Go.Proofs.Tryz.f185.results.toList, 68, [], [.ag [.d (.int .i64) none, .d (.int .i64) none, .d (.int .i64) none, .d (.int .i64) none, .d (.int .i64) none], .ag [.d (.int .i64) none, .d (.int .i64) none, .d (.int .i64) none], .d (.int .i64) none], [.ag [.d (.int .i64) none, .d (.int .i64) none, .d (.int .i64) none, .d (.int .i64) none, .d (.int .i64) none], .d .bool none]⟩
noncomputable def spec_l25Change.tbl (k : Nat) : Tbl := []
theorem spec_l25Change.e (k : Nat) (o : Nat → St → Option (Int × Int × Int × Int × Int × Bool)) (a0_0 : Int) (a0_1 : Int) (a0_2 : Int) (a0_3 : Int) (a0_4 : Int) (a1_0 : Int) (a1_1 : Int) (a1_2 : Int) (a2 : Int) : spec_l25Change.T.main tyt (spec_l25Change.tbl k) o (a0_0, a0_1, a0_2, a0_3, a0_4, a1_0, a1_1, a1_2, a2) = spec_l25Change.m k a0_0 a0_1 a0_2 a0_3 a0_4 a1_0 a1_1 a1_2 a2 := by kernel_rfl
theorem spec_l25Change.ok : spec_l25Change.T.ok = true := by kernel_rfl
theorem spec_l25Change.tblok (k : Nat) : TblOk Go.Proofs.Tryz.prog (spec_l25Change.tbl k) := TblOk.nil _
theorem spec_l25Change.sound (k : Nat) : Sound Go.Proofs.Tryz.prog 185 (spec_l25Change.spec k) := by
  have h := fn_ok (F := spec_l25Change.T) (tbl := spec_l25Change.tbl) mixed tyok Go.Proofs.Tryz.func185 (by kernel_rfl) (c0 := bodyOf Go.Proofs.Tryz.f185) rfl (conv_code _ _ _) rfl rfl spec_l25Change.ok k (fun j _ => spec_l25Change.tblok j)
  have e : spec_l25Change.spec k = ⟨spec_l25Change.T.ps, spec_l25Change.T.rs, spec_l25Change.T.ev tyt spec_l25Change.tbl k⟩ := congrArg (FnSpec.mk _ _) (funext fun x => ((spec_l25Change.e k (spec_l25Change.T.run tyt spec_l25Change.tbl k) x.1 x.2.1 x.2.2.1 x.2.2.2.1 x.2.2.2.2.1 x.2.2.2.2.2.1 x.2.2.2.2.2.2.1 x.2.2.2.2.2.2.2.1 x.2.2.2.2.2.2.2.2).trans (by rfl)).symm)
  rw [e]
  exact h
/-! ### spec_l25Make: function 169 -/
def spec_l25Make.b2 (k : Nat) (x0_2 : Int) (x1_2 : Int) (l2_2 : List (Int × Int × Int × Int × Int)) (x3_2 : Int) (x4_2 : Int) (x5_2 : Int) (x6_2 : Int) (x7_2 : Int) (x8_2 : Int) (l9_2 : List (Int × Int × Int × Int × Int)) (x10_2 : Int) (x11_2 : Int) (x12_2 : Int) (l13_2 : List (Int × Int × Int × Int × Int)) (x14_2 : Int) : Option (Int × Int × List (Int × Int × Int × Int × Int) × Int × Bool) := ((chk l2_2.length x5_2).bind fun i4 => ((spec_l25Change.f k ((l2_2.getD i4 (0, 0, 0, 0, 0)).1) (((l2_2.getD i4 (0, 0, 0, 0, 0)).2).1) ((((l2_2.getD i4 (0, 0, 0, 0, 0)).2).2).1) (((((l2_2.getD i4 (0, 0, 0, 0, 0)).2).2).2).1) (((((l2_2.getD i4 (0, 0, 0, 0, 0)).2).2).2).2) x4_2 x5_2 x6_2 x0_2).bind fun r5 => ((chk l13_2.length x5_2).bind fun i6 => (cond r5.2.2.2.2.2 ((spec_l25Good.f k x11_2 x12_2 (upd l13_2 i6 (0, 0, 0, 0, 0) fun e7 => (r5.1, r5.2.1, r5.2.2.1, r5.2.2.2.1, r5.2.2.2.2.1)) x14_2).bind fun r8 => (some (x11_2, x12_2, (upd l13_2 i6 (0, 0, 0, 0, 0) fun e7 => (r5.1, r5.2.1, r5.2.2.1, r5.2.2.2.1, r5.2.2.2.2.1)), x14_2, r8))) (some (x11_2, x12_2, (upd l13_2 i6 (0, 0, 0, 0, 0) fun e7 => (r5.1, r5.2.1, r5.2.2.1, r5.2.2.2.1, r5.2.2.2.2.1)), x14_2, false))))))
def spec_l25Make.l2 : Nat → Int → Int → (List (Int × Int × Int × Int × Int)) → Int → Int → Int → Int → Int → Int → (List (Int × Int × Int × Int × Int)) → Int → Int → Int → (List (Int × Int × Int × Int × Int)) → Int → Option (Int × Int × List (Int × Int × Int × Int × Int) × Int × Bool)
  | 0, _, _, _, _, _, _, _, _, _, _, _, _, _, _, _ => none
  | k + 1, x0_2, x1_2, l2_2, x3_2, x4_2, x5_2, x6_2, x7_2, x8_2, l9_2, x10_2, x11_2, x12_2, l13_2, x14_2 => spec_l25Make.b2 k x0_2 x1_2 l2_2 x3_2 x4_2 x5_2 x6_2 x7_2 x8_2 l9_2 x10_2 x11_2 x12_2 l13_2 x14_2
def spec_l25Make.m (o2 : Int → Int → (List (Int × Int × Int × Int × Int)) → Int → Int → Int → Int → Int → Int → (List (Int × Int × Int × Int × Int)) → Int → Int → Int → (List (Int × Int × Int × Int × Int)) → Int → Option (Int × Int × List (Int × Int × Int × Int × Int) × Int × Bool)) (k : Nat) (a0_0 : Int) (a0_1 : Int) (l0_2 : List (Int × Int × Int × Int × Int)) (a0_3 : Int) (a1_0 : Int) (a1_1 : Int) (a1_2 : Int) : Option (Int × Int × List (Int × Int × Int × Int × Int) × Int × Bool) := ((spec_l25Own.f k a0_0 a0_1 l0_2 a0_3).bind fun r1 => (if a1_0 = 1 then (if (w64 (4000 - a0_0)) < a1_2 then (some (r1.1, r1.2.1, r1.2.2.1, r1.2.2.2, false)) else (some ((w64 (a0_0 + a1_2)), r1.2.1, r1.2.2.1, r1.2.2.2, true))) else (if a1_0 = 2 then ((app 3518437208883 r1.2.2.1 [(a1_2, 0, 0, 0, a0_0)]).bind fun l2 => ((spec_l25Good.f k r1.1 r1.2.1 l2 r1.2.2.2).bind fun r3 => (some (r1.1, r1.2.1, l2, r1.2.2.2, r3)))) else (if a1_0 = 7 then (if (w64 (1000000 - a0_3)) < a1_2 then (some (r1.1, r1.2.1, r1.2.2.1, r1.2.2.2, false)) else (o2 a0_0 a0_1 l0_2 a0_3 a1_0 a1_1 a1_2 0 0 [] 0 r1.1 r1.2.1 r1.2.2.1 (w64 (a0_3 + a1_2)))) else (o2 a0_0 a0_1 l0_2 a0_3 a1_0 a1_1 a1_2 0 0 [] 0 r1.1 r1.2.1 r1.2.2.1 r1.2.2.2)))))
def spec_l25Make.f (k : Nat) (a0_0 : Int) (a0_1 : Int) (l0_2 : List (Int × Int × Int × Int × Int)) (a0_3 : Int) (a1_0 : Int) (a1_1 : Int) (a1_2 : Int) : Option (Int × Int × List (Int × Int × Int × Int × Int) × Int × Bool) := spec_l25Make.m (spec_l25Make.l2 k) k a0_0 a0_1 l0_2 a0_3 a1_0 a1_1 a1_2
noncomputable def spec_l25Make.spec (k : Nat) : FnSpec := ⟨[.ag [.d (.int .i64) none, .d (.int .i64) none, .d (.sl (.pair (.int .i64) (.pair (.int .i64) (.pair (.int .i64) (.pair (.int .i64) (.int .i64)))))) none, .d (.int .i64) none], .ag [.d (.int .i64) none, .d (.int .i64) none, .d (.int .i64) none]], [.ag [.d (.int .i64) none, .d (.int .i64) none, .d (.sl (.pair (.int .i64) (.pair (.int .i64) (.pair (.int .i64) (.pair (.int .i64) (.int .i64)))))) (some 108), .d (.int .i64) none], .d .bool none], fun x => spec_l25Make.f k x.1 x.2.1 x.2.2.1 x.2.2.2.1 x.2.2.2.2.1 x.2.2.2.2.2.1 x.2.2.2.2.2.2⟩
def spec_l25Make.S2 (x0_2 : Int) (x1_2 : Int) (l2_2 : List (Int × Int × Int × Int × Int)) (x3_2 : Int) (x4_2 : Int) (x5_2 : Int) (x6_2 : Int) (x7_2 : Int) (x8_2 : Int) (l9_2 : List (Int × Int × Int × Int × Int)) (x10_2 : Int) (x11_2 : Int) (x12_2 : Int) (l13_2 : List (Int × Int × Int × Int × Int)) (x14_2 : Int) : St := ⟨[(2, .ptr 100 0), (3, .ptr 101 0), (4, .ptr 102 0), (6, .ptr 103 0)], [(103, some (.box [.val (.int .i64) x11_2, .val (.int .i64) x12_2, .ref 104, .val (.int .i64) x14_2])), (104, some (.row 108 (.pair (.int .i64) (.pair (.int .i64) (.pair (.int .i64) (.pair (.int .i64) (.int .i64))))) l13_2)), (102, some (.box [.val (.int .i64) x7_2, .val (.int .i64) x8_2, .val (.sl (.pair (.int .i64) (.pair (.int .i64) (.pair (.int .i64) (.pair (.int .i64) (.int .i64)))))) l9_2, .val (.int .i64) x10_2])), (101, some (.box [.val (.int .i64) x4_2, .val (.int .i64) x5_2, .val (.int .i64) x6_2])), (100, some (.box [.val (.int .i64) x0_2, .val (.int .i64) x1_2, .val (.sl (.pair (.int .i64) (.pair (.int .i64) (.pair (.int .i64) (.pair (.int .i64) (.int .i64)))))) l2_2, .val (.int .i64) x3_2]))], 1000⟩
noncomputable def spec_l25Make.T : FnText := ⟨(conv [2] (bodyOf Go.Proofs.Tryz.f169) 0).1, Go.Proofs.Tryz.f169.results.toList, 84, [(2, [(2, .bx 100 [.rd (.int .i64), .rd (.int .i64), .rd (.sl (.pair (.int .i64) (.pair (.int .i64) (.pair (.int .i64) (.pair (.int .i64) (.int .i64)))))), .rd (.int .i64)]), (3, .bx 101 [.rd (.int .i64), .rd (.int .i64), .rd (.int .i64)]), (4, .bx 102 [.rd (.int .i64), .rd (.int .i64), .rd (.sl (.pair (.int .i64) (.pair (.int .i64) (.pair (.int .i64) (.pair (.int .i64) (.int .i64)))))), .rd (.int .i64)]), (6, .bx 103 [.rd (.int .i64), .rd (.int .i64), .own 108 (.pair (.int .i64) (.pair (.int .i64) (.pair (.int .i64) (.pair (.int .i64) (.int .i64))))) 104, .rd (.int .i64)])])], [.ag [.d (.int .i64) none, .d (.int .i64) none, .d (.sl (.pair (.int .i64) (.pair (.int .i64) (.pair (.int .i64) (.pair (.int .i64) (.int .i64)))))) none, .d (.int .i64) none], .ag [.d (.int .i64) none, .d (.int .i64) none, .d (.int .i64) none]], [.ag [.d (.int .i64) none, .d (.int .i64) none, .d (.sl (.pair (.int .i64) (.pair (.int .i64) (.pair (.int .i64) (.pair (.int .i64) (.int .i64)))))) (some 108), .d (.int .i64) none], .d .bool none]⟩
noncomputable def spec_l25Make.tbl (k : Nat) : Tbl := [(83, spec_l25Own.spec k), (84, spec_l25Good.spec k), (185, spec_l25Change.spec k)]
theorem spec_l25Make.e2 (k : Nat) (o : Nat → St → Option (Int × Int × List (Int × Int × Int × Int × Int) × Int × Bool)) (x0_2 : Int) (x1_2 : Int) (l2_2 : List (Int × Int × Int × Int × Int)) (x3_2 : Int) (x4_2 : Int) (x5_2 : Int) (x6_2 : Int) (x7_2 : Int) (x8_2 : Int) (l9_2 : List (Int × Int × Int × Int × Int)) (x10_2 : Int) (x11_2 : Int) (x12_2 : Int) (l13_2 : List (Int × Int × Int × Int × Int)) (x14_2 : Int) : spec_l25Make.T.step tyt (spec_l25Make.tbl k) o 2 (spec_l25Make.S2 x0_2 x1_2 l2_2 x3_2 x4_2 x5_2 x6_2 x7_2 x8_2 l9_2 x10_2 x11_2 x12_2 l13_2 x14_2) = spec_l25Make.b2 k x0_2 x1_2 l2_2 x3_2 x4_2 x5_2 x6_2 x7_2 x8_2 l9_2 x10_2 x11_2 x12_2 l13_2 x14_2 := by kernel_rfl
theorem spec_l25Make.e (k : Nat) (o : Nat → St → Option (Int × Int × List (Int × Int × Int × Int × Int) × Int × Bool)) (a0_0 : Int) (a0_1 : Int) (l0_2 : List (Int × Int × Int × Int × Int)) (a0_3 : Int) (a1_0 : Int) (a1_1 : Int) (a1_2 : Int) : spec_l25Make.T.main tyt (spec_l25Make.tbl k) o (a0_0, a0_1, l0_2, a0_3, a1_0, a1_1, a1_2) = spec_l25Make.m (fun x0_2 x1_2 l2_2 x3_2 x4_2 x5_2 x6_2 x7_2 x8_2 l9_2 x10_2 x11_2 x12_2 l13_2 x14_2 => o 2 (spec_l25Make.S2 x0_2 x1_2 l2_2 x3_2 x4_2 x5_2 x6_2 x7_2 x8_2 l9_2 x10_2 x11_2 x12_2 l13_2 x14_2)) k a0_0 a0_1 l0_2 a0_3 a1_0 a1_1 a1_2 := by kernel_rfl
theorem spec_l25Make.ok : spec_l25Make.T.ok = true := by kernel_rfl
theorem spec_l25Make.run (k : Nat) : (∀ (x0_2 : Int) (x1_2 : Int) (l2_2 : List (Int × Int × Int × Int × Int)) (x3_2 : Int) (x4_2 : Int) (x5_2 : Int) (x6_2 : Int) (x7_2 : Int) (x8_2 : Int) (l9_2 : List (Int × Int × Int × Int × Int)) (x10_2 : Int) (x11_2 : Int) (x12_2 : Int) (l13_2 : List (Int × Int × Int × Int × Int)) (x14_2 : Int), spec_l25Make.T.run tyt spec_l25Make.tbl k 2 (spec_l25Make.S2 x0_2 x1_2 l2_2 x3_2 x4_2 x5_2 x6_2 x7_2 x8_2 l9_2 x10_2 x11_2 x12_2 l13_2 x14_2) = spec_l25Make.l2 k x0_2 x1_2 l2_2 x3_2 x4_2 x5_2 x6_2 x7_2 x8_2 l9_2 x10_2 x11_2 x12_2 l13_2 x14_2) := by
  induction k with
  | zero => exact fun x0_2 x1_2 l2_2 x3_2 x4_2 x5_2 x6_2 x7_2 x8_2 l9_2 x10_2 x11_2 x12_2 l13_2 x14_2 => rfl
  | succ k ih =>
    exact fun x0_2 x1_2 l2_2 x3_2 x4_2 x5_2 x6_2 x7_2 x8_2 l9_2 x10_2 x11_2 x12_2 l13_2 x14_2 => by
      exact (spec_l25Make.e2 k (spec_l25Make.T.run tyt spec_l25Make.tbl k) x0_2 x1_2 l2_2 x3_2 x4_2 x5_2 x6_2 x7_2 x8_2 l9_2 x10_2 x11_2 x12_2 l13_2 x14_2).trans (by rfl)
theorem spec_l25Make.tblok (k : Nat) : TblOk Go.Proofs.Tryz.prog (spec_l25Make.tbl k) := TblOk.cons (spec_l25Own.sound k) (TblOk.cons (spec_l25Good.sound k) (TblOk.cons (spec_l25Change.sound k) (TblOk.nil _)))
theorem spec_l25Make.sound (k : Nat) : Sound Go.Proofs.Tryz.prog 169 (spec_l25Make.spec k) := by
  have h := fn_ok (F := spec_l25Make.T) (tbl := spec_l25Make.tbl) mixed tyok Go.Proofs.Tryz.func169 (by kernel_rfl) (c0 := bodyOf Go.Proofs.Tryz.f169) rfl (conv_code _ _ _) rfl rfl spec_l25Make.ok k (fun j _ => spec_l25Make.tblok j)
  have q2 : (fun x0_2 x1_2 l2_2 x3_2 x4_2 x5_2 x6_2 x7_2 x8_2 l9_2 x10_2 x11_2 x12_2 l13_2 x14_2 => spec_l25Make.T.run tyt spec_l25Make.tbl k 2 (spec_l25Make.S2 x0_2 x1_2 l2_2 x3_2 x4_2 x5_2 x6_2 x7_2 x8_2 l9_2 x10_2 x11_2 x12_2 l13_2 x14_2)) = spec_l25Make.l2 k := by funext x0_2 x1_2 l2_2 x3_2 x4_2 x5_2 x6_2 x7_2 x8_2 l9_2 x10_2 x11_2 x12_2 l13_2 x14_2; exact (spec_l25Make.run k) x0_2 x1_2 l2_2 x3_2 x4_2 x5_2 x6_2 x7_2 x8_2 l9_2 x10_2 x11_2 x12_2 l13_2 x14_2
  have e : spec_l25Make.spec k = ⟨spec_l25Make.T.ps, spec_l25Make.T.rs, spec_l25Make.T.ev tyt spec_l25Make.tbl k⟩ := congrArg (FnSpec.mk _ _) (funext fun x => ((spec_l25Make.e k (spec_l25Make.T.run tyt spec_l25Make.tbl k) x.1 x.2.1 x.2.2.1 x.2.2.2.1 x.2.2.2.2.1 x.2.2.2.2.2.1 x.2.2.2.2.2.2).trans (by rw [q2]; rfl)).symm)
  rw [e]
  exact h
/-! ### spec_StepShop: function 148 -/
def spec_StepShop.m (k : Nat) (a0_0 : Int) (a0_1 : Int) (l0_2 : List (Int × Int × Int × Int × Int)) (a0_3 : Int) (a1_0 : Int) (a1_1 : Int) (a1_2 : Int) : Option (Int × Int × List (Int × Int × Int × Int × Int) × Int × Bool) := ((spec_l25Good.f k a0_0 a0_1 l0_2 a0_3).bind fun r1 => (cond (!r1) (some (0, 0, [], 0, false)) ((spec_l25Step.f k a0_0 a0_1 l0_2 a0_3 a1_0 a1_1 a1_2).bind fun r2 => (cond (!r2) (some (0, 0, [], 0, false)) ((spec_l25Make.f k a0_0 a0_1 l0_2 a0_3 a1_0 a1_1 a1_2).bind fun r3 => (cond (!r3.2.2.2.2) (some (0, 0, [], 0, false)) (some (r3.1, r3.2.1, r3.2.2.1, r3.2.2.2.1, true))))))))
def spec_StepShop.f (k : Nat) (a0_0 : Int) (a0_1 : Int) (l0_2 : List (Int × Int × Int × Int × Int)) (a0_3 : Int) (a1_0 : Int) (a1_1 : Int) (a1_2 : Int) : Option (Int × Int × List (Int × Int × Int × Int × Int) × Int × Bool) := spec_StepShop.m k a0_0 a0_1 l0_2 a0_3 a1_0 a1_1 a1_2
noncomputable def spec_StepShop.spec (k : Nat) : FnSpec := ⟨[.ag [.d (.int .i64) none, .d (.int .i64) none, .d (.sl (.pair (.int .i64) (.pair (.int .i64) (.pair (.int .i64) (.pair (.int .i64) (.int .i64)))))) none, .d (.int .i64) none], .ag [.d (.int .i64) none, .d (.int .i64) none, .d (.int .i64) none]], [.ag [.d (.int .i64) none, .d (.int .i64) none, .d (.sl (.pair (.int .i64) (.pair (.int .i64) (.pair (.int .i64) (.pair (.int .i64) (.int .i64)))))) (some 108), .d (.int .i64) none], .d .bool none], fun x => spec_StepShop.f k x.1 x.2.1 x.2.2.1 x.2.2.2.1 x.2.2.2.2.1 x.2.2.2.2.2.1 x.2.2.2.2.2.2⟩
noncomputable def spec_StepShop.T : FnText := ⟨(conv [] (bodyOf Go.Proofs.Tryz.f148) 0).1, Go.Proofs.Tryz.f148.results.toList, 28, [], [.ag [.d (.int .i64) none, .d (.int .i64) none, .d (.sl (.pair (.int .i64) (.pair (.int .i64) (.pair (.int .i64) (.pair (.int .i64) (.int .i64)))))) none, .d (.int .i64) none], .ag [.d (.int .i64) none, .d (.int .i64) none, .d (.int .i64) none]], [.ag [.d (.int .i64) none, .d (.int .i64) none, .d (.sl (.pair (.int .i64) (.pair (.int .i64) (.pair (.int .i64) (.pair (.int .i64) (.int .i64)))))) (some 108), .d (.int .i64) none], .d .bool none]⟩
noncomputable def spec_StepShop.tbl (k : Nat) : Tbl := [(84, spec_l25Good.spec k), (168, spec_l25Step.spec k), (169, spec_l25Make.spec k)]
theorem spec_StepShop.e (k : Nat) (o : Nat → St → Option (Int × Int × List (Int × Int × Int × Int × Int) × Int × Bool)) (a0_0 : Int) (a0_1 : Int) (l0_2 : List (Int × Int × Int × Int × Int)) (a0_3 : Int) (a1_0 : Int) (a1_1 : Int) (a1_2 : Int) : spec_StepShop.T.main tyt (spec_StepShop.tbl k) o (a0_0, a0_1, l0_2, a0_3, a1_0, a1_1, a1_2) = spec_StepShop.m k a0_0 a0_1 l0_2 a0_3 a1_0 a1_1 a1_2 := by kernel_rfl
theorem spec_StepShop.ok : spec_StepShop.T.ok = true := by kernel_rfl
theorem spec_StepShop.tblok (k : Nat) : TblOk Go.Proofs.Tryz.prog (spec_StepShop.tbl k) := TblOk.cons (spec_l25Good.sound k) (TblOk.cons (spec_l25Step.sound k) (TblOk.cons (spec_l25Make.sound k) (TblOk.nil _)))
theorem spec_StepShop.sound (k : Nat) : Sound Go.Proofs.Tryz.prog 148 (spec_StepShop.spec k) := by
  have h := fn_ok (F := spec_StepShop.T) (tbl := spec_StepShop.tbl) mixed tyok Go.Proofs.Tryz.func148 (by kernel_rfl) (c0 := bodyOf Go.Proofs.Tryz.f148) rfl (conv_code _ _ _) rfl rfl spec_StepShop.ok k (fun j _ => spec_StepShop.tblok j)
  have e : spec_StepShop.spec k = ⟨spec_StepShop.T.ps, spec_StepShop.T.rs, spec_StepShop.T.ev tyt spec_StepShop.tbl k⟩ := congrArg (FnSpec.mk _ _) (funext fun x => ((spec_StepShop.e k (spec_StepShop.T.run tyt spec_StepShop.tbl k) x.1 x.2.1 x.2.2.1 x.2.2.2.1 x.2.2.2.2.1 x.2.2.2.2.2.1 x.2.2.2.2.2.2).trans (by rfl)).symm)
  rw [e]
  exact h
/-! ### spec_l25Text: function 74 -/
def spec_l25Text.m (k : Nat) (a0_0 : Int) (a0_1 : Int) (a0_2 : Int) (a0_3 : Int) (a0_4 : Int) : Option (ByteArray) := ((chk [(⟨#[119, 97, 105, 116, 115]⟩ : ByteArray), (⟨#[119, 111, 118, 101, 110]⟩ : ByteArray), (⟨#[111, 102, 102]⟩ : ByteArray), (⟨#[119, 97, 115, 104, 101, 100]⟩ : ByteArray), (⟨#[115, 111, 108, 100]⟩ : ByteArray)].length a0_2).bind fun i1 => ((catS ([(⟨#[119, 97, 105, 116, 115]⟩ : ByteArray), (⟨#[119, 111, 118, 101, 110]⟩ : ByteArray), (⟨#[111, 102, 102]⟩ : ByteArray), (⟨#[119, 97, 115, 104, 101, 100]⟩ : ByteArray), (⟨#[115, 111, 108, 100]⟩ : ByteArray)].getD i1 ByteArray.empty) (⟨#[32]⟩ : ByteArray)).bind fun s2 => ((spec_l1Num.f k a0_1).bind fun r3 => ((catS s2 r3).bind fun s4 => ((catS s4 (⟨#[47]⟩ : ByteArray)).bind fun s5 => ((spec_l1Num.f k a0_0).bind fun r6 => ((catS s5 r6).bind fun s7 => (if 0 < a0_3 then ((catS s7 (⟨#[32, 111, 110, 32]⟩ : ByteArray)).bind fun s8 => ((spec_l1Num.f k a0_3).bind fun r9 => ((catS s8 r9).bind fun s10 => (some s10)))) else (some s7)))))))))
def spec_l25Text.f (k : Nat) (a0_0 : Int) (a0_1 : Int) (a0_2 : Int) (a0_3 : Int) (a0_4 : Int) : Option (ByteArray) := spec_l25Text.m k a0_0 a0_1 a0_2 a0_3 a0_4
noncomputable def spec_l25Text.spec (k : Nat) : FnSpec := ⟨[.ag [.d (.int .i64) none, .d (.int .i64) none, .d (.int .i64) none, .d (.int .i64) none, .d (.int .i64) none]], [.d .str none], fun x => spec_l25Text.f k x.1 x.2.1 x.2.2.1 x.2.2.2.1 x.2.2.2.2⟩
noncomputable def spec_l25Text.T : FnText := ⟨(conv [] (bodyOf Go.Proofs.Tryz.f74) 0).1, Go.Proofs.Tryz.f74.results.toList, 29, [], [.ag [.d (.int .i64) none, .d (.int .i64) none, .d (.int .i64) none, .d (.int .i64) none, .d (.int .i64) none]], [.d .str none]⟩
noncomputable def spec_l25Text.tbl (k : Nat) : Tbl := [(73, spec_l1Num.spec k)]
theorem spec_l25Text.e (k : Nat) (o : Nat → St → Option (ByteArray)) (a0_0 : Int) (a0_1 : Int) (a0_2 : Int) (a0_3 : Int) (a0_4 : Int) : spec_l25Text.T.main tyt (spec_l25Text.tbl k) o (a0_0, a0_1, a0_2, a0_3, a0_4) = spec_l25Text.m k a0_0 a0_1 a0_2 a0_3 a0_4 := by kernel_rfl
theorem spec_l25Text.ok : spec_l25Text.T.ok = true := by kernel_rfl
theorem spec_l25Text.tblok (k : Nat) : TblOk Go.Proofs.Tryz.prog (spec_l25Text.tbl k) := TblOk.cons (spec_l1Num.sound k) (TblOk.nil _)
theorem spec_l25Text.sound (k : Nat) : Sound Go.Proofs.Tryz.prog 74 (spec_l25Text.spec k) := by
  have h := fn_ok (F := spec_l25Text.T) (tbl := spec_l25Text.tbl) mixed tyok Go.Proofs.Tryz.func74 (by kernel_rfl) (c0 := bodyOf Go.Proofs.Tryz.f74) rfl (conv_code _ _ _) rfl rfl spec_l25Text.ok k (fun j _ => spec_l25Text.tblok j)
  have e : spec_l25Text.spec k = ⟨spec_l25Text.T.ps, spec_l25Text.T.rs, spec_l25Text.T.ev tyt spec_l25Text.tbl k⟩ := congrArg (FnSpec.mk _ _) (funext fun x => ((spec_l25Text.e k (spec_l25Text.T.run tyt spec_l25Text.tbl k) x.1 x.2.1 x.2.2.1 x.2.2.2.1 x.2.2.2.2).trans (by rfl)).symm)
  rw [e]
  exact h
/-! ### spec_CarpetText: function 160 -/
def spec_CarpetText.m (k : Nat) (a0_0 : Int) (a0_1 : Int) (l0_2 : List (Int × Int × Int × Int × Int)) (a0_3 : Int) (a1 : Int) : Option (ByteArray × Bool) := ((spec_l25Good.f k a0_0 a0_1 l0_2 a0_3).bind fun r1 => (cond (!r1) (some ((⟨#[]⟩ : ByteArray), false)) ((spec_l1In.f k a1 0 (w64 ((l0_2.length : Int) - 1))).bind fun r2 => (cond (!r2) (some ((⟨#[]⟩ : ByteArray), false)) ((chk l0_2.length a1).bind fun i3 => ((spec_l25Text.f k ((l0_2.getD i3 (0, 0, 0, 0, 0)).1) (((l0_2.getD i3 (0, 0, 0, 0, 0)).2).1) ((((l0_2.getD i3 (0, 0, 0, 0, 0)).2).2).1) (((((l0_2.getD i3 (0, 0, 0, 0, 0)).2).2).2).1) (((((l0_2.getD i3 (0, 0, 0, 0, 0)).2).2).2).2)).bind fun r4 => (some (r4, true))))))))
def spec_CarpetText.f (k : Nat) (a0_0 : Int) (a0_1 : Int) (l0_2 : List (Int × Int × Int × Int × Int)) (a0_3 : Int) (a1 : Int) : Option (ByteArray × Bool) := spec_CarpetText.m k a0_0 a0_1 l0_2 a0_3 a1
noncomputable def spec_CarpetText.spec (k : Nat) : FnSpec := ⟨[.ag [.d (.int .i64) none, .d (.int .i64) none, .d (.sl (.pair (.int .i64) (.pair (.int .i64) (.pair (.int .i64) (.pair (.int .i64) (.int .i64)))))) none, .d (.int .i64) none], .d (.int .i64) none], [.d .str none, .d .bool none], fun x => spec_CarpetText.f k x.1 x.2.1 x.2.2.1 x.2.2.2.1 x.2.2.2.2⟩
noncomputable def spec_CarpetText.T : FnText := ⟨(conv [] (bodyOf Go.Proofs.Tryz.f160) 0).1, Go.Proofs.Tryz.f160.results.toList, 24, [], [.ag [.d (.int .i64) none, .d (.int .i64) none, .d (.sl (.pair (.int .i64) (.pair (.int .i64) (.pair (.int .i64) (.pair (.int .i64) (.int .i64)))))) none, .d (.int .i64) none], .d (.int .i64) none], [.d .str none, .d .bool none]⟩
noncomputable def spec_CarpetText.tbl (k : Nat) : Tbl := [(84, spec_l25Good.spec k), (118, spec_l1In.spec k), (74, spec_l25Text.spec k)]
theorem spec_CarpetText.e (k : Nat) (o : Nat → St → Option (ByteArray × Bool)) (a0_0 : Int) (a0_1 : Int) (l0_2 : List (Int × Int × Int × Int × Int)) (a0_3 : Int) (a1 : Int) : spec_CarpetText.T.main tyt (spec_CarpetText.tbl k) o (a0_0, a0_1, l0_2, a0_3, a1) = spec_CarpetText.m k a0_0 a0_1 l0_2 a0_3 a1 := by kernel_rfl
theorem spec_CarpetText.ok : spec_CarpetText.T.ok = true := by kernel_rfl
theorem spec_CarpetText.tblok (k : Nat) : TblOk Go.Proofs.Tryz.prog (spec_CarpetText.tbl k) := TblOk.cons (spec_l25Good.sound k) (TblOk.cons (spec_l1In.sound k) (TblOk.cons (spec_l25Text.sound k) (TblOk.nil _)))
theorem spec_CarpetText.sound (k : Nat) : Sound Go.Proofs.Tryz.prog 160 (spec_CarpetText.spec k) := by
  have h := fn_ok (F := spec_CarpetText.T) (tbl := spec_CarpetText.tbl) mixed tyok Go.Proofs.Tryz.func160 (by kernel_rfl) (c0 := bodyOf Go.Proofs.Tryz.f160) rfl (conv_code _ _ _) rfl rfl spec_CarpetText.ok k (fun j _ => spec_CarpetText.tblok j)
  have e : spec_CarpetText.spec k = ⟨spec_CarpetText.T.ps, spec_CarpetText.T.rs, spec_CarpetText.T.ev tyt spec_CarpetText.tbl k⟩ := congrArg (FnSpec.mk _ _) (funext fun x => ((spec_CarpetText.e k (spec_CarpetText.T.run tyt spec_CarpetText.tbl k) x.1 x.2.1 x.2.2.1 x.2.2.2.1 x.2.2.2.2).trans (by rfl)).symm)
  rw [e]
  exact h
/-! ### spec_l28Carpet: function 130 -/
def spec_l28Carpet.m (k : Nat) (a0_0 : Int) (a0_1 : Int) (l0_2 : List (Int × Int × Int × Int × Int)) (a0_3 : Int) (a1 : Int) : Option (ByteArray) := ((spec_CarpetText.f k a0_0 a0_1 l0_2 a0_3 a1).bind fun r1 => (cond (!r1.2) (some (⟨#[63]⟩ : ByteArray)) (some r1.1)))
def spec_l28Carpet.f (k : Nat) (a0_0 : Int) (a0_1 : Int) (l0_2 : List (Int × Int × Int × Int × Int)) (a0_3 : Int) (a1 : Int) : Option (ByteArray) := spec_l28Carpet.m k a0_0 a0_1 l0_2 a0_3 a1
noncomputable def spec_l28Carpet.spec (k : Nat) : FnSpec := ⟨[.ag [.d (.int .i64) none, .d (.int .i64) none, .d (.sl (.pair (.int .i64) (.pair (.int .i64) (.pair (.int .i64) (.pair (.int .i64) (.int .i64)))))) none, .d (.int .i64) none], .d (.int .i64) none], [.d .str none], fun x => spec_l28Carpet.f k x.1 x.2.1 x.2.2.1 x.2.2.2.1 x.2.2.2.2⟩
noncomputable def spec_l28Carpet.T : FnText := ⟨(conv [] (bodyOf Go.Proofs.Tryz.f130) 0).1, Go.Proofs.Tryz.f130.results.toList, 16, [], [.ag [.d (.int .i64) none, .d (.int .i64) none, .d (.sl (.pair (.int .i64) (.pair (.int .i64) (.pair (.int .i64) (.pair (.int .i64) (.int .i64)))))) none, .d (.int .i64) none], .d (.int .i64) none], [.d .str none]⟩
noncomputable def spec_l28Carpet.tbl (k : Nat) : Tbl := [(160, spec_CarpetText.spec k)]
theorem spec_l28Carpet.e (k : Nat) (o : Nat → St → Option (ByteArray)) (a0_0 : Int) (a0_1 : Int) (l0_2 : List (Int × Int × Int × Int × Int)) (a0_3 : Int) (a1 : Int) : spec_l28Carpet.T.main tyt (spec_l28Carpet.tbl k) o (a0_0, a0_1, l0_2, a0_3, a1) = spec_l28Carpet.m k a0_0 a0_1 l0_2 a0_3 a1 := by kernel_rfl
theorem spec_l28Carpet.ok : spec_l28Carpet.T.ok = true := by kernel_rfl
theorem spec_l28Carpet.tblok (k : Nat) : TblOk Go.Proofs.Tryz.prog (spec_l28Carpet.tbl k) := TblOk.cons (spec_CarpetText.sound k) (TblOk.nil _)
theorem spec_l28Carpet.sound (k : Nat) : Sound Go.Proofs.Tryz.prog 130 (spec_l28Carpet.spec k) := by
  have h := fn_ok (F := spec_l28Carpet.T) (tbl := spec_l28Carpet.tbl) mixed tyok Go.Proofs.Tryz.func130 (by kernel_rfl) (c0 := bodyOf Go.Proofs.Tryz.f130) rfl (conv_code _ _ _) rfl rfl spec_l28Carpet.ok k (fun j _ => spec_l28Carpet.tblok j)
  have e : spec_l28Carpet.spec k = ⟨spec_l28Carpet.T.ps, spec_l28Carpet.T.rs, spec_l28Carpet.T.ev tyt spec_l28Carpet.tbl k⟩ := congrArg (FnSpec.mk _ _) (funext fun x => ((spec_l28Carpet.e k (spec_l28Carpet.T.run tyt spec_l28Carpet.tbl k) x.1 x.2.1 x.2.2.1 x.2.2.2.1 x.2.2.2.2).trans (by rfl)).symm)
  rw [e]
  exact h
/-! ### spec_l28Make: function 129 -/
def spec_l28Make.m (k : Nat) (a0_0 : Int) (a0_1 : Int) (l0_2 : List (Int × Int × Int × Int × Int)) (a0_3 : Int) (a0_4 : ByteArray) (a0_5 : ByteArray) (a0_6 : Int) (a1_0 : Int) (a1_1 : Int) (a1_2 : Int) : Option (Int × Int × List (Int × Int × Int × Int × Int) × Int × ByteArray × ByteArray × Int × ByteArray) := ((spec_StepShop.f k a0_0 a0_1 l0_2 a0_3 a1_0 a1_1 a1_2).bind fun r1 => (cond (!r1.2.2.2.2) (some (a0_0, a0_1, l0_2, a0_3, a0_4, a0_5, a0_6, (⟨#[63]⟩ : ByteArray))) (if a1_0 = 1 then ((spec_l1Num.f k r1.1).bind fun r2 => (some (r1.1, r1.2.1, r1.2.2.1, r1.2.2.2.1, a0_4, a0_5, a0_6, r2))) else (if a1_0 = 2 then ((spec_l1Num.f k (w64 ((r1.2.2.1.length : Int) - 1))).bind fun r3 => (some (r1.1, r1.2.1, r1.2.2.1, r1.2.2.2.1, a0_4, a0_5, a0_6, r3))) else (if a1_0 = 7 then ((spec_l1Num.f k r1.2.2.2.1).bind fun r4 => (some (r1.1, r1.2.1, r1.2.2.1, r1.2.2.2.1, a0_4, a0_5, a0_6, r4))) else ((spec_l28Carpet.f k r1.1 r1.2.1 r1.2.2.1 r1.2.2.2.1 a1_1).bind fun r5 => (some (r1.1, r1.2.1, r1.2.2.1, r1.2.2.2.1, a0_4, a0_5, a0_6, r5))))))))
def spec_l28Make.f (k : Nat) (a0_0 : Int) (a0_1 : Int) (l0_2 : List (Int × Int × Int × Int × Int)) (a0_3 : Int) (a0_4 : ByteArray) (a0_5 : ByteArray) (a0_6 : Int) (a1_0 : Int) (a1_1 : Int) (a1_2 : Int) : Option (Int × Int × List (Int × Int × Int × Int × Int) × Int × ByteArray × ByteArray × Int × ByteArray) := spec_l28Make.m k a0_0 a0_1 l0_2 a0_3 a0_4 a0_5 a0_6 a1_0 a1_1 a1_2
noncomputable def spec_l28Make.spec (k : Nat) : FnSpec := ⟨[.ag [.d (.int .i64) none, .d (.int .i64) none, .d (.sl (.pair (.int .i64) (.pair (.int .i64) (.pair (.int .i64) (.pair (.int .i64) (.int .i64)))))) none, .d (.int .i64) none, .d .str none, .d .str none, .d (.int .i64) none], .ag [.d (.int .i64) none, .d (.int .i64) none, .d (.int .i64) none]], [.ag [.d (.int .i64) none, .d (.int .i64) none, .d (.sl (.pair (.int .i64) (.pair (.int .i64) (.pair (.int .i64) (.pair (.int .i64) (.int .i64)))))) none, .d (.int .i64) none, .d .str none, .d .str none, .d (.int .i64) none], .d .str none], fun x => spec_l28Make.f k x.1 x.2.1 x.2.2.1 x.2.2.2.1 x.2.2.2.2.1 x.2.2.2.2.2.1 x.2.2.2.2.2.2.1 x.2.2.2.2.2.2.2.1 x.2.2.2.2.2.2.2.2.1 x.2.2.2.2.2.2.2.2.2⟩
noncomputable def spec_l28Make.T : FnText := ⟨(conv [] (bodyOf Go.Proofs.Tryz.f129) 0).1, Go.Proofs.Tryz.f129.results.toList, 49, [], [.ag [.d (.int .i64) none, .d (.int .i64) none, .d (.sl (.pair (.int .i64) (.pair (.int .i64) (.pair (.int .i64) (.pair (.int .i64) (.int .i64)))))) none, .d (.int .i64) none, .d .str none, .d .str none, .d (.int .i64) none], .ag [.d (.int .i64) none, .d (.int .i64) none, .d (.int .i64) none]], [.ag [.d (.int .i64) none, .d (.int .i64) none, .d (.sl (.pair (.int .i64) (.pair (.int .i64) (.pair (.int .i64) (.pair (.int .i64) (.int .i64)))))) none, .d (.int .i64) none, .d .str none, .d .str none, .d (.int .i64) none], .d .str none]⟩
noncomputable def spec_l28Make.tbl (k : Nat) : Tbl := [(148, spec_StepShop.spec k), (73, spec_l1Num.spec k), (130, spec_l28Carpet.spec k)]
theorem spec_l28Make.e (k : Nat) (o : Nat → St → Option (Int × Int × List (Int × Int × Int × Int × Int) × Int × ByteArray × ByteArray × Int × ByteArray)) (a0_0 : Int) (a0_1 : Int) (l0_2 : List (Int × Int × Int × Int × Int)) (a0_3 : Int) (a0_4 : ByteArray) (a0_5 : ByteArray) (a0_6 : Int) (a1_0 : Int) (a1_1 : Int) (a1_2 : Int) : spec_l28Make.T.main tyt (spec_l28Make.tbl k) o (a0_0, a0_1, l0_2, a0_3, a0_4, a0_5, a0_6, a1_0, a1_1, a1_2) = spec_l28Make.m k a0_0 a0_1 l0_2 a0_3 a0_4 a0_5 a0_6 a1_0 a1_1 a1_2 := by kernel_rfl
theorem spec_l28Make.ok : spec_l28Make.T.ok = true := by kernel_rfl
theorem spec_l28Make.tblok (k : Nat) : TblOk Go.Proofs.Tryz.prog (spec_l28Make.tbl k) := TblOk.cons (spec_StepShop.sound k) (TblOk.cons (spec_l1Num.sound k) (TblOk.cons (spec_l28Carpet.sound k) (TblOk.nil _)))
theorem spec_l28Make.sound (k : Nat) : Sound Go.Proofs.Tryz.prog 129 (spec_l28Make.spec k) := by
  have h := fn_ok (F := spec_l28Make.T) (tbl := spec_l28Make.tbl) mixed tyok Go.Proofs.Tryz.func129 (by kernel_rfl) (c0 := bodyOf Go.Proofs.Tryz.f129) rfl (conv_code _ _ _) rfl rfl spec_l28Make.ok k (fun j _ => spec_l28Make.tblok j)
  have e : spec_l28Make.spec k = ⟨spec_l28Make.T.ps, spec_l28Make.T.rs, spec_l28Make.T.ev tyt spec_l28Make.tbl k⟩ := congrArg (FnSpec.mk _ _) (funext fun x => ((spec_l28Make.e k (spec_l28Make.T.run tyt spec_l28Make.tbl k) x.1 x.2.1 x.2.2.1 x.2.2.2.1 x.2.2.2.2.1 x.2.2.2.2.2.1 x.2.2.2.2.2.2.1 x.2.2.2.2.2.2.2.1 x.2.2.2.2.2.2.2.2.1 x.2.2.2.2.2.2.2.2.2).trans (by rfl)).symm)
  rw [e]
  exact h
/-! ### spec_l28One: function 89 -/
def spec_l28One.m (k : Nat) (a0_0 : Int) (a0_1 : Int) (l0_2 : List (Int × Int × Int × Int × Int)) (a0_3 : Int) (a0_4 : ByteArray) (a0_5 : ByteArray) (a0_6 : Int) (a1 : ByteArray) (a2 : Int) : Option (Int × Int × List (Int × Int × Int × Int × Int) × Int × ByteArray × ByteArray × Int × ByteArray) := (if a1 = (⟨#[119, 97, 105, 116]⟩ : ByteArray) then ((spec_l28Make.f k a0_0 a0_1 l0_2 a0_3 a0_4 a0_5 a0_6 1 0 a2).bind fun r1 => (some (r1.1, r1.2.1, r1.2.2.1, r1.2.2.2.1, r1.2.2.2.2.1, r1.2.2.2.2.2.1, r1.2.2.2.2.2.2.1, r1.2.2.2.2.2.2.2))) else (if a1 = (⟨#[111, 114, 100, 101, 114]⟩ : ByteArray) then ((spec_l28Make.f k a0_0 a0_1 l0_2 a0_3 a0_4 a0_5 a0_6 2 0 a2).bind fun r2 => (some (r2.1, r2.2.1, r2.2.2.1, r2.2.2.2.1, r2.2.2.2.2.1, r2.2.2.2.2.2.1, r2.2.2.2.2.2.2.1, r2.2.2.2.2.2.2.2))) else (if a1 = (⟨#[116, 97, 107, 101]⟩ : ByteArray) then ((spec_l28Make.f k a0_0 a0_1 l0_2 a0_3 a0_4 a0_5 a0_6 5 a2 0).bind fun r3 => (some (r3.1, r3.2.1, r3.2.2.1, r3.2.2.2.1, r3.2.2.2.2.1, r3.2.2.2.2.2.1, r3.2.2.2.2.2.2.1, r3.2.2.2.2.2.2.2))) else (if a1 = (⟨#[119, 97, 115, 104]⟩ : ByteArray) then ((spec_l28Make.f k a0_0 a0_1 l0_2 a0_3 a0_4 a0_5 a0_6 6 a2 0).bind fun r4 => (some (r4.1, r4.2.1, r4.2.2.1, r4.2.2.2.1, r4.2.2.2.2.1, r4.2.2.2.2.2.1, r4.2.2.2.2.2.2.1, r4.2.2.2.2.2.2.2))) else (if a1 = (⟨#[99, 97, 114, 112, 101, 116]⟩ : ByteArray) then ((spec_l28Carpet.f k a0_0 a0_1 l0_2 a0_3 a2).bind fun r5 => (some (a0_0, a0_1, l0_2, a0_3, a0_4, a0_5, a0_6, r5))) else (some (a0_0, a0_1, l0_2, a0_3, a0_4, a0_5, a0_6, (⟨#[63]⟩ : ByteArray))))))))
def spec_l28One.f (k : Nat) (a0_0 : Int) (a0_1 : Int) (l0_2 : List (Int × Int × Int × Int × Int)) (a0_3 : Int) (a0_4 : ByteArray) (a0_5 : ByteArray) (a0_6 : Int) (a1 : ByteArray) (a2 : Int) : Option (Int × Int × List (Int × Int × Int × Int × Int) × Int × ByteArray × ByteArray × Int × ByteArray) := spec_l28One.m k a0_0 a0_1 l0_2 a0_3 a0_4 a0_5 a0_6 a1 a2
noncomputable def spec_l28One.spec (k : Nat) : FnSpec := ⟨[.ag [.d (.int .i64) none, .d (.int .i64) none, .d (.sl (.pair (.int .i64) (.pair (.int .i64) (.pair (.int .i64) (.pair (.int .i64) (.int .i64)))))) none, .d (.int .i64) none, .d .str none, .d .str none, .d (.int .i64) none], .d .str none, .d (.int .i64) none], [.ag [.d (.int .i64) none, .d (.int .i64) none, .d (.sl (.pair (.int .i64) (.pair (.int .i64) (.pair (.int .i64) (.pair (.int .i64) (.int .i64)))))) none, .d (.int .i64) none, .d .str none, .d .str none, .d (.int .i64) none], .d .str none], fun x => spec_l28One.f k x.1 x.2.1 x.2.2.1 x.2.2.2.1 x.2.2.2.2.1 x.2.2.2.2.2.1 x.2.2.2.2.2.2.1 x.2.2.2.2.2.2.2.1 x.2.2.2.2.2.2.2.2⟩
noncomputable def spec_l28One.T : FnText := ⟨(conv [] (bodyOf Go.Proofs.Tryz.f89) 0).1, Go.Proofs.Tryz.f89.results.toList, 49, [], [.ag [.d (.int .i64) none, .d (.int .i64) none, .d (.sl (.pair (.int .i64) (.pair (.int .i64) (.pair (.int .i64) (.pair (.int .i64) (.int .i64)))))) none, .d (.int .i64) none, .d .str none, .d .str none, .d (.int .i64) none], .d .str none, .d (.int .i64) none], [.ag [.d (.int .i64) none, .d (.int .i64) none, .d (.sl (.pair (.int .i64) (.pair (.int .i64) (.pair (.int .i64) (.pair (.int .i64) (.int .i64)))))) none, .d (.int .i64) none, .d .str none, .d .str none, .d (.int .i64) none], .d .str none]⟩
noncomputable def spec_l28One.tbl (k : Nat) : Tbl := [(129, spec_l28Make.spec k), (130, spec_l28Carpet.spec k)]
theorem spec_l28One.e (k : Nat) (o : Nat → St → Option (Int × Int × List (Int × Int × Int × Int × Int) × Int × ByteArray × ByteArray × Int × ByteArray)) (a0_0 : Int) (a0_1 : Int) (l0_2 : List (Int × Int × Int × Int × Int)) (a0_3 : Int) (a0_4 : ByteArray) (a0_5 : ByteArray) (a0_6 : Int) (a1 : ByteArray) (a2 : Int) : spec_l28One.T.main tyt (spec_l28One.tbl k) o (a0_0, a0_1, l0_2, a0_3, a0_4, a0_5, a0_6, a1, a2) = spec_l28One.m k a0_0 a0_1 l0_2 a0_3 a0_4 a0_5 a0_6 a1 a2 := by kernel_rfl
theorem spec_l28One.ok : spec_l28One.T.ok = true := by kernel_rfl
theorem spec_l28One.tblok (k : Nat) : TblOk Go.Proofs.Tryz.prog (spec_l28One.tbl k) := TblOk.cons (spec_l28Make.sound k) (TblOk.cons (spec_l28Carpet.sound k) (TblOk.nil _))
theorem spec_l28One.sound (k : Nat) : Sound Go.Proofs.Tryz.prog 89 (spec_l28One.spec k) := by
  have h := fn_ok (F := spec_l28One.T) (tbl := spec_l28One.tbl) mixed tyok Go.Proofs.Tryz.func89 (by kernel_rfl) (c0 := bodyOf Go.Proofs.Tryz.f89) rfl (conv_code _ _ _) rfl rfl spec_l28One.ok k (fun j _ => spec_l28One.tblok j)
  have e : spec_l28One.spec k = ⟨spec_l28One.T.ps, spec_l28One.T.rs, spec_l28One.T.ev tyt spec_l28One.tbl k⟩ := congrArg (FnSpec.mk _ _) (funext fun x => ((spec_l28One.e k (spec_l28One.T.run tyt spec_l28One.tbl k) x.1 x.2.1 x.2.2.1 x.2.2.2.1 x.2.2.2.2.1 x.2.2.2.2.2.1 x.2.2.2.2.2.2.1 x.2.2.2.2.2.2.2.1 x.2.2.2.2.2.2.2.2).trans (by rfl)).symm)
  rw [e]
  exact h
/-! ### spec_l28Two: function 90 -/
def spec_l28Two.m (k : Nat) (a0_0 : Int) (a0_1 : Int) (l0_2 : List (Int × Int × Int × Int × Int)) (a0_3 : Int) (a0_4 : ByteArray) (a0_5 : ByteArray) (a0_6 : Int) (a1 : ByteArray) (a2 : Int) (a3 : Int) : Option (Int × Int × List (Int × Int × Int × Int × Int) × Int × ByteArray × ByteArray × Int × ByteArray) := (if a1 = (⟨#[119, 97, 114, 112]⟩ : ByteArray) then ((spec_l28Make.f k a0_0 a0_1 l0_2 a0_3 a0_4 a0_5 a0_6 3 a2 a3).bind fun r1 => (some (r1.1, r1.2.1, r1.2.2.1, r1.2.2.2.1, r1.2.2.2.2.1, r1.2.2.2.2.2.1, r1.2.2.2.2.2.2.1, r1.2.2.2.2.2.2.2))) else (if a1 = (⟨#[119, 101, 97, 118, 101]⟩ : ByteArray) then ((spec_l28Make.f k a0_0 a0_1 l0_2 a0_3 a0_4 a0_5 a0_6 4 a2 a3).bind fun r2 => (some (r2.1, r2.2.1, r2.2.2.1, r2.2.2.2.1, r2.2.2.2.2.1, r2.2.2.2.2.2.1, r2.2.2.2.2.2.2.1, r2.2.2.2.2.2.2.2))) else (if a1 = (⟨#[115, 101, 108, 108]⟩ : ByteArray) then ((spec_l28Make.f k a0_0 a0_1 l0_2 a0_3 a0_4 a0_5 a0_6 7 a2 a3).bind fun r3 => (some (r3.1, r3.2.1, r3.2.2.1, r3.2.2.2.1, r3.2.2.2.2.1, r3.2.2.2.2.2.1, r3.2.2.2.2.2.2.1, r3.2.2.2.2.2.2.2))) else (some (a0_0, a0_1, l0_2, a0_3, a0_4, a0_5, a0_6, (⟨#[63]⟩ : ByteArray))))))
def spec_l28Two.f (k : Nat) (a0_0 : Int) (a0_1 : Int) (l0_2 : List (Int × Int × Int × Int × Int)) (a0_3 : Int) (a0_4 : ByteArray) (a0_5 : ByteArray) (a0_6 : Int) (a1 : ByteArray) (a2 : Int) (a3 : Int) : Option (Int × Int × List (Int × Int × Int × Int × Int) × Int × ByteArray × ByteArray × Int × ByteArray) := spec_l28Two.m k a0_0 a0_1 l0_2 a0_3 a0_4 a0_5 a0_6 a1 a2 a3
noncomputable def spec_l28Two.spec (k : Nat) : FnSpec := ⟨[.ag [.d (.int .i64) none, .d (.int .i64) none, .d (.sl (.pair (.int .i64) (.pair (.int .i64) (.pair (.int .i64) (.pair (.int .i64) (.int .i64)))))) none, .d (.int .i64) none, .d .str none, .d .str none, .d (.int .i64) none], .d .str none, .d (.int .i64) none, .d (.int .i64) none], [.ag [.d (.int .i64) none, .d (.int .i64) none, .d (.sl (.pair (.int .i64) (.pair (.int .i64) (.pair (.int .i64) (.pair (.int .i64) (.int .i64)))))) none, .d (.int .i64) none, .d .str none, .d .str none, .d (.int .i64) none], .d .str none], fun x => spec_l28Two.f k x.1 x.2.1 x.2.2.1 x.2.2.2.1 x.2.2.2.2.1 x.2.2.2.2.2.1 x.2.2.2.2.2.2.1 x.2.2.2.2.2.2.2.1 x.2.2.2.2.2.2.2.2.1 x.2.2.2.2.2.2.2.2.2⟩
noncomputable def spec_l28Two.T : FnText := ⟨(conv [] (bodyOf Go.Proofs.Tryz.f90) 0).1, Go.Proofs.Tryz.f90.results.toList, 39, [], [.ag [.d (.int .i64) none, .d (.int .i64) none, .d (.sl (.pair (.int .i64) (.pair (.int .i64) (.pair (.int .i64) (.pair (.int .i64) (.int .i64)))))) none, .d (.int .i64) none, .d .str none, .d .str none, .d (.int .i64) none], .d .str none, .d (.int .i64) none, .d (.int .i64) none], [.ag [.d (.int .i64) none, .d (.int .i64) none, .d (.sl (.pair (.int .i64) (.pair (.int .i64) (.pair (.int .i64) (.pair (.int .i64) (.int .i64)))))) none, .d (.int .i64) none, .d .str none, .d .str none, .d (.int .i64) none], .d .str none]⟩
noncomputable def spec_l28Two.tbl (k : Nat) : Tbl := [(129, spec_l28Make.spec k)]
theorem spec_l28Two.e (k : Nat) (o : Nat → St → Option (Int × Int × List (Int × Int × Int × Int × Int) × Int × ByteArray × ByteArray × Int × ByteArray)) (a0_0 : Int) (a0_1 : Int) (l0_2 : List (Int × Int × Int × Int × Int)) (a0_3 : Int) (a0_4 : ByteArray) (a0_5 : ByteArray) (a0_6 : Int) (a1 : ByteArray) (a2 : Int) (a3 : Int) : spec_l28Two.T.main tyt (spec_l28Two.tbl k) o (a0_0, a0_1, l0_2, a0_3, a0_4, a0_5, a0_6, a1, a2, a3) = spec_l28Two.m k a0_0 a0_1 l0_2 a0_3 a0_4 a0_5 a0_6 a1 a2 a3 := by kernel_rfl
theorem spec_l28Two.ok : spec_l28Two.T.ok = true := by kernel_rfl
theorem spec_l28Two.tblok (k : Nat) : TblOk Go.Proofs.Tryz.prog (spec_l28Two.tbl k) := TblOk.cons (spec_l28Make.sound k) (TblOk.nil _)
theorem spec_l28Two.sound (k : Nat) : Sound Go.Proofs.Tryz.prog 90 (spec_l28Two.spec k) := by
  have h := fn_ok (F := spec_l28Two.T) (tbl := spec_l28Two.tbl) mixed tyok Go.Proofs.Tryz.func90 (by kernel_rfl) (c0 := bodyOf Go.Proofs.Tryz.f90) rfl (conv_code _ _ _) rfl rfl spec_l28Two.ok k (fun j _ => spec_l28Two.tblok j)
  have e : spec_l28Two.spec k = ⟨spec_l28Two.T.ps, spec_l28Two.T.rs, spec_l28Two.T.ev tyt spec_l28Two.tbl k⟩ := congrArg (FnSpec.mk _ _) (funext fun x => ((spec_l28Two.e k (spec_l28Two.T.run tyt spec_l28Two.tbl k) x.1 x.2.1 x.2.2.1 x.2.2.2.1 x.2.2.2.2.1 x.2.2.2.2.2.1 x.2.2.2.2.2.2.1 x.2.2.2.2.2.2.2.1 x.2.2.2.2.2.2.2.2.1 x.2.2.2.2.2.2.2.2.2).trans (by rfl)).symm)
  rw [e]
  exact h
/-! ### spec_l28Run: function 46 -/
def spec_l28Run.b5 (o5 : ByteArray → Int → Int → (List (Int × Int × Int × Int × Int)) → Int → ByteArray → ByteArray → Int → Int → Int → (List (Int × Int × Int × Int × Int)) → Int → ByteArray → ByteArray → Int → List ByteArray → List Int → Int → Option (Int × Int × List (Int × Int × Int × Int × Int) × Int × ByteArray × ByteArray × Int × ByteArray)) (k : Nat) (x0_5 : ByteArray) (x1_5 : Int) (x2_5 : Int) (l3_5 : List (Int × Int × Int × Int × Int)) (x4_5 : Int) (x5_5 : ByteArray) (x6_5 : ByteArray) (x7_5 : Int) (x8_5 : Int) (x9_5 : Int) (l10_5 : List (Int × Int × Int × Int × Int)) (x11_5 : Int) (x12_5 : ByteArray) (x13_5 : ByteArray) (x14_5 : Int) (l15_5 : List ByteArray) (l16_5 : List Int) (x17_5 : Int) : Option (Int × Int × List (Int × Int × Int × Int × Int) × Int × ByteArray × ByteArray × Int × ByteArray) := (if x17_5 < (l15_5.length : Int) then ((chk l15_5.length x17_5).bind fun i2 => ((spec_ParseInt.f k (l15_5.getD i2 ByteArray.empty)).bind fun r3 => (cond (!r3.2) (some (x1_5, x2_5, l3_5, x4_5, x5_5, x6_5, x7_5, (⟨#[63]⟩ : ByteArray))) ((app 17592186044416 l16_5 [r3.1]).bind fun l4 => (o5 x0_5 x1_5 x2_5 l3_5 x4_5 x5_5 x6_5 x7_5 x8_5 x9_5 l10_5 x11_5 x12_5 x13_5 x14_5 l15_5 l4 (w64 (x17_5 + 1))))))) else (if (l16_5.length : Int) = 0 then ((spec_l28Word.f k x1_5 x2_5 l3_5 x4_5 x0_5).bind fun r5 => (some (x1_5, x2_5, l3_5, x4_5, x5_5, x6_5, x7_5, r5))) else (if (l16_5.length : Int) = 1 then ((chk l15_5.length 0).bind fun i6 => ((chk l16_5.length 0).bind fun i7 => ((spec_l28One.f k x1_5 x2_5 l3_5 x4_5 x5_5 x6_5 x7_5 (l15_5.getD i6 ByteArray.empty) (l16_5.getD i7 0)).bind fun r8 => (some (r8.1, r8.2.1, r8.2.2.1, r8.2.2.2.1, r8.2.2.2.2.1, r8.2.2.2.2.2.1, r8.2.2.2.2.2.2.1, r8.2.2.2.2.2.2.2))))) else (if (l16_5.length : Int) = 2 then ((chk l15_5.length 0).bind fun i9 => ((chk l16_5.length 0).bind fun i10 => ((chk l16_5.length 1).bind fun i11 => ((spec_l28Two.f k x1_5 x2_5 l3_5 x4_5 x5_5 x6_5 x7_5 (l15_5.getD i9 ByteArray.empty) (l16_5.getD i10 0) (l16_5.getD i11 0)).bind fun r12 => (some (r12.1, r12.2.1, r12.2.2.1, r12.2.2.2.1, r12.2.2.2.2.1, r12.2.2.2.2.2.1, r12.2.2.2.2.2.2.1, r12.2.2.2.2.2.2.2)))))) else (some (x1_5, x2_5, l3_5, x4_5, x5_5, x6_5, x7_5, (⟨#[63]⟩ : ByteArray)))))))
def spec_l28Run.l5 : Nat → ByteArray → Int → Int → (List (Int × Int × Int × Int × Int)) → Int → ByteArray → ByteArray → Int → Int → Int → (List (Int × Int × Int × Int × Int)) → Int → ByteArray → ByteArray → Int → List ByteArray → List Int → Int → Option (Int × Int × List (Int × Int × Int × Int × Int) × Int × ByteArray × ByteArray × Int × ByteArray)
  | 0, _, _, _, _, _, _, _, _, _, _, _, _, _, _, _, _, _, _ => none
  | k + 1, x0_5, x1_5, x2_5, l3_5, x4_5, x5_5, x6_5, x7_5, x8_5, x9_5, l10_5, x11_5, x12_5, x13_5, x14_5, l15_5, l16_5, x17_5 => spec_l28Run.b5 (spec_l28Run.l5 k) k x0_5 x1_5 x2_5 l3_5 x4_5 x5_5 x6_5 x7_5 x8_5 x9_5 l10_5 x11_5 x12_5 x13_5 x14_5 l15_5 l16_5 x17_5
def spec_l28Run.m (o5 : ByteArray → Int → Int → (List (Int × Int × Int × Int × Int)) → Int → ByteArray → ByteArray → Int → Int → Int → (List (Int × Int × Int × Int × Int)) → Int → ByteArray → ByteArray → Int → List ByteArray → List Int → Int → Option (Int × Int × List (Int × Int × Int × Int × Int) × Int × ByteArray × ByteArray × Int × ByteArray)) (k : Nat) (a0_0 : Int) (a0_1 : Int) (l0_2 : List (Int × Int × Int × Int × Int)) (a0_3 : Int) (a0_4 : ByteArray) (a0_5 : ByteArray) (a0_6 : Int) (a1 : ByteArray) : Option (Int × Int × List (Int × Int × Int × Int × Int) × Int × ByteArray × ByteArray × Int × ByteArray) := ((spec_l1Split.f k a1 32).bind fun r1 => (o5 a1 a0_0 a0_1 l0_2 a0_3 a0_4 a0_5 a0_6 0 0 [] 0 ByteArray.empty ByteArray.empty 0 r1 ([] : List (Int)) 1))
def spec_l28Run.f (k : Nat) (a0_0 : Int) (a0_1 : Int) (l0_2 : List (Int × Int × Int × Int × Int)) (a0_3 : Int) (a0_4 : ByteArray) (a0_5 : ByteArray) (a0_6 : Int) (a1 : ByteArray) : Option (Int × Int × List (Int × Int × Int × Int × Int) × Int × ByteArray × ByteArray × Int × ByteArray) := spec_l28Run.m (spec_l28Run.l5 k) k a0_0 a0_1 l0_2 a0_3 a0_4 a0_5 a0_6 a1
noncomputable def spec_l28Run.spec (k : Nat) : FnSpec := ⟨[.ag [.d (.int .i64) none, .d (.int .i64) none, .d (.sl (.pair (.int .i64) (.pair (.int .i64) (.pair (.int .i64) (.pair (.int .i64) (.int .i64)))))) none, .d (.int .i64) none, .d .str none, .d .str none, .d (.int .i64) none], .d .str none], [.ag [.d (.int .i64) none, .d (.int .i64) none, .d (.sl (.pair (.int .i64) (.pair (.int .i64) (.pair (.int .i64) (.pair (.int .i64) (.int .i64)))))) none, .d (.int .i64) none, .d .str none, .d .str none, .d (.int .i64) none], .d .str none], fun x => spec_l28Run.f k x.1 x.2.1 x.2.2.1 x.2.2.2.1 x.2.2.2.2.1 x.2.2.2.2.2.1 x.2.2.2.2.2.2.1 x.2.2.2.2.2.2.2⟩
def spec_l28Run.S5 (x0_5 : ByteArray) (x1_5 : Int) (x2_5 : Int) (l3_5 : List (Int × Int × Int × Int × Int)) (x4_5 : Int) (x5_5 : ByteArray) (x6_5 : ByteArray) (x7_5 : Int) (x8_5 : Int) (x9_5 : Int) (l10_5 : List (Int × Int × Int × Int × Int)) (x11_5 : Int) (x12_5 : ByteArray) (x13_5 : ByteArray) (x14_5 : Int) (l15_5 : List ByteArray) (l16_5 : List Int) (x17_5 : Int) : St := ⟨[(1, .val .str x0_5), (2, .ptr 100 0), (4, .ptr 101 0), (6, .ref 102), (7, .ref 103), (8, .val (.int .i64) x17_5)], [(103, some (.row 3 (.int .i64) l16_5)), (102, some (.row 9 .str l15_5)), (101, some (.box [.val (.int .i64) x8_5, .val (.int .i64) x9_5, .val (.sl (.pair (.int .i64) (.pair (.int .i64) (.pair (.int .i64) (.pair (.int .i64) (.int .i64)))))) l10_5, .val (.int .i64) x11_5, .val .str x12_5, .val .str x13_5, .val (.int .i64) x14_5])), (100, some (.box [.val (.int .i64) x1_5, .val (.int .i64) x2_5, .val (.sl (.pair (.int .i64) (.pair (.int .i64) (.pair (.int .i64) (.pair (.int .i64) (.int .i64)))))) l3_5, .val (.int .i64) x4_5, .val .str x5_5, .val .str x6_5, .val (.int .i64) x7_5]))], 1000⟩
noncomputable def spec_l28Run.T : FnText := ⟨(conv [] (bodyOf Go.Proofs.Tryz.f46) 0).1, Go.Proofs.Tryz.f46.results.toList, 72, [(5, [(1, .rd .str), (2, .bx 100 [.rd (.int .i64), .rd (.int .i64), .rd (.sl (.pair (.int .i64) (.pair (.int .i64) (.pair (.int .i64) (.pair (.int .i64) (.int .i64)))))), .rd (.int .i64), .rd .str, .rd .str, .rd (.int .i64)]), (4, .bx 101 [.rd (.int .i64), .rd (.int .i64), .rd (.sl (.pair (.int .i64) (.pair (.int .i64) (.pair (.int .i64) (.pair (.int .i64) (.int .i64)))))), .rd (.int .i64), .rd .str, .rd .str, .rd (.int .i64)]), (6, .own 9 .str 102), (7, .own 3 (.int .i64) 103), (8, .rd (.int .i64))])], [.ag [.d (.int .i64) none, .d (.int .i64) none, .d (.sl (.pair (.int .i64) (.pair (.int .i64) (.pair (.int .i64) (.pair (.int .i64) (.int .i64)))))) none, .d (.int .i64) none, .d .str none, .d .str none, .d (.int .i64) none], .d .str none], [.ag [.d (.int .i64) none, .d (.int .i64) none, .d (.sl (.pair (.int .i64) (.pair (.int .i64) (.pair (.int .i64) (.pair (.int .i64) (.int .i64)))))) none, .d (.int .i64) none, .d .str none, .d .str none, .d (.int .i64) none], .d .str none]⟩
noncomputable def spec_l28Run.tbl (k : Nat) : Tbl := [(66, spec_l1Split.spec k), (87, spec_ParseInt.spec k), (88, spec_l28Word.spec k), (89, spec_l28One.spec k), (90, spec_l28Two.spec k)]
theorem spec_l28Run.e5 (k : Nat) (o : Nat → St → Option (Int × Int × List (Int × Int × Int × Int × Int) × Int × ByteArray × ByteArray × Int × ByteArray)) (x0_5 : ByteArray) (x1_5 : Int) (x2_5 : Int) (l3_5 : List (Int × Int × Int × Int × Int)) (x4_5 : Int) (x5_5 : ByteArray) (x6_5 : ByteArray) (x7_5 : Int) (x8_5 : Int) (x9_5 : Int) (l10_5 : List (Int × Int × Int × Int × Int)) (x11_5 : Int) (x12_5 : ByteArray) (x13_5 : ByteArray) (x14_5 : Int) (l15_5 : List ByteArray) (l16_5 : List Int) (x17_5 : Int) : spec_l28Run.T.step tyt (spec_l28Run.tbl k) o 5 (spec_l28Run.S5 x0_5 x1_5 x2_5 l3_5 x4_5 x5_5 x6_5 x7_5 x8_5 x9_5 l10_5 x11_5 x12_5 x13_5 x14_5 l15_5 l16_5 x17_5) = spec_l28Run.b5 (fun x0_5 x1_5 x2_5 l3_5 x4_5 x5_5 x6_5 x7_5 x8_5 x9_5 l10_5 x11_5 x12_5 x13_5 x14_5 l15_5 l16_5 x17_5 => o 5 (spec_l28Run.S5 x0_5 x1_5 x2_5 l3_5 x4_5 x5_5 x6_5 x7_5 x8_5 x9_5 l10_5 x11_5 x12_5 x13_5 x14_5 l15_5 l16_5 x17_5)) k x0_5 x1_5 x2_5 l3_5 x4_5 x5_5 x6_5 x7_5 x8_5 x9_5 l10_5 x11_5 x12_5 x13_5 x14_5 l15_5 l16_5 x17_5 := by kernel_rfl
theorem spec_l28Run.e (k : Nat) (o : Nat → St → Option (Int × Int × List (Int × Int × Int × Int × Int) × Int × ByteArray × ByteArray × Int × ByteArray)) (a0_0 : Int) (a0_1 : Int) (l0_2 : List (Int × Int × Int × Int × Int)) (a0_3 : Int) (a0_4 : ByteArray) (a0_5 : ByteArray) (a0_6 : Int) (a1 : ByteArray) : spec_l28Run.T.main tyt (spec_l28Run.tbl k) o (a0_0, a0_1, l0_2, a0_3, a0_4, a0_5, a0_6, a1) = spec_l28Run.m (fun x0_5 x1_5 x2_5 l3_5 x4_5 x5_5 x6_5 x7_5 x8_5 x9_5 l10_5 x11_5 x12_5 x13_5 x14_5 l15_5 l16_5 x17_5 => o 5 (spec_l28Run.S5 x0_5 x1_5 x2_5 l3_5 x4_5 x5_5 x6_5 x7_5 x8_5 x9_5 l10_5 x11_5 x12_5 x13_5 x14_5 l15_5 l16_5 x17_5)) k a0_0 a0_1 l0_2 a0_3 a0_4 a0_5 a0_6 a1 := by kernel_rfl
theorem spec_l28Run.ok : spec_l28Run.T.ok = true := by kernel_rfl
theorem spec_l28Run.run (k : Nat) : (∀ (x0_5 : ByteArray) (x1_5 : Int) (x2_5 : Int) (l3_5 : List (Int × Int × Int × Int × Int)) (x4_5 : Int) (x5_5 : ByteArray) (x6_5 : ByteArray) (x7_5 : Int) (x8_5 : Int) (x9_5 : Int) (l10_5 : List (Int × Int × Int × Int × Int)) (x11_5 : Int) (x12_5 : ByteArray) (x13_5 : ByteArray) (x14_5 : Int) (l15_5 : List ByteArray) (l16_5 : List Int) (x17_5 : Int), spec_l28Run.T.run tyt spec_l28Run.tbl k 5 (spec_l28Run.S5 x0_5 x1_5 x2_5 l3_5 x4_5 x5_5 x6_5 x7_5 x8_5 x9_5 l10_5 x11_5 x12_5 x13_5 x14_5 l15_5 l16_5 x17_5) = spec_l28Run.l5 k x0_5 x1_5 x2_5 l3_5 x4_5 x5_5 x6_5 x7_5 x8_5 x9_5 l10_5 x11_5 x12_5 x13_5 x14_5 l15_5 l16_5 x17_5) := by
  induction k with
  | zero => exact fun x0_5 x1_5 x2_5 l3_5 x4_5 x5_5 x6_5 x7_5 x8_5 x9_5 l10_5 x11_5 x12_5 x13_5 x14_5 l15_5 l16_5 x17_5 => rfl
  | succ k ih =>
    exact fun x0_5 x1_5 x2_5 l3_5 x4_5 x5_5 x6_5 x7_5 x8_5 x9_5 l10_5 x11_5 x12_5 x13_5 x14_5 l15_5 l16_5 x17_5 => by
      have q5 : (fun x0_5 x1_5 x2_5 l3_5 x4_5 x5_5 x6_5 x7_5 x8_5 x9_5 l10_5 x11_5 x12_5 x13_5 x14_5 l15_5 l16_5 x17_5 => spec_l28Run.T.run tyt spec_l28Run.tbl k 5 (spec_l28Run.S5 x0_5 x1_5 x2_5 l3_5 x4_5 x5_5 x6_5 x7_5 x8_5 x9_5 l10_5 x11_5 x12_5 x13_5 x14_5 l15_5 l16_5 x17_5)) = spec_l28Run.l5 k := by funext x0_5 x1_5 x2_5 l3_5 x4_5 x5_5 x6_5 x7_5 x8_5 x9_5 l10_5 x11_5 x12_5 x13_5 x14_5 l15_5 l16_5 x17_5; exact ih x0_5 x1_5 x2_5 l3_5 x4_5 x5_5 x6_5 x7_5 x8_5 x9_5 l10_5 x11_5 x12_5 x13_5 x14_5 l15_5 l16_5 x17_5
      exact (spec_l28Run.e5 k (spec_l28Run.T.run tyt spec_l28Run.tbl k) x0_5 x1_5 x2_5 l3_5 x4_5 x5_5 x6_5 x7_5 x8_5 x9_5 l10_5 x11_5 x12_5 x13_5 x14_5 l15_5 l16_5 x17_5).trans (by rw [q5]; rfl)
theorem spec_l28Run.tblok (k : Nat) : TblOk Go.Proofs.Tryz.prog (spec_l28Run.tbl k) := TblOk.cons (spec_l1Split.sound k) (TblOk.cons (spec_ParseInt.sound k) (TblOk.cons (spec_l28Word.sound k) (TblOk.cons (spec_l28One.sound k) (TblOk.cons (spec_l28Two.sound k) (TblOk.nil _)))))
theorem spec_l28Run.sound (k : Nat) : Sound Go.Proofs.Tryz.prog 46 (spec_l28Run.spec k) := by
  have h := fn_ok (F := spec_l28Run.T) (tbl := spec_l28Run.tbl) mixed tyok Go.Proofs.Tryz.func46 (by kernel_rfl) (c0 := bodyOf Go.Proofs.Tryz.f46) rfl (conv_code _ _ _) rfl rfl spec_l28Run.ok k (fun j _ => spec_l28Run.tblok j)
  have q5 : (fun x0_5 x1_5 x2_5 l3_5 x4_5 x5_5 x6_5 x7_5 x8_5 x9_5 l10_5 x11_5 x12_5 x13_5 x14_5 l15_5 l16_5 x17_5 => spec_l28Run.T.run tyt spec_l28Run.tbl k 5 (spec_l28Run.S5 x0_5 x1_5 x2_5 l3_5 x4_5 x5_5 x6_5 x7_5 x8_5 x9_5 l10_5 x11_5 x12_5 x13_5 x14_5 l15_5 l16_5 x17_5)) = spec_l28Run.l5 k := by funext x0_5 x1_5 x2_5 l3_5 x4_5 x5_5 x6_5 x7_5 x8_5 x9_5 l10_5 x11_5 x12_5 x13_5 x14_5 l15_5 l16_5 x17_5; exact (spec_l28Run.run k) x0_5 x1_5 x2_5 l3_5 x4_5 x5_5 x6_5 x7_5 x8_5 x9_5 l10_5 x11_5 x12_5 x13_5 x14_5 l15_5 l16_5 x17_5
  have e : spec_l28Run.spec k = ⟨spec_l28Run.T.ps, spec_l28Run.T.rs, spec_l28Run.T.ev tyt spec_l28Run.tbl k⟩ := congrArg (FnSpec.mk _ _) (funext fun x => ((spec_l28Run.e k (spec_l28Run.T.run tyt spec_l28Run.tbl k) x.1 x.2.1 x.2.2.1 x.2.2.2.1 x.2.2.2.2.1 x.2.2.2.2.2.1 x.2.2.2.2.2.2.1 x.2.2.2.2.2.2.2).trans (by rw [q5]; rfl)).symm)
  rw [e]
  exact h
/-! ### spec_AppendRecord: function 47 -/
def spec_AppendRecord.m (k : Nat) (a0_0 : ByteArray) (a0_1 : ByteArray) (a0_2 : Int) (a1_0 : ByteArray) (a1_1 : ByteArray) : Option (ByteArray × ByteArray × Int × Int) := ((spec_l27Log.f k a0_0 a0_1 a0_2).bind fun r1 => (cond (!r1) (some (a0_0, a0_1, a0_2, 1)) ((spec_l27Good.f k a1_0 a1_1).bind fun r2 => (cond (!r2) (some (a0_0, a0_1, a0_2, 1)) (if a0_2 = 60 then (some (a0_0, a0_1, a0_2, 2)) else ((spec_l27Line.f k a0_2 a1_0 a1_1).bind fun r3 => ((catS a0_1 r3).bind fun s4 => (some (a0_0, s4, (w64 (a0_2 + 1)), 0)))))))))
def spec_AppendRecord.f (k : Nat) (a0_0 : ByteArray) (a0_1 : ByteArray) (a0_2 : Int) (a1_0 : ByteArray) (a1_1 : ByteArray) : Option (ByteArray × ByteArray × Int × Int) := spec_AppendRecord.m k a0_0 a0_1 a0_2 a1_0 a1_1
noncomputable def spec_AppendRecord.spec (k : Nat) : FnSpec := ⟨[.ag [.d .str none, .d .str none, .d (.int .i64) none], .ag [.d .str none, .d .str none]], [.ag [.d .str none, .d .str none, .d (.int .i64) none], .d (.int .i64) none], fun x => spec_AppendRecord.f k x.1 x.2.1 x.2.2.1 x.2.2.2.1 x.2.2.2.2⟩
noncomputable def spec_AppendRecord.T : FnText := ⟨(conv [] (bodyOf Go.Proofs.Tryz.f47) 0).1, Go.Proofs.Tryz.f47.results.toList, 32, [], [.ag [.d .str none, .d .str none, .d (.int .i64) none], .ag [.d .str none, .d .str none]], [.ag [.d .str none, .d .str none, .d (.int .i64) none], .d (.int .i64) none]⟩
noncomputable def spec_AppendRecord.tbl (k : Nat) : Tbl := [(40, spec_l27Log.spec k), (45, spec_l27Good.spec k), (91, spec_l27Line.spec k)]
theorem spec_AppendRecord.e (k : Nat) (o : Nat → St → Option (ByteArray × ByteArray × Int × Int)) (a0_0 : ByteArray) (a0_1 : ByteArray) (a0_2 : Int) (a1_0 : ByteArray) (a1_1 : ByteArray) : spec_AppendRecord.T.main tyt (spec_AppendRecord.tbl k) o (a0_0, a0_1, a0_2, a1_0, a1_1) = spec_AppendRecord.m k a0_0 a0_1 a0_2 a1_0 a1_1 := by kernel_rfl
theorem spec_AppendRecord.ok : spec_AppendRecord.T.ok = true := by kernel_rfl
theorem spec_AppendRecord.tblok (k : Nat) : TblOk Go.Proofs.Tryz.prog (spec_AppendRecord.tbl k) := TblOk.cons (spec_l27Log.sound k) (TblOk.cons (spec_l27Good.sound k) (TblOk.cons (spec_l27Line.sound k) (TblOk.nil _)))
theorem spec_AppendRecord.sound (k : Nat) : Sound Go.Proofs.Tryz.prog 47 (spec_AppendRecord.spec k) := by
  have h := fn_ok (F := spec_AppendRecord.T) (tbl := spec_AppendRecord.tbl) mixed tyok Go.Proofs.Tryz.func47 (by kernel_rfl) (c0 := bodyOf Go.Proofs.Tryz.f47) rfl (conv_code _ _ _) rfl rfl spec_AppendRecord.ok k (fun j _ => spec_AppendRecord.tblok j)
  have e : spec_AppendRecord.spec k = ⟨spec_AppendRecord.T.ps, spec_AppendRecord.T.rs, spec_AppendRecord.T.ev tyt spec_AppendRecord.tbl k⟩ := congrArg (FnSpec.mk _ _) (funext fun x => ((spec_AppendRecord.e k (spec_AppendRecord.T.run tyt spec_AppendRecord.tbl k) x.1 x.2.1 x.2.2.1 x.2.2.2.1 x.2.2.2.2).trans (by rfl)).symm)
  rw [e]
  exact h
/-! ### spec_ExecuteCommand: function 14 -/
def spec_ExecuteCommand.b11 (k : Nat) (x0_11 : ByteArray) (x1_11 : Int) (x2_11 : Int) (l3_11 : List (Int × Int × Int × Int × Int)) (x4_11 : Int) (x5_11 : ByteArray) (x6_11 : ByteArray) (x7_11 : Int) (x8_11 : Int) (x9_11 : Int) (l10_11 : List (Int × Int × Int × Int × Int)) (x11_11 : Int) (x12_11 : ByteArray) (x13_11 : ByteArray) (x14_11 : Int) (x15_11 : Int) (x16_11 : Int) (l17_11 : List (Int × Int × Int × Int × Int)) (x18_11 : Int) (x19_11 : ByteArray) (x20_11 : ByteArray) (x21_11 : Int) (x22_11 : ByteArray) : Option (Int × Int × List (Int × Int × Int × Int × Int) × Int × ByteArray × ByteArray × Int × ByteArray) := ((spec_AppendRecord.f k x5_11 x6_11 x7_11 x0_11 x22_11).bind fun r6 => (some (x15_11, x16_11, l17_11, x18_11, r6.1, r6.2.1, r6.2.2.1, x22_11)))
def spec_ExecuteCommand.l11 : Nat → ByteArray → Int → Int → (List (Int × Int × Int × Int × Int)) → Int → ByteArray → ByteArray → Int → Int → Int → (List (Int × Int × Int × Int × Int)) → Int → ByteArray → ByteArray → Int → Int → Int → (List (Int × Int × Int × Int × Int)) → Int → ByteArray → ByteArray → Int → ByteArray → Option (Int × Int × List (Int × Int × Int × Int × Int) × Int × ByteArray × ByteArray × Int × ByteArray)
  | 0, _, _, _, _, _, _, _, _, _, _, _, _, _, _, _, _, _, _, _, _, _, _, _ => none
  | k + 1, x0_11, x1_11, x2_11, l3_11, x4_11, x5_11, x6_11, x7_11, x8_11, x9_11, l10_11, x11_11, x12_11, x13_11, x14_11, x15_11, x16_11, l17_11, x18_11, x19_11, x20_11, x21_11, x22_11 => spec_ExecuteCommand.b11 k x0_11 x1_11 x2_11 l3_11 x4_11 x5_11 x6_11 x7_11 x8_11 x9_11 l10_11 x11_11 x12_11 x13_11 x14_11 x15_11 x16_11 l17_11 x18_11 x19_11 x20_11 x21_11 x22_11
def spec_ExecuteCommand.m (o11 : ByteArray → Int → Int → (List (Int × Int × Int × Int × Int)) → Int → ByteArray → ByteArray → Int → Int → Int → (List (Int × Int × Int × Int × Int)) → Int → ByteArray → ByteArray → Int → Int → Int → (List (Int × Int × Int × Int × Int)) → Int → ByteArray → ByteArray → Int → ByteArray → Option (Int × Int × List (Int × Int × Int × Int × Int) × Int × ByteArray × ByteArray × Int × ByteArray)) (k : Nat) (a0_0 : Int) (a0_1 : Int) (l0_2 : List (Int × Int × Int × Int × Int)) (a0_3 : Int) (a0_4 : ByteArray) (a0_5 : ByteArray) (a0_6 : Int) (a1 : ByteArray) : Option (Int × Int × List (Int × Int × Int × Int × Int) × Int × ByteArray × ByteArray × Int × ByteArray) := ((spec_l28Own.f k a0_0 a0_1 l0_2 a0_3 a0_4 a0_5 a0_6).bind fun r1 => ((spec_l28Good.f k a0_0 a0_1 l0_2 a0_3 a0_4 a0_5 a0_6).bind fun r2 => (cond (!r2) (some (r1.1, r1.2.1, r1.2.2.1, r1.2.2.2.1, r1.2.2.2.2.1, r1.2.2.2.2.2.1, r1.2.2.2.2.2.2, (⟨#[110, 111]⟩ : ByteArray))) ((spec_l27Good.f k a1 ByteArray.empty).bind fun r3 => (cond (!r3) (some (r1.1, r1.2.1, r1.2.2.1, r1.2.2.2.1, r1.2.2.2.2.1, r1.2.2.2.2.2.1, r1.2.2.2.2.2.2, (⟨#[98, 97, 100]⟩ : ByteArray))) (if a0_6 = 60 then (some (r1.1, r1.2.1, r1.2.2.1, r1.2.2.2.1, r1.2.2.2.2.1, r1.2.2.2.2.2.1, r1.2.2.2.2.2.2, (⟨#[102, 117, 108, 108]⟩ : ByteArray))) else ((spec_l28Run.f k r1.1 r1.2.1 r1.2.2.1 r1.2.2.2.1 r1.2.2.2.2.1 r1.2.2.2.2.2.1 r1.2.2.2.2.2.2 a1).bind fun r4 => ((spec_l28Own.f k r4.1 r4.2.1 r4.2.2.1 r4.2.2.2.1 r4.2.2.2.2.1 r4.2.2.2.2.2.1 r4.2.2.2.2.2.2.1).bind fun r5 => (if 200 < (r4.2.2.2.2.2.2.2.size : Int) then (o11 a1 a0_0 a0_1 l0_2 a0_3 a0_4 a0_5 a0_6 0 0 [] 0 ByteArray.empty ByteArray.empty 0 r5.1 r5.2.1 r5.2.2.1 r5.2.2.2.1 r5.2.2.2.2.1 r5.2.2.2.2.2.1 r5.2.2.2.2.2.2 (⟨#[108, 111, 110, 103]⟩ : ByteArray)) else (o11 a1 a0_0 a0_1 l0_2 a0_3 a0_4 a0_5 a0_6 0 0 [] 0 ByteArray.empty ByteArray.empty 0 r5.1 r5.2.1 r5.2.2.1 r5.2.2.2.1 r5.2.2.2.2.1 r5.2.2.2.2.2.1 r5.2.2.2.2.2.2 r4.2.2.2.2.2.2.2))))))))))
def spec_ExecuteCommand.f (k : Nat) (a0_0 : Int) (a0_1 : Int) (l0_2 : List (Int × Int × Int × Int × Int)) (a0_3 : Int) (a0_4 : ByteArray) (a0_5 : ByteArray) (a0_6 : Int) (a1 : ByteArray) : Option (Int × Int × List (Int × Int × Int × Int × Int) × Int × ByteArray × ByteArray × Int × ByteArray) := spec_ExecuteCommand.m (spec_ExecuteCommand.l11 k) k a0_0 a0_1 l0_2 a0_3 a0_4 a0_5 a0_6 a1
noncomputable def spec_ExecuteCommand.spec (k : Nat) : FnSpec := ⟨[.ag [.d (.int .i64) none, .d (.int .i64) none, .d (.sl (.pair (.int .i64) (.pair (.int .i64) (.pair (.int .i64) (.pair (.int .i64) (.int .i64)))))) none, .d (.int .i64) none, .d .str none, .d .str none, .d (.int .i64) none], .d .str none], [.ag [.d (.int .i64) none, .d (.int .i64) none, .d (.sl (.pair (.int .i64) (.pair (.int .i64) (.pair (.int .i64) (.pair (.int .i64) (.int .i64)))))) (some 108), .d (.int .i64) none, .d .str none, .d .str none, .d (.int .i64) none], .d .str none], fun x => spec_ExecuteCommand.f k x.1 x.2.1 x.2.2.1 x.2.2.2.1 x.2.2.2.2.1 x.2.2.2.2.2.1 x.2.2.2.2.2.2.1 x.2.2.2.2.2.2.2⟩
def spec_ExecuteCommand.S11 (x0_11 : ByteArray) (x1_11 : Int) (x2_11 : Int) (l3_11 : List (Int × Int × Int × Int × Int)) (x4_11 : Int) (x5_11 : ByteArray) (x6_11 : ByteArray) (x7_11 : Int) (x8_11 : Int) (x9_11 : Int) (l10_11 : List (Int × Int × Int × Int × Int)) (x11_11 : Int) (x12_11 : ByteArray) (x13_11 : ByteArray) (x14_11 : Int) (x15_11 : Int) (x16_11 : Int) (l17_11 : List (Int × Int × Int × Int × Int)) (x18_11 : Int) (x19_11 : ByteArray) (x20_11 : ByteArray) (x21_11 : Int) (x22_11 : ByteArray) : St := ⟨[(1, .val .str x0_11), (2, .ptr 100 0), (4, .ptr 101 0), (6, .ptr 102 0), (8, .val .str x22_11)], [(102, some (.box [.val (.int .i64) x15_11, .val (.int .i64) x16_11, .ref 103, .val (.int .i64) x18_11, .val .str x19_11, .val .str x20_11, .val (.int .i64) x21_11])), (103, some (.row 108 (.pair (.int .i64) (.pair (.int .i64) (.pair (.int .i64) (.pair (.int .i64) (.int .i64))))) l17_11)), (101, some (.box [.val (.int .i64) x8_11, .val (.int .i64) x9_11, .val (.sl (.pair (.int .i64) (.pair (.int .i64) (.pair (.int .i64) (.pair (.int .i64) (.int .i64)))))) l10_11, .val (.int .i64) x11_11, .val .str x12_11, .val .str x13_11, .val (.int .i64) x14_11])), (100, some (.box [.val (.int .i64) x1_11, .val (.int .i64) x2_11, .val (.sl (.pair (.int .i64) (.pair (.int .i64) (.pair (.int .i64) (.pair (.int .i64) (.int .i64)))))) l3_11, .val (.int .i64) x4_11, .val .str x5_11, .val .str x6_11, .val (.int .i64) x7_11]))], 1000⟩
noncomputable def spec_ExecuteCommand.T : FnText := ⟨(conv [11] (bodyOf Go.Proofs.Tryz.f14) 0).1, Go.Proofs.Tryz.f14.results.toList, 51, [(11, [(1, .rd .str), (2, .bx 100 [.rd (.int .i64), .rd (.int .i64), .rd (.sl (.pair (.int .i64) (.pair (.int .i64) (.pair (.int .i64) (.pair (.int .i64) (.int .i64)))))), .rd (.int .i64), .rd .str, .rd .str, .rd (.int .i64)]), (4, .bx 101 [.rd (.int .i64), .rd (.int .i64), .rd (.sl (.pair (.int .i64) (.pair (.int .i64) (.pair (.int .i64) (.pair (.int .i64) (.int .i64)))))), .rd (.int .i64), .rd .str, .rd .str, .rd (.int .i64)]), (6, .bx 102 [.rd (.int .i64), .rd (.int .i64), .own 108 (.pair (.int .i64) (.pair (.int .i64) (.pair (.int .i64) (.pair (.int .i64) (.int .i64))))) 103, .rd (.int .i64), .rd .str, .rd .str, .rd (.int .i64)]), (8, .rd .str)])], [.ag [.d (.int .i64) none, .d (.int .i64) none, .d (.sl (.pair (.int .i64) (.pair (.int .i64) (.pair (.int .i64) (.pair (.int .i64) (.int .i64)))))) none, .d (.int .i64) none, .d .str none, .d .str none, .d (.int .i64) none], .d .str none], [.ag [.d (.int .i64) none, .d (.int .i64) none, .d (.sl (.pair (.int .i64) (.pair (.int .i64) (.pair (.int .i64) (.pair (.int .i64) (.int .i64)))))) (some 108), .d (.int .i64) none, .d .str none, .d .str none, .d (.int .i64) none], .d .str none]⟩
noncomputable def spec_ExecuteCommand.tbl (k : Nat) : Tbl := [(43, spec_l28Own.spec k), (44, spec_l28Good.spec k), (45, spec_l27Good.spec k), (46, spec_l28Run.spec k), (47, spec_AppendRecord.spec k)]
theorem spec_ExecuteCommand.e11 (k : Nat) (o : Nat → St → Option (Int × Int × List (Int × Int × Int × Int × Int) × Int × ByteArray × ByteArray × Int × ByteArray)) (x0_11 : ByteArray) (x1_11 : Int) (x2_11 : Int) (l3_11 : List (Int × Int × Int × Int × Int)) (x4_11 : Int) (x5_11 : ByteArray) (x6_11 : ByteArray) (x7_11 : Int) (x8_11 : Int) (x9_11 : Int) (l10_11 : List (Int × Int × Int × Int × Int)) (x11_11 : Int) (x12_11 : ByteArray) (x13_11 : ByteArray) (x14_11 : Int) (x15_11 : Int) (x16_11 : Int) (l17_11 : List (Int × Int × Int × Int × Int)) (x18_11 : Int) (x19_11 : ByteArray) (x20_11 : ByteArray) (x21_11 : Int) (x22_11 : ByteArray) : spec_ExecuteCommand.T.step tyt (spec_ExecuteCommand.tbl k) o 11 (spec_ExecuteCommand.S11 x0_11 x1_11 x2_11 l3_11 x4_11 x5_11 x6_11 x7_11 x8_11 x9_11 l10_11 x11_11 x12_11 x13_11 x14_11 x15_11 x16_11 l17_11 x18_11 x19_11 x20_11 x21_11 x22_11) = spec_ExecuteCommand.b11 k x0_11 x1_11 x2_11 l3_11 x4_11 x5_11 x6_11 x7_11 x8_11 x9_11 l10_11 x11_11 x12_11 x13_11 x14_11 x15_11 x16_11 l17_11 x18_11 x19_11 x20_11 x21_11 x22_11 := by kernel_rfl
theorem spec_ExecuteCommand.e (k : Nat) (o : Nat → St → Option (Int × Int × List (Int × Int × Int × Int × Int) × Int × ByteArray × ByteArray × Int × ByteArray)) (a0_0 : Int) (a0_1 : Int) (l0_2 : List (Int × Int × Int × Int × Int)) (a0_3 : Int) (a0_4 : ByteArray) (a0_5 : ByteArray) (a0_6 : Int) (a1 : ByteArray) : spec_ExecuteCommand.T.main tyt (spec_ExecuteCommand.tbl k) o (a0_0, a0_1, l0_2, a0_3, a0_4, a0_5, a0_6, a1) = spec_ExecuteCommand.m (fun x0_11 x1_11 x2_11 l3_11 x4_11 x5_11 x6_11 x7_11 x8_11 x9_11 l10_11 x11_11 x12_11 x13_11 x14_11 x15_11 x16_11 l17_11 x18_11 x19_11 x20_11 x21_11 x22_11 => o 11 (spec_ExecuteCommand.S11 x0_11 x1_11 x2_11 l3_11 x4_11 x5_11 x6_11 x7_11 x8_11 x9_11 l10_11 x11_11 x12_11 x13_11 x14_11 x15_11 x16_11 l17_11 x18_11 x19_11 x20_11 x21_11 x22_11)) k a0_0 a0_1 l0_2 a0_3 a0_4 a0_5 a0_6 a1 := by kernel_rfl
theorem spec_ExecuteCommand.ok : spec_ExecuteCommand.T.ok = true := by kernel_rfl
theorem spec_ExecuteCommand.run (k : Nat) : (∀ (x0_11 : ByteArray) (x1_11 : Int) (x2_11 : Int) (l3_11 : List (Int × Int × Int × Int × Int)) (x4_11 : Int) (x5_11 : ByteArray) (x6_11 : ByteArray) (x7_11 : Int) (x8_11 : Int) (x9_11 : Int) (l10_11 : List (Int × Int × Int × Int × Int)) (x11_11 : Int) (x12_11 : ByteArray) (x13_11 : ByteArray) (x14_11 : Int) (x15_11 : Int) (x16_11 : Int) (l17_11 : List (Int × Int × Int × Int × Int)) (x18_11 : Int) (x19_11 : ByteArray) (x20_11 : ByteArray) (x21_11 : Int) (x22_11 : ByteArray), spec_ExecuteCommand.T.run tyt spec_ExecuteCommand.tbl k 11 (spec_ExecuteCommand.S11 x0_11 x1_11 x2_11 l3_11 x4_11 x5_11 x6_11 x7_11 x8_11 x9_11 l10_11 x11_11 x12_11 x13_11 x14_11 x15_11 x16_11 l17_11 x18_11 x19_11 x20_11 x21_11 x22_11) = spec_ExecuteCommand.l11 k x0_11 x1_11 x2_11 l3_11 x4_11 x5_11 x6_11 x7_11 x8_11 x9_11 l10_11 x11_11 x12_11 x13_11 x14_11 x15_11 x16_11 l17_11 x18_11 x19_11 x20_11 x21_11 x22_11) := by
  induction k with
  | zero => exact fun x0_11 x1_11 x2_11 l3_11 x4_11 x5_11 x6_11 x7_11 x8_11 x9_11 l10_11 x11_11 x12_11 x13_11 x14_11 x15_11 x16_11 l17_11 x18_11 x19_11 x20_11 x21_11 x22_11 => rfl
  | succ k ih =>
    exact fun x0_11 x1_11 x2_11 l3_11 x4_11 x5_11 x6_11 x7_11 x8_11 x9_11 l10_11 x11_11 x12_11 x13_11 x14_11 x15_11 x16_11 l17_11 x18_11 x19_11 x20_11 x21_11 x22_11 => by
      exact (spec_ExecuteCommand.e11 k (spec_ExecuteCommand.T.run tyt spec_ExecuteCommand.tbl k) x0_11 x1_11 x2_11 l3_11 x4_11 x5_11 x6_11 x7_11 x8_11 x9_11 l10_11 x11_11 x12_11 x13_11 x14_11 x15_11 x16_11 l17_11 x18_11 x19_11 x20_11 x21_11 x22_11).trans (by rfl)
theorem spec_ExecuteCommand.tblok (k : Nat) : TblOk Go.Proofs.Tryz.prog (spec_ExecuteCommand.tbl k) := TblOk.cons (spec_l28Own.sound k) (TblOk.cons (spec_l28Good.sound k) (TblOk.cons (spec_l27Good.sound k) (TblOk.cons (spec_l28Run.sound k) (TblOk.cons (spec_AppendRecord.sound k) (TblOk.nil _)))))
theorem spec_ExecuteCommand.sound (k : Nat) : Sound Go.Proofs.Tryz.prog 14 (spec_ExecuteCommand.spec k) := by
  have h := fn_ok (F := spec_ExecuteCommand.T) (tbl := spec_ExecuteCommand.tbl) mixed tyok Go.Proofs.Tryz.func14 (by kernel_rfl) (c0 := bodyOf Go.Proofs.Tryz.f14) rfl (conv_code _ _ _) rfl rfl spec_ExecuteCommand.ok k (fun j _ => spec_ExecuteCommand.tblok j)
  have q11 : (fun x0_11 x1_11 x2_11 l3_11 x4_11 x5_11 x6_11 x7_11 x8_11 x9_11 l10_11 x11_11 x12_11 x13_11 x14_11 x15_11 x16_11 l17_11 x18_11 x19_11 x20_11 x21_11 x22_11 => spec_ExecuteCommand.T.run tyt spec_ExecuteCommand.tbl k 11 (spec_ExecuteCommand.S11 x0_11 x1_11 x2_11 l3_11 x4_11 x5_11 x6_11 x7_11 x8_11 x9_11 l10_11 x11_11 x12_11 x13_11 x14_11 x15_11 x16_11 l17_11 x18_11 x19_11 x20_11 x21_11 x22_11)) = spec_ExecuteCommand.l11 k := by funext x0_11 x1_11 x2_11 l3_11 x4_11 x5_11 x6_11 x7_11 x8_11 x9_11 l10_11 x11_11 x12_11 x13_11 x14_11 x15_11 x16_11 l17_11 x18_11 x19_11 x20_11 x21_11 x22_11; exact (spec_ExecuteCommand.run k) x0_11 x1_11 x2_11 l3_11 x4_11 x5_11 x6_11 x7_11 x8_11 x9_11 l10_11 x11_11 x12_11 x13_11 x14_11 x15_11 x16_11 l17_11 x18_11 x19_11 x20_11 x21_11 x22_11
  have e : spec_ExecuteCommand.spec k = ⟨spec_ExecuteCommand.T.ps, spec_ExecuteCommand.T.rs, spec_ExecuteCommand.T.ev tyt spec_ExecuteCommand.tbl k⟩ := congrArg (FnSpec.mk _ _) (funext fun x => ((spec_ExecuteCommand.e k (spec_ExecuteCommand.T.run tyt spec_ExecuteCommand.tbl k) x.1 x.2.1 x.2.2.1 x.2.2.2.1 x.2.2.2.2.1 x.2.2.2.2.2.1 x.2.2.2.2.2.2.1 x.2.2.2.2.2.2.2).trans (by rw [q11]; rfl)).symm)
  rw [e]
  exact h
/-! ### spec_ReplayLog: function 10 -/
def spec_ReplayLog.b9 (o9 : Int → Int → (List (Int × Int × Int × Int × Int)) → Int → ByteArray → ByteArray → Int → (List (ByteArray × ByteArray)) → Int → Option (Int × Bool)) (k : Nat) (x0_9 : Int) (x1_9 : Int) (l2_9 : List (Int × Int × Int × Int × Int)) (x3_9 : Int) (x4_9 : ByteArray) (x5_9 : ByteArray) (x6_9 : Int) (l7_9 : List (ByteArray × ByteArray)) (x8_9 : Int) : Option (Int × Bool) := (if x8_9 < (l7_9.length : Int) then ((chk l7_9.length x8_9).bind fun i4 => ((spec_ExecuteCommand.f k x0_9 x1_9 l2_9 x3_9 x4_9 x5_9 x6_9 ((l7_9.getD i4 (ByteArray.empty, ByteArray.empty)).1)).bind fun r5 => ((chk l7_9.length x8_9).bind fun i6 => (if ¬ r5.2.2.2.2.2.2.2 = ((l7_9.getD i6 (ByteArray.empty, ByteArray.empty)).2) then (some (x8_9, true)) else (o9 r5.1 r5.2.1 r5.2.2.1 r5.2.2.2.1 r5.2.2.2.2.1 r5.2.2.2.2.2.1 r5.2.2.2.2.2.2.1 l7_9 (w64 (x8_9 + 1))))))) else (some ((l7_9.length : Int), true)))
def spec_ReplayLog.l9 : Nat → Int → Int → (List (Int × Int × Int × Int × Int)) → Int → ByteArray → ByteArray → Int → (List (ByteArray × ByteArray)) → Int → Option (Int × Bool)
  | 0, _, _, _, _, _, _, _, _, _ => none
  | k + 1, x0_9, x1_9, l2_9, x3_9, x4_9, x5_9, x6_9, l7_9, x8_9 => spec_ReplayLog.b9 (spec_ReplayLog.l9 k) k x0_9 x1_9 l2_9 x3_9 x4_9 x5_9 x6_9 l7_9 x8_9
def spec_ReplayLog.m (o9 : Int → Int → (List (Int × Int × Int × Int × Int)) → Int → ByteArray → ByteArray → Int → (List (ByteArray × ByteArray)) → Int → Option (Int × Bool)) (k : Nat) (a0 : Int) (a1_0 : ByteArray) (a1_1 : ByteArray) (a1_2 : Int) : Option (Int × Bool) := ((spec_NewConsole.f k a0).bind fun r1 => (cond (!r1.2.2.2.2.2.2.2) (some (0, false)) ((spec_l27Log.f k a1_0 a1_1 a1_2).bind fun r2 => (cond (!r2) (some (0, false)) ((spec_LogRecords.f k a1_0 a1_1 a1_2).bind fun r3 => (o9 r1.1 r1.2.1 r1.2.2.1 r1.2.2.2.1 r1.2.2.2.2.1 r1.2.2.2.2.2.1 r1.2.2.2.2.2.2.1 r3.1 0))))))
def spec_ReplayLog.f (k : Nat) (a0 : Int) (a1_0 : ByteArray) (a1_1 : ByteArray) (a1_2 : Int) : Option (Int × Bool) := spec_ReplayLog.m (spec_ReplayLog.l9 k) k a0 a1_0 a1_1 a1_2
noncomputable def spec_ReplayLog.spec (k : Nat) : FnSpec := ⟨[.d (.int .i64) none, .ag [.d .str none, .d .str none, .d (.int .i64) none]], [.d (.int .i64) none, .d .bool none], fun x => spec_ReplayLog.f k x.1 x.2.1 x.2.2.1 x.2.2.2⟩
def spec_ReplayLog.S9 (x0_9 : Int) (x1_9 : Int) (l2_9 : List (Int × Int × Int × Int × Int)) (x3_9 : Int) (x4_9 : ByteArray) (x5_9 : ByteArray) (x6_9 : Int) (l7_9 : List (ByteArray × ByteArray)) (x8_9 : Int) : St := ⟨[(6, .ptr 100 0), (8, .ref 102), (11, .val (.int .i64) x8_9)], [(102, some (.row 55 (.pair .str .str) l7_9)), (100, some (.box [.val (.int .i64) x0_9, .val (.int .i64) x1_9, .ref 101, .val (.int .i64) x3_9, .val .str x4_9, .val .str x5_9, .val (.int .i64) x6_9])), (101, some (.row 108 (.pair (.int .i64) (.pair (.int .i64) (.pair (.int .i64) (.pair (.int .i64) (.int .i64))))) l2_9))], 1000⟩
noncomputable def spec_ReplayLog.T : FnText := ⟨(conv [] (bodyOf Go.Proofs.Tryz.f10) 0).1, Go.Proofs.Tryz.f10.results.toList, 55, [(9, [(6, .bx 100 [.rd (.int .i64), .rd (.int .i64), .own 108 (.pair (.int .i64) (.pair (.int .i64) (.pair (.int .i64) (.pair (.int .i64) (.int .i64))))) 101, .rd (.int .i64), .rd .str, .rd .str, .rd (.int .i64)]), (8, .own 55 (.pair .str .str) 102), (11, .rd (.int .i64))])], [.d (.int .i64) none, .ag [.d .str none, .d .str none, .d (.int .i64) none]], [.d (.int .i64) none, .d .bool none]⟩
noncomputable def spec_ReplayLog.tbl (k : Nat) : Tbl := [(37, spec_NewConsole.spec k), (40, spec_l27Log.spec k), (41, spec_LogRecords.spec k), (14, spec_ExecuteCommand.spec k)]
theorem spec_ReplayLog.e9 (k : Nat) (o : Nat → St → Option (Int × Bool)) (x0_9 : Int) (x1_9 : Int) (l2_9 : List (Int × Int × Int × Int × Int)) (x3_9 : Int) (x4_9 : ByteArray) (x5_9 : ByteArray) (x6_9 : Int) (l7_9 : List (ByteArray × ByteArray)) (x8_9 : Int) : spec_ReplayLog.T.step tyt (spec_ReplayLog.tbl k) o 9 (spec_ReplayLog.S9 x0_9 x1_9 l2_9 x3_9 x4_9 x5_9 x6_9 l7_9 x8_9) = spec_ReplayLog.b9 (fun x0_9 x1_9 l2_9 x3_9 x4_9 x5_9 x6_9 l7_9 x8_9 => o 9 (spec_ReplayLog.S9 x0_9 x1_9 l2_9 x3_9 x4_9 x5_9 x6_9 l7_9 x8_9)) k x0_9 x1_9 l2_9 x3_9 x4_9 x5_9 x6_9 l7_9 x8_9 := by kernel_rfl
theorem spec_ReplayLog.e (k : Nat) (o : Nat → St → Option (Int × Bool)) (a0 : Int) (a1_0 : ByteArray) (a1_1 : ByteArray) (a1_2 : Int) : spec_ReplayLog.T.main tyt (spec_ReplayLog.tbl k) o (a0, a1_0, a1_1, a1_2) = spec_ReplayLog.m (fun x0_9 x1_9 l2_9 x3_9 x4_9 x5_9 x6_9 l7_9 x8_9 => o 9 (spec_ReplayLog.S9 x0_9 x1_9 l2_9 x3_9 x4_9 x5_9 x6_9 l7_9 x8_9)) k a0 a1_0 a1_1 a1_2 := by kernel_rfl
theorem spec_ReplayLog.ok : spec_ReplayLog.T.ok = true := by kernel_rfl
theorem spec_ReplayLog.run (k : Nat) : (∀ (x0_9 : Int) (x1_9 : Int) (l2_9 : List (Int × Int × Int × Int × Int)) (x3_9 : Int) (x4_9 : ByteArray) (x5_9 : ByteArray) (x6_9 : Int) (l7_9 : List (ByteArray × ByteArray)) (x8_9 : Int), spec_ReplayLog.T.run tyt spec_ReplayLog.tbl k 9 (spec_ReplayLog.S9 x0_9 x1_9 l2_9 x3_9 x4_9 x5_9 x6_9 l7_9 x8_9) = spec_ReplayLog.l9 k x0_9 x1_9 l2_9 x3_9 x4_9 x5_9 x6_9 l7_9 x8_9) := by
  induction k with
  | zero => exact fun x0_9 x1_9 l2_9 x3_9 x4_9 x5_9 x6_9 l7_9 x8_9 => rfl
  | succ k ih =>
    exact fun x0_9 x1_9 l2_9 x3_9 x4_9 x5_9 x6_9 l7_9 x8_9 => by
      have q9 : (fun x0_9 x1_9 l2_9 x3_9 x4_9 x5_9 x6_9 l7_9 x8_9 => spec_ReplayLog.T.run tyt spec_ReplayLog.tbl k 9 (spec_ReplayLog.S9 x0_9 x1_9 l2_9 x3_9 x4_9 x5_9 x6_9 l7_9 x8_9)) = spec_ReplayLog.l9 k := by funext x0_9 x1_9 l2_9 x3_9 x4_9 x5_9 x6_9 l7_9 x8_9; exact ih x0_9 x1_9 l2_9 x3_9 x4_9 x5_9 x6_9 l7_9 x8_9
      exact (spec_ReplayLog.e9 k (spec_ReplayLog.T.run tyt spec_ReplayLog.tbl k) x0_9 x1_9 l2_9 x3_9 x4_9 x5_9 x6_9 l7_9 x8_9).trans (by rw [q9]; rfl)
theorem spec_ReplayLog.tblok (k : Nat) : TblOk Go.Proofs.Tryz.prog (spec_ReplayLog.tbl k) := TblOk.cons (spec_NewConsole.sound k) (TblOk.cons (spec_l27Log.sound k) (TblOk.cons (spec_LogRecords.sound k) (TblOk.cons (spec_ExecuteCommand.sound k) (TblOk.nil _))))
theorem spec_ReplayLog.sound (k : Nat) : Sound Go.Proofs.Tryz.prog 10 (spec_ReplayLog.spec k) := by
  have h := fn_ok (F := spec_ReplayLog.T) (tbl := spec_ReplayLog.tbl) mixed tyok Go.Proofs.Tryz.func10 (by kernel_rfl) (c0 := bodyOf Go.Proofs.Tryz.f10) rfl (conv_code _ _ _) rfl rfl spec_ReplayLog.ok k (fun j _ => spec_ReplayLog.tblok j)
  have q9 : (fun x0_9 x1_9 l2_9 x3_9 x4_9 x5_9 x6_9 l7_9 x8_9 => spec_ReplayLog.T.run tyt spec_ReplayLog.tbl k 9 (spec_ReplayLog.S9 x0_9 x1_9 l2_9 x3_9 x4_9 x5_9 x6_9 l7_9 x8_9)) = spec_ReplayLog.l9 k := by funext x0_9 x1_9 l2_9 x3_9 x4_9 x5_9 x6_9 l7_9 x8_9; exact (spec_ReplayLog.run k) x0_9 x1_9 l2_9 x3_9 x4_9 x5_9 x6_9 l7_9 x8_9
  have e : spec_ReplayLog.spec k = ⟨spec_ReplayLog.T.ps, spec_ReplayLog.T.rs, spec_ReplayLog.T.ev tyt spec_ReplayLog.tbl k⟩ := congrArg (FnSpec.mk _ _) (funext fun x => ((spec_ReplayLog.e k (spec_ReplayLog.T.run tyt spec_ReplayLog.tbl k) x.1 x.2.1 x.2.2.1 x.2.2.2).trans (by rw [q9]; rfl)).symm)
  rw [e]
  exact h
/-! ### impl_in: function 79 -/
def impl_in.m (k : Nat) (a0 : Int) (a1 : Int) (a2 : Int) : Option (Bool) := (if a1 ≤ a0 then (some (decide (a0 ≤ a2))) else (some false))
def impl_in.f (k : Nat) (a0 : Int) (a1 : Int) (a2 : Int) : Option (Bool) := impl_in.m k a0 a1 a2
noncomputable def impl_in.spec (k : Nat) : FnSpec := ⟨[.d (.int .i64) none, .d (.int .i64) none, .d (.int .i64) none], [.d .bool none], fun x => impl_in.f k x.1 x.2.1 x.2.2⟩
noncomputable def impl_in.T : FnText := ⟨(conv [] (bodyOf Go.Proofs.Tryz.f79) 0).1, Go.Proofs.Tryz.f79.results.toList, 15, [], [.d (.int .i64) none, .d (.int .i64) none, .d (.int .i64) none], [.d .bool none]⟩
noncomputable def impl_in.tbl (k : Nat) : Tbl := []
theorem impl_in.e (k : Nat) (o : Nat → St → Option (Bool)) (a0 : Int) (a1 : Int) (a2 : Int) : impl_in.T.main tyt (impl_in.tbl k) o (a0, a1, a2) = impl_in.m k a0 a1 a2 := by kernel_rfl
theorem impl_in.ok : impl_in.T.ok = true := by kernel_rfl
theorem impl_in.tblok (k : Nat) : TblOk Go.Proofs.Tryz.prog (impl_in.tbl k) := TblOk.nil _
theorem impl_in.sound (k : Nat) : Sound Go.Proofs.Tryz.prog 79 (impl_in.spec k) := by
  have h := fn_ok (F := impl_in.T) (tbl := impl_in.tbl) mixed tyok Go.Proofs.Tryz.func79 (by kernel_rfl) (c0 := bodyOf Go.Proofs.Tryz.f79) rfl (conv_code _ _ _) rfl rfl impl_in.ok k (fun j _ => impl_in.tblok j)
  have e : impl_in.spec k = ⟨impl_in.T.ps, impl_in.T.rs, impl_in.T.ev tyt impl_in.tbl k⟩ := congrArg (FnSpec.mk _ _) (funext fun x => ((impl_in.e k (impl_in.T.run tyt impl_in.tbl k) x.1 x.2.1 x.2.2).trans (by rfl)).symm)
  rw [e]
  exact h
/-! ### impl_NewShop: function 77 -/
def impl_NewShop.m (k : Nat) (a0 : Int) : Option (Int × Int × List (Int × Int × Int × Int × Int) × Int × Bool) := ((impl_in.f k a0 1 4).bind fun r1 => (cond (!r1) (some (0, 0, [], 0, false)) (some (0, a0, [], 0, true))))
def impl_NewShop.f (k : Nat) (a0 : Int) : Option (Int × Int × List (Int × Int × Int × Int × Int) × Int × Bool) := impl_NewShop.m k a0
noncomputable def impl_NewShop.spec (k : Nat) : FnSpec := ⟨[.d (.int .i64) none], [.ag [.d (.int .i64) none, .d (.int .i64) none, .d (.sl (.pair (.int .i64) (.pair (.int .i64) (.pair (.int .i64) (.pair (.int .i64) (.int .i64)))))) (some 108), .d (.int .i64) none], .d .bool none], fun x => impl_NewShop.f k x⟩
noncomputable def impl_NewShop.T : FnText := ⟨(conv [] (bodyOf Go.Proofs.Tryz.f77) 0).1, Go.Proofs.Tryz.f77.results.toList, 10, [], [.d (.int .i64) none], [.ag [.d (.int .i64) none, .d (.int .i64) none, .d (.sl (.pair (.int .i64) (.pair (.int .i64) (.pair (.int .i64) (.pair (.int .i64) (.int .i64)))))) (some 108), .d (.int .i64) none], .d .bool none]⟩
noncomputable def impl_NewShop.tbl (k : Nat) : Tbl := [(79, impl_in.spec k)]
theorem impl_NewShop.e (k : Nat) (o : Nat → St → Option (Int × Int × List (Int × Int × Int × Int × Int) × Int × Bool)) (a0 : Int) : impl_NewShop.T.main tyt (impl_NewShop.tbl k) o a0 = impl_NewShop.m k a0 := by kernel_rfl
theorem impl_NewShop.ok : impl_NewShop.T.ok = true := by kernel_rfl
theorem impl_NewShop.tblok (k : Nat) : TblOk Go.Proofs.Tryz.prog (impl_NewShop.tbl k) := TblOk.cons (impl_in.sound k) (TblOk.nil _)
theorem impl_NewShop.sound (k : Nat) : Sound Go.Proofs.Tryz.prog 77 (impl_NewShop.spec k) := by
  have h := fn_ok (F := impl_NewShop.T) (tbl := impl_NewShop.tbl) mixed tyok Go.Proofs.Tryz.func77 (by kernel_rfl) (c0 := bodyOf Go.Proofs.Tryz.f77) rfl (conv_code _ _ _) rfl rfl impl_NewShop.ok k (fun j _ => impl_NewShop.tblok j)
  have e : impl_NewShop.spec k = ⟨impl_NewShop.T.ps, impl_NewShop.T.rs, impl_NewShop.T.ev tyt impl_NewShop.tbl k⟩ := congrArg (FnSpec.mk _ _) (funext fun x => ((impl_NewShop.e k (impl_NewShop.T.run tyt impl_NewShop.tbl k) x).trans (by rfl)).symm)
  rw [e]
  exact h
/-! ### impl_NewConsole: function 36 -/
def impl_NewConsole.m (k : Nat) (a0 : Int) : Option (Int × Int × List (Int × Int × Int × Int × Int) × Int × ByteArray × ByteArray × Int × Bool) := ((impl_NewShop.f k a0).bind fun r1 => (cond (!r1.2.2.2.2) (some (0, 0, [], 0, ByteArray.empty, ByteArray.empty, 0, false)) (some (r1.1, r1.2.1, r1.2.2.1, r1.2.2.2.1, ByteArray.empty, ByteArray.empty, 0, true))))
def impl_NewConsole.f (k : Nat) (a0 : Int) : Option (Int × Int × List (Int × Int × Int × Int × Int) × Int × ByteArray × ByteArray × Int × Bool) := impl_NewConsole.m k a0
noncomputable def impl_NewConsole.spec (k : Nat) : FnSpec := ⟨[.d (.int .i64) none], [.ag [.d (.int .i64) none, .d (.int .i64) none, .d (.sl (.pair (.int .i64) (.pair (.int .i64) (.pair (.int .i64) (.pair (.int .i64) (.int .i64)))))) (some 108), .d (.int .i64) none, .d .str none, .d .str none, .d (.int .i64) none], .d .bool none], fun x => impl_NewConsole.f k x⟩
noncomputable def impl_NewConsole.T : FnText := ⟨(conv [] (bodyOf Go.Proofs.Tryz.f36) 0).1, Go.Proofs.Tryz.f36.results.toList, 16, [], [.d (.int .i64) none], [.ag [.d (.int .i64) none, .d (.int .i64) none, .d (.sl (.pair (.int .i64) (.pair (.int .i64) (.pair (.int .i64) (.pair (.int .i64) (.int .i64)))))) (some 108), .d (.int .i64) none, .d .str none, .d .str none, .d (.int .i64) none], .d .bool none]⟩
noncomputable def impl_NewConsole.tbl (k : Nat) : Tbl := [(77, impl_NewShop.spec k)]
theorem impl_NewConsole.e (k : Nat) (o : Nat → St → Option (Int × Int × List (Int × Int × Int × Int × Int) × Int × ByteArray × ByteArray × Int × Bool)) (a0 : Int) : impl_NewConsole.T.main tyt (impl_NewConsole.tbl k) o a0 = impl_NewConsole.m k a0 := by kernel_rfl
theorem impl_NewConsole.ok : impl_NewConsole.T.ok = true := by kernel_rfl
theorem impl_NewConsole.tblok (k : Nat) : TblOk Go.Proofs.Tryz.prog (impl_NewConsole.tbl k) := TblOk.cons (impl_NewShop.sound k) (TblOk.nil _)
theorem impl_NewConsole.sound (k : Nat) : Sound Go.Proofs.Tryz.prog 36 (impl_NewConsole.spec k) := by
  have h := fn_ok (F := impl_NewConsole.T) (tbl := impl_NewConsole.tbl) mixed tyok Go.Proofs.Tryz.func36 (by kernel_rfl) (c0 := bodyOf Go.Proofs.Tryz.f36) rfl (conv_code _ _ _) rfl rfl impl_NewConsole.ok k (fun j _ => impl_NewConsole.tblok j)
  have e : impl_NewConsole.spec k = ⟨impl_NewConsole.T.ps, impl_NewConsole.T.rs, impl_NewConsole.T.ev tyt impl_NewConsole.tbl k⟩ := congrArg (FnSpec.mk _ _) (funext fun x => ((impl_NewConsole.e k (impl_NewConsole.T.run tyt impl_NewConsole.tbl k) x).trans (by rfl)).symm)
  rw [e]
  exact h
/-! ### strings_Cut: function 157, by its contract -/
def strings_Cut.f (k : Nat) (a0 : ByteArray) (a1 : ByteArray) : Option (ByteArray × ByteArray × Bool) := cutF a0 a1
noncomputable def strings_Cut.spec (k : Nat) : FnSpec := ⟨[.d .str none, .d .str none], [.d .str none, .d .str none, .d .bool none], fun x => strings_Cut.f k x.1 x.2⟩
theorem strings_Cut.sound (k : Nat) : Sound Go.Proofs.Tryz.prog 157 (strings_Cut.spec k) := strCut_ok

/-! ### impl_Checksum: function 167 -/
def impl_Checksum.b7 (o7 : ByteArray → Int → Int → Int → Option (Int × Bool)) (k : Nat) (x0_7 : ByteArray) (x1_7 : Int) (x2_7 : Int) (x3_7 : Int) : Option (Int × Bool) := (if x3_7 < x2_7 then ((chk x0_7.size x3_7).bind fun i1 => ((rem (w64 ((w64 ((w64 (41 * x1_7)) + (w64 ((byteAt x0_7 i1))))) + 1)) 999979).bind fun q2 => (o7 x0_7 q2 x2_7 (w64 (x3_7 + 1))))) else (some (x1_7, true)))
def impl_Checksum.l7 : Nat → ByteArray → Int → Int → Int → Option (Int × Bool)
  | 0, _, _, _, _ => none
  | k + 1, x0_7, x1_7, x2_7, x3_7 => impl_Checksum.b7 (impl_Checksum.l7 k) k x0_7 x1_7 x2_7 x3_7
def impl_Checksum.m (o7 : ByteArray → Int → Int → Int → Option (Int × Bool)) (k : Nat) (a0 : ByteArray) : Option (Int × Bool) := (if 4000 < (a0.size : Int) then (some (0, false)) else (o7 a0 7 (a0.size : Int) 0))
def impl_Checksum.f (k : Nat) (a0 : ByteArray) : Option (Int × Bool) := impl_Checksum.m (impl_Checksum.l7 k) k a0
noncomputable def impl_Checksum.spec (k : Nat) : FnSpec := ⟨[.d .str none], [.d (.int .i64) none, .d .bool none], fun x => impl_Checksum.f k x⟩
def impl_Checksum.S7 (x0_7 : ByteArray) (x1_7 : Int) (x2_7 : Int) (x3_7 : Int) : St := ⟨[(0, .val .str x0_7), (4, .val (.int .i64) x1_7), (10, .val (.int .i64) x2_7), (11, .val (.int .i64) x3_7)], [], 1000⟩
noncomputable def impl_Checksum.T : FnText := ⟨(conv [] (bodyOf Go.Proofs.Tryz.f167) 0).1, Go.Proofs.Tryz.f167.results.toList, 25, [(7, [(0, .rd .str), (4, .rd (.int .i64)), (10, .rd (.int .i64)), (11, .rd (.int .i64))])], [.d .str none], [.d (.int .i64) none, .d .bool none]⟩
noncomputable def impl_Checksum.tbl (k : Nat) : Tbl := []
theorem impl_Checksum.e7 (k : Nat) (o : Nat → St → Option (Int × Bool)) (x0_7 : ByteArray) (x1_7 : Int) (x2_7 : Int) (x3_7 : Int) : impl_Checksum.T.step tyt (impl_Checksum.tbl k) o 7 (impl_Checksum.S7 x0_7 x1_7 x2_7 x3_7) = impl_Checksum.b7 (fun x0_7 x1_7 x2_7 x3_7 => o 7 (impl_Checksum.S7 x0_7 x1_7 x2_7 x3_7)) k x0_7 x1_7 x2_7 x3_7 := by kernel_rfl
theorem impl_Checksum.e (k : Nat) (o : Nat → St → Option (Int × Bool)) (a0 : ByteArray) : impl_Checksum.T.main tyt (impl_Checksum.tbl k) o a0 = impl_Checksum.m (fun x0_7 x1_7 x2_7 x3_7 => o 7 (impl_Checksum.S7 x0_7 x1_7 x2_7 x3_7)) k a0 := by kernel_rfl
theorem impl_Checksum.ok : impl_Checksum.T.ok = true := by kernel_rfl
theorem impl_Checksum.run (k : Nat) : (∀ (x0_7 : ByteArray) (x1_7 : Int) (x2_7 : Int) (x3_7 : Int), impl_Checksum.T.run tyt impl_Checksum.tbl k 7 (impl_Checksum.S7 x0_7 x1_7 x2_7 x3_7) = impl_Checksum.l7 k x0_7 x1_7 x2_7 x3_7) := by
  induction k with
  | zero => exact fun x0_7 x1_7 x2_7 x3_7 => rfl
  | succ k ih =>
    exact fun x0_7 x1_7 x2_7 x3_7 => by
      have q7 : (fun x0_7 x1_7 x2_7 x3_7 => impl_Checksum.T.run tyt impl_Checksum.tbl k 7 (impl_Checksum.S7 x0_7 x1_7 x2_7 x3_7)) = impl_Checksum.l7 k := by funext x0_7 x1_7 x2_7 x3_7; exact ih x0_7 x1_7 x2_7 x3_7
      exact (impl_Checksum.e7 k (impl_Checksum.T.run tyt impl_Checksum.tbl k) x0_7 x1_7 x2_7 x3_7).trans (by rw [q7]; rfl)
theorem impl_Checksum.tblok (k : Nat) : TblOk Go.Proofs.Tryz.prog (impl_Checksum.tbl k) := TblOk.nil _
theorem impl_Checksum.sound (k : Nat) : Sound Go.Proofs.Tryz.prog 167 (impl_Checksum.spec k) := by
  have h := fn_ok (F := impl_Checksum.T) (tbl := impl_Checksum.tbl) mixed tyok Go.Proofs.Tryz.func167 (by kernel_rfl) (c0 := bodyOf Go.Proofs.Tryz.f167) rfl (conv_code _ _ _) rfl rfl impl_Checksum.ok k (fun j _ => impl_Checksum.tblok j)
  have q7 : (fun x0_7 x1_7 x2_7 x3_7 => impl_Checksum.T.run tyt impl_Checksum.tbl k 7 (impl_Checksum.S7 x0_7 x1_7 x2_7 x3_7)) = impl_Checksum.l7 k := by funext x0_7 x1_7 x2_7 x3_7; exact (impl_Checksum.run k) x0_7 x1_7 x2_7 x3_7
  have e : impl_Checksum.spec k = ⟨impl_Checksum.T.ps, impl_Checksum.T.rs, impl_Checksum.T.ev tyt impl_Checksum.tbl k⟩ := congrArg (FnSpec.mk _ _) (funext fun x => ((impl_Checksum.e k (impl_Checksum.T.run tyt impl_Checksum.tbl k) x).trans (by rw [q7]; rfl)).symm)
  rw [e]
  exact h
/-! ### strconv_Itoa: function 117, by its contract -/
def strconv_Itoa.f (k : Nat) (a0 : Int) : Option (ByteArray) := itoaF a0
noncomputable def strconv_Itoa.spec (k : Nat) : FnSpec := ⟨[.d (.int .i64) none], [.d .str none], fun x => strconv_Itoa.f k x⟩
theorem strconv_Itoa.sound (k : Nat) : Sound Go.Proofs.Tryz.prog 117 (strconv_Itoa.spec k) := strItoa_ok

/-! ### impl_decimal: function 71 -/
def impl_decimal.m (k : Nat) (a0 : Int) : Option (ByteArray) := ((strconv_Itoa.f k a0).bind fun r1 => (some r1))
def impl_decimal.f (k : Nat) (a0 : Int) : Option (ByteArray) := impl_decimal.m k a0
noncomputable def impl_decimal.spec (k : Nat) : FnSpec := ⟨[.d (.int .i64) none], [.d .str none], fun x => impl_decimal.f k x⟩
noncomputable def impl_decimal.T : FnText := ⟨(conv [] (bodyOf Go.Proofs.Tryz.f71) 0).1, Go.Proofs.Tryz.f71.results.toList, 5, [], [.d (.int .i64) none], [.d .str none]⟩
noncomputable def impl_decimal.tbl (k : Nat) : Tbl := [(117, strconv_Itoa.spec k)]
theorem impl_decimal.e (k : Nat) (o : Nat → St → Option (ByteArray)) (a0 : Int) : impl_decimal.T.main tyt (impl_decimal.tbl k) o a0 = impl_decimal.m k a0 := by kernel_rfl
theorem impl_decimal.ok : impl_decimal.T.ok = true := by kernel_rfl
theorem impl_decimal.tblok (k : Nat) : TblOk Go.Proofs.Tryz.prog (impl_decimal.tbl k) := TblOk.cons (strconv_Itoa.sound k) (TblOk.nil _)
theorem impl_decimal.sound (k : Nat) : Sound Go.Proofs.Tryz.prog 71 (impl_decimal.spec k) := by
  have h := fn_ok (F := impl_decimal.T) (tbl := impl_decimal.tbl) mixed tyok Go.Proofs.Tryz.func71 (by kernel_rfl) (c0 := bodyOf Go.Proofs.Tryz.f71) rfl (conv_code _ _ _) rfl rfl impl_decimal.ok k (fun j _ => impl_decimal.tblok j)
  have e : impl_decimal.spec k = ⟨impl_decimal.T.ps, impl_decimal.T.rs, impl_decimal.T.ev tyt impl_decimal.tbl k⟩ := congrArg (FnSpec.mk _ _) (funext fun x => ((impl_decimal.e k (impl_decimal.T.run tyt impl_decimal.tbl k) x).trans (by rfl)).symm)
  rw [e]
  exact h
/-! ### strings_Contains: function 95, by its contract -/
def strings_Contains.f (k : Nat) (a0 : ByteArray) (a1 : ByteArray) : Option (Bool) := containsF a0 a1
noncomputable def strings_Contains.spec (k : Nat) : FnSpec := ⟨[.d .str none, .d .str none], [.d .bool none], fun x => strings_Contains.f k x.1 x.2⟩
theorem strings_Contains.sound (k : Nat) : Sound Go.Proofs.Tryz.prog 95 (strings_Contains.spec k) := strContains_ok

/-! ### impl_AppendChecksum: function 146 -/
def impl_AppendChecksum.m (k : Nat) (a0 : ByteArray) : Option (ByteArray × Bool) := ((impl_Checksum.f k a0).bind fun r1 => ((catS a0 (⟨#[35]⟩ : ByteArray)).bind fun s2 => ((impl_decimal.f k r1.1).bind fun r3 => ((catS s2 r3).bind fun s4 => (cond (!r1.2) (some ((⟨#[]⟩ : ByteArray), false)) ((strings_Contains.f k a0 (⟨#[35]⟩ : ByteArray)).bind fun r5 => (cond r5 (some ((⟨#[]⟩ : ByteArray), false)) (if 4000 < (s4.size : Int) then (some ((⟨#[]⟩ : ByteArray), false)) else (some (s4, true))))))))))
def impl_AppendChecksum.f (k : Nat) (a0 : ByteArray) : Option (ByteArray × Bool) := impl_AppendChecksum.m k a0
noncomputable def impl_AppendChecksum.spec (k : Nat) : FnSpec := ⟨[.d .str none], [.d .str none, .d .bool none], fun x => impl_AppendChecksum.f k x⟩
noncomputable def impl_AppendChecksum.T : FnText := ⟨(conv [] (bodyOf Go.Proofs.Tryz.f146) 0).1, Go.Proofs.Tryz.f146.results.toList, 29, [], [.d .str none], [.d .str none, .d .bool none]⟩
noncomputable def impl_AppendChecksum.tbl (k : Nat) : Tbl := [(167, impl_Checksum.spec k), (71, impl_decimal.spec k), (95, strings_Contains.spec k)]
theorem impl_AppendChecksum.e (k : Nat) (o : Nat → St → Option (ByteArray × Bool)) (a0 : ByteArray) : impl_AppendChecksum.T.main tyt (impl_AppendChecksum.tbl k) o a0 = impl_AppendChecksum.m k a0 := by kernel_rfl
theorem impl_AppendChecksum.ok : impl_AppendChecksum.T.ok = true := by kernel_rfl
theorem impl_AppendChecksum.tblok (k : Nat) : TblOk Go.Proofs.Tryz.prog (impl_AppendChecksum.tbl k) := TblOk.cons (impl_Checksum.sound k) (TblOk.cons (impl_decimal.sound k) (TblOk.cons (strings_Contains.sound k) (TblOk.nil _)))
theorem impl_AppendChecksum.sound (k : Nat) : Sound Go.Proofs.Tryz.prog 146 (impl_AppendChecksum.spec k) := by
  have h := fn_ok (F := impl_AppendChecksum.T) (tbl := impl_AppendChecksum.tbl) mixed tyok Go.Proofs.Tryz.func146 (by kernel_rfl) (c0 := bodyOf Go.Proofs.Tryz.f146) rfl (conv_code _ _ _) rfl rfl impl_AppendChecksum.ok k (fun j _ => impl_AppendChecksum.tblok j)
  have e : impl_AppendChecksum.spec k = ⟨impl_AppendChecksum.T.ps, impl_AppendChecksum.T.rs, impl_AppendChecksum.T.ev tyt impl_AppendChecksum.tbl k⟩ := congrArg (FnSpec.mk _ _) (funext fun x => ((impl_AppendChecksum.e k (impl_AppendChecksum.T.run tyt impl_AppendChecksum.tbl k) x).trans (by rfl)).symm)
  rw [e]
  exact h
/-! ### impl_VerifyChecksum: function 158 -/
def impl_VerifyChecksum.m (k : Nat) (a0 : ByteArray) : Option (ByteArray × Bool) := ((strings_Cut.f k a0 (⟨#[35]⟩ : ByteArray)).bind fun r1 => ((impl_AppendChecksum.f k r1.1).bind fun r2 => (cond (!r2.2) (some ((⟨#[]⟩ : ByteArray), false)) (if ¬ r2.1 = a0 then (some ((⟨#[]⟩ : ByteArray), false)) else (some (r1.1, true))))))
def impl_VerifyChecksum.f (k : Nat) (a0 : ByteArray) : Option (ByteArray × Bool) := impl_VerifyChecksum.m k a0
noncomputable def impl_VerifyChecksum.spec (k : Nat) : FnSpec := ⟨[.d .str none], [.d .str none, .d .bool none], fun x => impl_VerifyChecksum.f k x⟩
noncomputable def impl_VerifyChecksum.T : FnText := ⟨(conv [] (bodyOf Go.Proofs.Tryz.f158) 0).1, Go.Proofs.Tryz.f158.results.toList, 28, [], [.d .str none], [.d .str none, .d .bool none]⟩
noncomputable def impl_VerifyChecksum.tbl (k : Nat) : Tbl := [(157, strings_Cut.spec k), (146, impl_AppendChecksum.spec k)]
theorem impl_VerifyChecksum.e (k : Nat) (o : Nat → St → Option (ByteArray × Bool)) (a0 : ByteArray) : impl_VerifyChecksum.T.main tyt (impl_VerifyChecksum.tbl k) o a0 = impl_VerifyChecksum.m k a0 := by kernel_rfl
theorem impl_VerifyChecksum.ok : impl_VerifyChecksum.T.ok = true := by kernel_rfl
theorem impl_VerifyChecksum.tblok (k : Nat) : TblOk Go.Proofs.Tryz.prog (impl_VerifyChecksum.tbl k) := TblOk.cons (strings_Cut.sound k) (TblOk.cons (impl_AppendChecksum.sound k) (TblOk.nil _))
theorem impl_VerifyChecksum.sound (k : Nat) : Sound Go.Proofs.Tryz.prog 158 (impl_VerifyChecksum.spec k) := by
  have h := fn_ok (F := impl_VerifyChecksum.T) (tbl := impl_VerifyChecksum.tbl) mixed tyok Go.Proofs.Tryz.func158 (by kernel_rfl) (c0 := bodyOf Go.Proofs.Tryz.f158) rfl (conv_code _ _ _) rfl rfl impl_VerifyChecksum.ok k (fun j _ => impl_VerifyChecksum.tblok j)
  have e : impl_VerifyChecksum.spec k = ⟨impl_VerifyChecksum.T.ps, impl_VerifyChecksum.T.rs, impl_VerifyChecksum.T.ev tyt impl_VerifyChecksum.tbl k⟩ := congrArg (FnSpec.mk _ _) (funext fun x => ((impl_VerifyChecksum.e k (impl_VerifyChecksum.T.run tyt impl_VerifyChecksum.tbl k) x).trans (by rfl)).symm)
  rw [e]
  exact h
/-! ### impl_isPlain_1: function 135 -/
def impl_isPlain_1.m (k : Nat) (a0 : Int) : Option (Bool) := (if 32 ≤ a0 then (if a0 ≤ 126 then (some (decide (¬ a0 = 35))) else (some false)) else (some false))
def impl_isPlain_1.f (k : Nat) (a0 : Int) : Option (Bool) := impl_isPlain_1.m k a0
noncomputable def impl_isPlain_1.spec (k : Nat) : FnSpec := ⟨[.d (.int .u8) none], [.d .bool none], fun x => impl_isPlain_1.f k x⟩
noncomputable def impl_isPlain_1.T : FnText := ⟨(conv [] (bodyOf Go.Proofs.Tryz.f135) 0).1, Go.Proofs.Tryz.f135.results.toList, 13, [], [.d (.int .u8) none], [.d .bool none]⟩
noncomputable def impl_isPlain_1.tbl (k : Nat) : Tbl := []
theorem impl_isPlain_1.e (k : Nat) (o : Nat → St → Option (Bool)) (a0 : Int) : impl_isPlain_1.T.main tyt (impl_isPlain_1.tbl k) o a0 = impl_isPlain_1.m k a0 := by kernel_rfl
theorem impl_isPlain_1.ok : impl_isPlain_1.T.ok = true := by kernel_rfl
theorem impl_isPlain_1.tblok (k : Nat) : TblOk Go.Proofs.Tryz.prog (impl_isPlain_1.tbl k) := TblOk.nil _
theorem impl_isPlain_1.sound (k : Nat) : Sound Go.Proofs.Tryz.prog 135 (impl_isPlain_1.spec k) := by
  have h := fn_ok (F := impl_isPlain_1.T) (tbl := impl_isPlain_1.tbl) mixed tyok Go.Proofs.Tryz.func135 (by kernel_rfl) (c0 := bodyOf Go.Proofs.Tryz.f135) rfl (conv_code _ _ _) rfl rfl impl_isPlain_1.ok k (fun j _ => impl_isPlain_1.tblok j)
  have e : impl_isPlain_1.spec k = ⟨impl_isPlain_1.T.ps, impl_isPlain_1.T.rs, impl_isPlain_1.T.ev tyt impl_isPlain_1.tbl k⟩ := congrArg (FnSpec.mk _ _) (funext fun x => ((impl_isPlain_1.e k (impl_isPlain_1.T.run tyt impl_isPlain_1.tbl k) x).trans (by rfl)).symm)
  rw [e]
  exact h
/-! ### impl_areAll_byte_1__impl_isPlain_1: function 163 -/
def impl_areAll_byte_1__impl_isPlain_1.m (k : Nat) (a0 : Int) : Option (Bool) := ((impl_isPlain_1.f k a0).bind fun r1 => (some (!r1)))
def impl_areAll_byte_1__impl_isPlain_1.f (k : Nat) (a0 : Int) : Option (Bool) := impl_areAll_byte_1__impl_isPlain_1.m k a0
noncomputable def impl_areAll_byte_1__impl_isPlain_1.spec (k : Nat) : FnSpec := ⟨[.d (.int .u8) none, .rb [.fv 135 [] []]], [.d .bool none], fun x => impl_areAll_byte_1__impl_isPlain_1.f k x⟩
noncomputable def impl_areAll_byte_1__impl_isPlain_1.T : FnText := ⟨(conv [] (bodyOf Go.Proofs.Tryz.f163) 0).1, Go.Proofs.Tryz.f163.results.toList, 8, [], [.d (.int .u8) none, .rb [.fv 135 [] []]], [.d .bool none]⟩
noncomputable def impl_areAll_byte_1__impl_isPlain_1.tbl (k : Nat) : Tbl := [(135, impl_isPlain_1.spec k)]
theorem impl_areAll_byte_1__impl_isPlain_1.e (k : Nat) (o : Nat → St → Option (Bool)) (a0 : Int) : impl_areAll_byte_1__impl_isPlain_1.T.main tyt (impl_areAll_byte_1__impl_isPlain_1.tbl k) o a0 = impl_areAll_byte_1__impl_isPlain_1.m k a0 := by kernel_rfl
theorem impl_areAll_byte_1__impl_isPlain_1.ok : impl_areAll_byte_1__impl_isPlain_1.T.ok = true := by kernel_rfl
theorem impl_areAll_byte_1__impl_isPlain_1.tblok (k : Nat) : TblOk Go.Proofs.Tryz.prog (impl_areAll_byte_1__impl_isPlain_1.tbl k) := TblOk.cons (impl_isPlain_1.sound k) (TblOk.nil _)
theorem impl_areAll_byte_1__impl_isPlain_1.sound (k : Nat) : Sound Go.Proofs.Tryz.prog 163 (impl_areAll_byte_1__impl_isPlain_1.spec k) := by
  have h := fn_ok (F := impl_areAll_byte_1__impl_isPlain_1.T) (tbl := impl_areAll_byte_1__impl_isPlain_1.tbl) mixed tyok Go.Proofs.Tryz.func163 (by kernel_rfl) (c0 := bodyOf Go.Proofs.Tryz.f163) rfl (conv_code _ _ _) rfl rfl impl_areAll_byte_1__impl_isPlain_1.ok k (fun j _ => impl_areAll_byte_1__impl_isPlain_1.tblok j)
  have e : impl_areAll_byte_1__impl_isPlain_1.spec k = ⟨impl_areAll_byte_1__impl_isPlain_1.T.ps, impl_areAll_byte_1__impl_isPlain_1.T.rs, impl_areAll_byte_1__impl_isPlain_1.T.ev tyt impl_areAll_byte_1__impl_isPlain_1.tbl k⟩ := congrArg (FnSpec.mk _ _) (funext fun x => ((impl_areAll_byte_1__impl_isPlain_1.e k (impl_areAll_byte_1__impl_isPlain_1.T.run tyt impl_areAll_byte_1__impl_isPlain_1.tbl k) x).trans (by rfl)).symm)
  rw [e]
  exact h
/-! ### slices_IndexFunc_byte_byte__impl_areAll_byte_1__impl_isPlain_1: function 177 -/
def slices_IndexFunc_byte_byte__impl_areAll_byte_1__impl_isPlain_1.b3 (o3 : List Int → Int → Int → Option (Int)) (k : Nat) (l0_3 : List Int) (x1_3 : Int) (x2_3 : Int) : Option (Int) := (if x2_3 < x1_3 then ((chk l0_3.length x2_3).bind fun i1 => ((impl_areAll_byte_1__impl_isPlain_1.f k (l0_3.getD i1 0)).bind fun r2 => (cond r2 (some x2_3) (o3 l0_3 x1_3 (w64 (x2_3 + 1)))))) else (some (-1)))
def slices_IndexFunc_byte_byte__impl_areAll_byte_1__impl_isPlain_1.l3 : Nat → List Int → Int → Int → Option (Int)
  | 0, _, _, _ => none
  | k + 1, l0_3, x1_3, x2_3 => slices_IndexFunc_byte_byte__impl_areAll_byte_1__impl_isPlain_1.b3 (slices_IndexFunc_byte_byte__impl_areAll_byte_1__impl_isPlain_1.l3 k) k l0_3 x1_3 x2_3
def slices_IndexFunc_byte_byte__impl_areAll_byte_1__impl_isPlain_1.m (o3 : List Int → Int → Int → Option (Int)) (k : Nat) (l0 : List Int) : Option (Int) := (o3 l0 (l0.length : Int) 0)
def slices_IndexFunc_byte_byte__impl_areAll_byte_1__impl_isPlain_1.f (k : Nat) (l0 : List Int) : Option (Int) := slices_IndexFunc_byte_byte__impl_areAll_byte_1__impl_isPlain_1.m (slices_IndexFunc_byte_byte__impl_areAll_byte_1__impl_isPlain_1.l3 k) k l0
noncomputable def slices_IndexFunc_byte_byte__impl_areAll_byte_1__impl_isPlain_1.spec (k : Nat) : FnSpec := ⟨[.d (.sl (.int .u8)) none, .fv 163 [] [.rb [.fv 135 [] []]]], [.d (.int .i64) none], fun x => slices_IndexFunc_byte_byte__impl_areAll_byte_1__impl_isPlain_1.f k x⟩
def slices_IndexFunc_byte_byte__impl_areAll_byte_1__impl_isPlain_1.S3 (l0_3 : List Int) (x1_3 : Int) (x2_3 : Int) : St := ⟨[(0, .val (.sl (.int .u8)) l0_3), (1, .fn 163 [] [.cptr [.fn 135 [] []] 0]), (7, .val (.int .i64) x1_3), (8, .val (.int .i64) x2_3)], [], 1000⟩
noncomputable def slices_IndexFunc_byte_byte__impl_areAll_byte_1__impl_isPlain_1.T : FnText := ⟨(conv [] (bodyOf Go.Proofs.Tryz.f177) 0).1, Go.Proofs.Tryz.f177.results.toList, 19, [(3, [(0, .rd (.sl (.int .u8))), (1, .as), (7, .rd (.int .i64)), (8, .rd (.int .i64))])], [.d (.sl (.int .u8)) none, .fv 163 [] [.rb [.fv 135 [] []]]], [.d (.int .i64) none]⟩
noncomputable def slices_IndexFunc_byte_byte__impl_areAll_byte_1__impl_isPlain_1.tbl (k : Nat) : Tbl := [(163, impl_areAll_byte_1__impl_isPlain_1.spec k)]
theorem slices_IndexFunc_byte_byte__impl_areAll_byte_1__impl_isPlain_1.e3 (k : Nat) (o : Nat → St → Option (Int)) (l0_3 : List Int) (x1_3 : Int) (x2_3 : Int) : slices_IndexFunc_byte_byte__impl_areAll_byte_1__impl_isPlain_1.T.step tyt (slices_IndexFunc_byte_byte__impl_areAll_byte_1__impl_isPlain_1.tbl k) o 3 (slices_IndexFunc_byte_byte__impl_areAll_byte_1__impl_isPlain_1.S3 l0_3 x1_3 x2_3) = slices_IndexFunc_byte_byte__impl_areAll_byte_1__impl_isPlain_1.b3 (fun l0_3 x1_3 x2_3 => o 3 (slices_IndexFunc_byte_byte__impl_areAll_byte_1__impl_isPlain_1.S3 l0_3 x1_3 x2_3)) k l0_3 x1_3 x2_3 := by kernel_rfl
theorem slices_IndexFunc_byte_byte__impl_areAll_byte_1__impl_isPlain_1.e (k : Nat) (o : Nat → St → Option (Int)) (l0 : List Int) : slices_IndexFunc_byte_byte__impl_areAll_byte_1__impl_isPlain_1.T.main tyt (slices_IndexFunc_byte_byte__impl_areAll_byte_1__impl_isPlain_1.tbl k) o l0 = slices_IndexFunc_byte_byte__impl_areAll_byte_1__impl_isPlain_1.m (fun l0_3 x1_3 x2_3 => o 3 (slices_IndexFunc_byte_byte__impl_areAll_byte_1__impl_isPlain_1.S3 l0_3 x1_3 x2_3)) k l0 := by kernel_rfl
theorem slices_IndexFunc_byte_byte__impl_areAll_byte_1__impl_isPlain_1.ok : slices_IndexFunc_byte_byte__impl_areAll_byte_1__impl_isPlain_1.T.ok = true := by kernel_rfl
theorem slices_IndexFunc_byte_byte__impl_areAll_byte_1__impl_isPlain_1.run (k : Nat) : (∀ (l0_3 : List Int) (x1_3 : Int) (x2_3 : Int), slices_IndexFunc_byte_byte__impl_areAll_byte_1__impl_isPlain_1.T.run tyt slices_IndexFunc_byte_byte__impl_areAll_byte_1__impl_isPlain_1.tbl k 3 (slices_IndexFunc_byte_byte__impl_areAll_byte_1__impl_isPlain_1.S3 l0_3 x1_3 x2_3) = slices_IndexFunc_byte_byte__impl_areAll_byte_1__impl_isPlain_1.l3 k l0_3 x1_3 x2_3) := by
  induction k with
  | zero => exact fun l0_3 x1_3 x2_3 => rfl
  | succ k ih =>
    exact fun l0_3 x1_3 x2_3 => by
      have q3 : (fun l0_3 x1_3 x2_3 => slices_IndexFunc_byte_byte__impl_areAll_byte_1__impl_isPlain_1.T.run tyt slices_IndexFunc_byte_byte__impl_areAll_byte_1__impl_isPlain_1.tbl k 3 (slices_IndexFunc_byte_byte__impl_areAll_byte_1__impl_isPlain_1.S3 l0_3 x1_3 x2_3)) = slices_IndexFunc_byte_byte__impl_areAll_byte_1__impl_isPlain_1.l3 k := by funext l0_3 x1_3 x2_3; exact ih l0_3 x1_3 x2_3
      exact (slices_IndexFunc_byte_byte__impl_areAll_byte_1__impl_isPlain_1.e3 k (slices_IndexFunc_byte_byte__impl_areAll_byte_1__impl_isPlain_1.T.run tyt slices_IndexFunc_byte_byte__impl_areAll_byte_1__impl_isPlain_1.tbl k) l0_3 x1_3 x2_3).trans (by rw [q3]; rfl)
theorem slices_IndexFunc_byte_byte__impl_areAll_byte_1__impl_isPlain_1.tblok (k : Nat) : TblOk Go.Proofs.Tryz.prog (slices_IndexFunc_byte_byte__impl_areAll_byte_1__impl_isPlain_1.tbl k) := TblOk.cons (impl_areAll_byte_1__impl_isPlain_1.sound k) (TblOk.nil _)
theorem slices_IndexFunc_byte_byte__impl_areAll_byte_1__impl_isPlain_1.sound (k : Nat) : Sound Go.Proofs.Tryz.prog 177 (slices_IndexFunc_byte_byte__impl_areAll_byte_1__impl_isPlain_1.spec k) := by
  have h := fn_ok (F := slices_IndexFunc_byte_byte__impl_areAll_byte_1__impl_isPlain_1.T) (tbl := slices_IndexFunc_byte_byte__impl_areAll_byte_1__impl_isPlain_1.tbl) mixed tyok Go.Proofs.Tryz.func177 (by kernel_rfl) (c0 := bodyOf Go.Proofs.Tryz.f177) rfl (conv_code _ _ _) rfl rfl slices_IndexFunc_byte_byte__impl_areAll_byte_1__impl_isPlain_1.ok k (fun j _ => slices_IndexFunc_byte_byte__impl_areAll_byte_1__impl_isPlain_1.tblok j)
  have q3 : (fun l0_3 x1_3 x2_3 => slices_IndexFunc_byte_byte__impl_areAll_byte_1__impl_isPlain_1.T.run tyt slices_IndexFunc_byte_byte__impl_areAll_byte_1__impl_isPlain_1.tbl k 3 (slices_IndexFunc_byte_byte__impl_areAll_byte_1__impl_isPlain_1.S3 l0_3 x1_3 x2_3)) = slices_IndexFunc_byte_byte__impl_areAll_byte_1__impl_isPlain_1.l3 k := by funext l0_3 x1_3 x2_3; exact (slices_IndexFunc_byte_byte__impl_areAll_byte_1__impl_isPlain_1.run k) l0_3 x1_3 x2_3
  have e : slices_IndexFunc_byte_byte__impl_areAll_byte_1__impl_isPlain_1.spec k = ⟨slices_IndexFunc_byte_byte__impl_areAll_byte_1__impl_isPlain_1.T.ps, slices_IndexFunc_byte_byte__impl_areAll_byte_1__impl_isPlain_1.T.rs, slices_IndexFunc_byte_byte__impl_areAll_byte_1__impl_isPlain_1.T.ev tyt slices_IndexFunc_byte_byte__impl_areAll_byte_1__impl_isPlain_1.tbl k⟩ := congrArg (FnSpec.mk _ _) (funext fun x => ((slices_IndexFunc_byte_byte__impl_areAll_byte_1__impl_isPlain_1.e k (slices_IndexFunc_byte_byte__impl_areAll_byte_1__impl_isPlain_1.T.run tyt slices_IndexFunc_byte_byte__impl_areAll_byte_1__impl_isPlain_1.tbl k) x).trans (by rw [q3]; rfl)).symm)
  rw [e]
  exact h
/-! ### slices_ContainsFunc_byte_byte__impl_areAll_byte_1__impl_isPlain_1: function 162 -/
def slices_ContainsFunc_byte_byte__impl_areAll_byte_1__impl_isPlain_1.m (k : Nat) (l0 : List Int) : Option (Bool) := ((slices_IndexFunc_byte_byte__impl_areAll_byte_1__impl_isPlain_1.f k l0).bind fun r1 => (some (decide (0 ≤ r1))))
def slices_ContainsFunc_byte_byte__impl_areAll_byte_1__impl_isPlain_1.f (k : Nat) (l0 : List Int) : Option (Bool) := slices_ContainsFunc_byte_byte__impl_areAll_byte_1__impl_isPlain_1.m k l0
noncomputable def slices_ContainsFunc_byte_byte__impl_areAll_byte_1__impl_isPlain_1.spec (k : Nat) : FnSpec := ⟨[.d (.sl (.int .u8)) none, .fv 163 [] [.rb [.fv 135 [] []]]], [.d .bool none], fun x => slices_ContainsFunc_byte_byte__impl_areAll_byte_1__impl_isPlain_1.f k x⟩
noncomputable def slices_ContainsFunc_byte_byte__impl_areAll_byte_1__impl_isPlain_1.T : FnText := ⟨(conv [] (bodyOf Go.Proofs.Tryz.f162) 0).1, Go.Proofs.Tryz.f162.results.toList, 9, [], [.d (.sl (.int .u8)) none, .fv 163 [] [.rb [.fv 135 [] []]]], [.d .bool none]⟩
noncomputable def slices_ContainsFunc_byte_byte__impl_areAll_byte_1__impl_isPlain_1.tbl (k : Nat) : Tbl := [(177, slices_IndexFunc_byte_byte__impl_areAll_byte_1__impl_isPlain_1.spec k)]
theorem slices_ContainsFunc_byte_byte__impl_areAll_byte_1__impl_isPlain_1.e (k : Nat) (o : Nat → St → Option (Bool)) (l0 : List Int) : slices_ContainsFunc_byte_byte__impl_areAll_byte_1__impl_isPlain_1.T.main tyt (slices_ContainsFunc_byte_byte__impl_areAll_byte_1__impl_isPlain_1.tbl k) o l0 = slices_ContainsFunc_byte_byte__impl_areAll_byte_1__impl_isPlain_1.m k l0 := by kernel_rfl
theorem slices_ContainsFunc_byte_byte__impl_areAll_byte_1__impl_isPlain_1.ok : slices_ContainsFunc_byte_byte__impl_areAll_byte_1__impl_isPlain_1.T.ok = true := by kernel_rfl
theorem slices_ContainsFunc_byte_byte__impl_areAll_byte_1__impl_isPlain_1.tblok (k : Nat) : TblOk Go.Proofs.Tryz.prog (slices_ContainsFunc_byte_byte__impl_areAll_byte_1__impl_isPlain_1.tbl k) := TblOk.cons (slices_IndexFunc_byte_byte__impl_areAll_byte_1__impl_isPlain_1.sound k) (TblOk.nil _)
theorem slices_ContainsFunc_byte_byte__impl_areAll_byte_1__impl_isPlain_1.sound (k : Nat) : Sound Go.Proofs.Tryz.prog 162 (slices_ContainsFunc_byte_byte__impl_areAll_byte_1__impl_isPlain_1.spec k) := by
  have h := fn_ok (F := slices_ContainsFunc_byte_byte__impl_areAll_byte_1__impl_isPlain_1.T) (tbl := slices_ContainsFunc_byte_byte__impl_areAll_byte_1__impl_isPlain_1.tbl) mixed tyok Go.Proofs.Tryz.func162 (by kernel_rfl) (c0 := bodyOf Go.Proofs.Tryz.f162) rfl (conv_code _ _ _) rfl rfl slices_ContainsFunc_byte_byte__impl_areAll_byte_1__impl_isPlain_1.ok k (fun j _ => slices_ContainsFunc_byte_byte__impl_areAll_byte_1__impl_isPlain_1.tblok j)
  have e : slices_ContainsFunc_byte_byte__impl_areAll_byte_1__impl_isPlain_1.spec k = ⟨slices_ContainsFunc_byte_byte__impl_areAll_byte_1__impl_isPlain_1.T.ps, slices_ContainsFunc_byte_byte__impl_areAll_byte_1__impl_isPlain_1.T.rs, slices_ContainsFunc_byte_byte__impl_areAll_byte_1__impl_isPlain_1.T.ev tyt slices_ContainsFunc_byte_byte__impl_areAll_byte_1__impl_isPlain_1.tbl k⟩ := congrArg (FnSpec.mk _ _) (funext fun x => ((slices_ContainsFunc_byte_byte__impl_areAll_byte_1__impl_isPlain_1.e k (slices_ContainsFunc_byte_byte__impl_areAll_byte_1__impl_isPlain_1.T.run tyt slices_ContainsFunc_byte_byte__impl_areAll_byte_1__impl_isPlain_1.tbl k) x).trans (by rfl)).symm)
  rw [e]
  exact h
/-! ### impl_areAll_byte__impl_isPlain_1: function 134 -/
def impl_areAll_byte__impl_isPlain_1.m (k : Nat) (l0 : List Int) : Option (Bool) := ((slices_ContainsFunc_byte_byte__impl_areAll_byte_1__impl_isPlain_1.f k l0).bind fun r1 => (some (!r1)))
def impl_areAll_byte__impl_isPlain_1.f (k : Nat) (l0 : List Int) : Option (Bool) := impl_areAll_byte__impl_isPlain_1.m k l0
noncomputable def impl_areAll_byte__impl_isPlain_1.spec (k : Nat) : FnSpec := ⟨[.d (.sl (.int .u8)) none, .fv 135 [] []], [.d .bool none], fun x => impl_areAll_byte__impl_isPlain_1.f k x⟩
noncomputable def impl_areAll_byte__impl_isPlain_1.T : FnText := ⟨(conv [] (bodyOf Go.Proofs.Tryz.f134) 0).1, Go.Proofs.Tryz.f134.results.toList, 9, [], [.d (.sl (.int .u8)) none, .fv 135 [] []], [.d .bool none]⟩
noncomputable def impl_areAll_byte__impl_isPlain_1.tbl (k : Nat) : Tbl := [(162, slices_ContainsFunc_byte_byte__impl_areAll_byte_1__impl_isPlain_1.spec k)]
theorem impl_areAll_byte__impl_isPlain_1.e (k : Nat) (o : Nat → St → Option (Bool)) (l0 : List Int) : impl_areAll_byte__impl_isPlain_1.T.main tyt (impl_areAll_byte__impl_isPlain_1.tbl k) o l0 = impl_areAll_byte__impl_isPlain_1.m k l0 := by kernel_rfl
theorem impl_areAll_byte__impl_isPlain_1.ok : impl_areAll_byte__impl_isPlain_1.T.ok = true := by kernel_rfl
theorem impl_areAll_byte__impl_isPlain_1.tblok (k : Nat) : TblOk Go.Proofs.Tryz.prog (impl_areAll_byte__impl_isPlain_1.tbl k) := TblOk.cons (slices_ContainsFunc_byte_byte__impl_areAll_byte_1__impl_isPlain_1.sound k) (TblOk.nil _)
theorem impl_areAll_byte__impl_isPlain_1.sound (k : Nat) : Sound Go.Proofs.Tryz.prog 134 (impl_areAll_byte__impl_isPlain_1.spec k) := by
  have h := fn_ok (F := impl_areAll_byte__impl_isPlain_1.T) (tbl := impl_areAll_byte__impl_isPlain_1.tbl) mixed tyok Go.Proofs.Tryz.func134 (by kernel_rfl) (c0 := bodyOf Go.Proofs.Tryz.f134) rfl (conv_code _ _ _) rfl rfl impl_areAll_byte__impl_isPlain_1.ok k (fun j _ => impl_areAll_byte__impl_isPlain_1.tblok j)
  have e : impl_areAll_byte__impl_isPlain_1.spec k = ⟨impl_areAll_byte__impl_isPlain_1.T.ps, impl_areAll_byte__impl_isPlain_1.T.rs, impl_areAll_byte__impl_isPlain_1.T.ev tyt impl_areAll_byte__impl_isPlain_1.tbl k⟩ := congrArg (FnSpec.mk _ _) (funext fun x => ((impl_areAll_byte__impl_isPlain_1.e k (impl_areAll_byte__impl_isPlain_1.T.run tyt impl_areAll_byte__impl_isPlain_1.tbl k) x).trans (by rfl)).symm)
  rw [e]
  exact h
/-! ### impl_isPlain: function 94 -/
def impl_isPlain.m (k : Nat) (a0 : ByteArray) : Option (Bool) := ((impl_areAll_byte__impl_isPlain_1.f k (bytesOf a0)).bind fun r1 => (some r1))
def impl_isPlain.f (k : Nat) (a0 : ByteArray) : Option (Bool) := impl_isPlain.m k a0
noncomputable def impl_isPlain.spec (k : Nat) : FnSpec := ⟨[.d .str none], [.d .bool none], fun x => impl_isPlain.f k x⟩
noncomputable def impl_isPlain.T : FnText := ⟨(conv [] (bodyOf Go.Proofs.Tryz.f94) 0).1, Go.Proofs.Tryz.f94.results.toList, 6, [], [.d .str none], [.d .bool none]⟩
noncomputable def impl_isPlain.tbl (k : Nat) : Tbl := [(134, impl_areAll_byte__impl_isPlain_1.spec k)]
theorem impl_isPlain.e (k : Nat) (o : Nat → St → Option (Bool)) (a0 : ByteArray) : impl_isPlain.T.main tyt (impl_isPlain.tbl k) o a0 = impl_isPlain.m k a0 := by kernel_rfl
theorem impl_isPlain.ok : impl_isPlain.T.ok = true := by kernel_rfl
theorem impl_isPlain.tblok (k : Nat) : TblOk Go.Proofs.Tryz.prog (impl_isPlain.tbl k) := TblOk.cons (impl_areAll_byte__impl_isPlain_1.sound k) (TblOk.nil _)
theorem impl_isPlain.sound (k : Nat) : Sound Go.Proofs.Tryz.prog 94 (impl_isPlain.spec k) := by
  have h := fn_ok (F := impl_isPlain.T) (tbl := impl_isPlain.tbl) mixed tyok Go.Proofs.Tryz.func94 (by kernel_rfl) (c0 := bodyOf Go.Proofs.Tryz.f94) rfl (conv_code _ _ _) rfl rfl impl_isPlain.ok k (fun j _ => impl_isPlain.tblok j)
  have e : impl_isPlain.spec k = ⟨impl_isPlain.T.ps, impl_isPlain.T.rs, impl_isPlain.T.ev tyt impl_isPlain.tbl k⟩ := congrArg (FnSpec.mk _ _) (funext fun x => ((impl_isPlain.e k (impl_isPlain.T.run tyt impl_isPlain.tbl k) x).trans (by rfl)).symm)
  rw [e]
  exact h
/-! ### impl_IsValidRecord: function 50 -/
def impl_IsValidRecord.b1 (k : Nat) (x0_1 : ByteArray) (x1_1 : ByteArray) (x2_1 : Bool) : Option (Bool) := (cond x2_1 (if (x1_1.size : Int) ≤ 200 then ((impl_isPlain.f k x1_1).bind fun r4 => (some r4)) else (some false)) (some false))
def impl_IsValidRecord.l1 : Nat → ByteArray → ByteArray → Bool → Option (Bool)
  | 0, _, _, _ => none
  | k + 1, x0_1, x1_1, x2_1 => impl_IsValidRecord.b1 k x0_1 x1_1 x2_1
def impl_IsValidRecord.m (o1 : ByteArray → ByteArray → Bool → Option (Bool)) (k : Nat) (a0_0 : ByteArray) (a0_1 : ByteArray) : Option (Bool) := ((impl_in.f k (a0_0.size : Int) 1 160).bind fun r1 => (cond r1 ((impl_isPlain.f k a0_0).bind fun r2 => (cond r2 ((strings_Contains.f k a0_0 (⟨#[64]⟩ : ByteArray)).bind fun r3 => (o1 a0_0 a0_1 (!r3))) (o1 a0_0 a0_1 false))) (o1 a0_0 a0_1 false)))
def impl_IsValidRecord.f (k : Nat) (a0_0 : ByteArray) (a0_1 : ByteArray) : Option (Bool) := impl_IsValidRecord.m (impl_IsValidRecord.l1 k) k a0_0 a0_1
noncomputable def impl_IsValidRecord.spec (k : Nat) : FnSpec := ⟨[.ag [.d .str none, .d .str none]], [.d .bool none], fun x => impl_IsValidRecord.f k x.1 x.2⟩
def impl_IsValidRecord.S1 (x0_1 : ByteArray) (x1_1 : ByteArray) (x2_1 : Bool) : St := ⟨[(1, .ptr 100 0), (3, .val .bool x2_1)], [(100, some (.box [.val .str x0_1, .val .str x1_1]))], 1000⟩
noncomputable def impl_IsValidRecord.T : FnText := ⟨(conv [1] (bodyOf Go.Proofs.Tryz.f50) 0).1, Go.Proofs.Tryz.f50.results.toList, 31, [(1, [(1, .bx 100 [.rd .str, .rd .str]), (3, .rd .bool)])], [.ag [.d .str none, .d .str none]], [.d .bool none]⟩
noncomputable def impl_IsValidRecord.tbl (k : Nat) : Tbl := [(79, impl_in.spec k), (94, impl_isPlain.spec k), (95, strings_Contains.spec k)]
theorem impl_IsValidRecord.e1 (k : Nat) (o : Nat → St → Option (Bool)) (x0_1 : ByteArray) (x1_1 : ByteArray) (x2_1 : Bool) : impl_IsValidRecord.T.step tyt (impl_IsValidRecord.tbl k) o 1 (impl_IsValidRecord.S1 x0_1 x1_1 x2_1) = impl_IsValidRecord.b1 k x0_1 x1_1 x2_1 := by kernel_rfl
theorem impl_IsValidRecord.e (k : Nat) (o : Nat → St → Option (Bool)) (a0_0 : ByteArray) (a0_1 : ByteArray) : impl_IsValidRecord.T.main tyt (impl_IsValidRecord.tbl k) o (a0_0, a0_1) = impl_IsValidRecord.m (fun x0_1 x1_1 x2_1 => o 1 (impl_IsValidRecord.S1 x0_1 x1_1 x2_1)) k a0_0 a0_1 := by kernel_rfl
theorem impl_IsValidRecord.ok : impl_IsValidRecord.T.ok = true := by kernel_rfl
theorem impl_IsValidRecord.run (k : Nat) : (∀ (x0_1 : ByteArray) (x1_1 : ByteArray) (x2_1 : Bool), impl_IsValidRecord.T.run tyt impl_IsValidRecord.tbl k 1 (impl_IsValidRecord.S1 x0_1 x1_1 x2_1) = impl_IsValidRecord.l1 k x0_1 x1_1 x2_1) := by
  induction k with
  | zero => exact fun x0_1 x1_1 x2_1 => rfl
  | succ k ih =>
    exact fun x0_1 x1_1 x2_1 => by
      exact (impl_IsValidRecord.e1 k (impl_IsValidRecord.T.run tyt impl_IsValidRecord.tbl k) x0_1 x1_1 x2_1).trans (by rfl)
theorem impl_IsValidRecord.tblok (k : Nat) : TblOk Go.Proofs.Tryz.prog (impl_IsValidRecord.tbl k) := TblOk.cons (impl_in.sound k) (TblOk.cons (impl_isPlain.sound k) (TblOk.cons (strings_Contains.sound k) (TblOk.nil _)))
theorem impl_IsValidRecord.sound (k : Nat) : Sound Go.Proofs.Tryz.prog 50 (impl_IsValidRecord.spec k) := by
  have h := fn_ok (F := impl_IsValidRecord.T) (tbl := impl_IsValidRecord.tbl) mixed tyok Go.Proofs.Tryz.func50 (by kernel_rfl) (c0 := bodyOf Go.Proofs.Tryz.f50) rfl (conv_code _ _ _) rfl rfl impl_IsValidRecord.ok k (fun j _ => impl_IsValidRecord.tblok j)
  have q1 : (fun x0_1 x1_1 x2_1 => impl_IsValidRecord.T.run tyt impl_IsValidRecord.tbl k 1 (impl_IsValidRecord.S1 x0_1 x1_1 x2_1)) = impl_IsValidRecord.l1 k := by funext x0_1 x1_1 x2_1; exact (impl_IsValidRecord.run k) x0_1 x1_1 x2_1
  have e : impl_IsValidRecord.spec k = ⟨impl_IsValidRecord.T.ps, impl_IsValidRecord.T.rs, impl_IsValidRecord.T.ev tyt impl_IsValidRecord.tbl k⟩ := congrArg (FnSpec.mk _ _) (funext fun x => ((impl_IsValidRecord.e k (impl_IsValidRecord.T.run tyt impl_IsValidRecord.tbl k) x.1 x.2).trans (by rw [q1]; rfl)).symm)
  rw [e]
  exact h
/-! ### impl_EncodeRecord: function 101 -/
def impl_EncodeRecord.m (k : Nat) (a0 : Int) (a1_0 : ByteArray) (a1_1 : ByteArray) : Option (ByteArray × Bool) := ((impl_in.f k a0 0 59).bind fun r1 => (cond (!r1) (some ((⟨#[]⟩ : ByteArray), false)) ((impl_IsValidRecord.f k a1_0 a1_1).bind fun r2 => (cond (!r2) (some ((⟨#[]⟩ : ByteArray), false)) ((impl_decimal.f k a0).bind fun r3 => ((catS r3 (⟨#[32]⟩ : ByteArray)).bind fun s4 => ((catS s4 a1_0).bind fun s5 => ((catS s5 (⟨#[64]⟩ : ByteArray)).bind fun s6 => ((catS s6 a1_1).bind fun s7 => ((impl_AppendChecksum.f k s7).bind fun r8 => ((catS r8.1 (⟨#[10]⟩ : ByteArray)).bind fun s9 => (some (s9, true)))))))))))))
def impl_EncodeRecord.f (k : Nat) (a0 : Int) (a1_0 : ByteArray) (a1_1 : ByteArray) : Option (ByteArray × Bool) := impl_EncodeRecord.m k a0 a1_0 a1_1
noncomputable def impl_EncodeRecord.spec (k : Nat) : FnSpec := ⟨[.d (.int .i64) none, .ag [.d .str none, .d .str none]], [.d .str none, .d .bool none], fun x => impl_EncodeRecord.f k x.1 x.2.1 x.2.2⟩
noncomputable def impl_EncodeRecord.T : FnText := ⟨(conv [] (bodyOf Go.Proofs.Tryz.f101) 0).1, Go.Proofs.Tryz.f101.results.toList, 32, [], [.d (.int .i64) none, .ag [.d .str none, .d .str none]], [.d .str none, .d .bool none]⟩
noncomputable def impl_EncodeRecord.tbl (k : Nat) : Tbl := [(79, impl_in.spec k), (50, impl_IsValidRecord.spec k), (71, impl_decimal.spec k), (146, impl_AppendChecksum.spec k)]
theorem impl_EncodeRecord.e (k : Nat) (o : Nat → St → Option (ByteArray × Bool)) (a0 : Int) (a1_0 : ByteArray) (a1_1 : ByteArray) : impl_EncodeRecord.T.main tyt (impl_EncodeRecord.tbl k) o (a0, a1_0, a1_1) = impl_EncodeRecord.m k a0 a1_0 a1_1 := by kernel_rfl
theorem impl_EncodeRecord.ok : impl_EncodeRecord.T.ok = true := by kernel_rfl
theorem impl_EncodeRecord.tblok (k : Nat) : TblOk Go.Proofs.Tryz.prog (impl_EncodeRecord.tbl k) := TblOk.cons (impl_in.sound k) (TblOk.cons (impl_IsValidRecord.sound k) (TblOk.cons (impl_decimal.sound k) (TblOk.cons (impl_AppendChecksum.sound k) (TblOk.nil _))))
theorem impl_EncodeRecord.sound (k : Nat) : Sound Go.Proofs.Tryz.prog 101 (impl_EncodeRecord.spec k) := by
  have h := fn_ok (F := impl_EncodeRecord.T) (tbl := impl_EncodeRecord.tbl) mixed tyok Go.Proofs.Tryz.func101 (by kernel_rfl) (c0 := bodyOf Go.Proofs.Tryz.f101) rfl (conv_code _ _ _) rfl rfl impl_EncodeRecord.ok k (fun j _ => impl_EncodeRecord.tblok j)
  have e : impl_EncodeRecord.spec k = ⟨impl_EncodeRecord.T.ps, impl_EncodeRecord.T.rs, impl_EncodeRecord.T.ev tyt impl_EncodeRecord.tbl k⟩ := congrArg (FnSpec.mk _ _) (funext fun x => ((impl_EncodeRecord.e k (impl_EncodeRecord.T.run tyt impl_EncodeRecord.tbl k) x.1 x.2.1 x.2.2).trans (by rfl)).symm)
  rw [e]
  exact h
/-! ### internal_stringslite_HasPrefix: function 176 -/
def internal_stringslite_HasPrefix.m (k : Nat) (a0 : ByteArray) (a1 : ByteArray) : Option (Bool) := (if (a1.size : Int) ≤ (a0.size : Int) then ((cutTo a0.size (a1.size : Int)).bind fun m2 => (some (decide ((a0.extract 0 m2) = a1)))) else (some false))
def internal_stringslite_HasPrefix.f (k : Nat) (a0 : ByteArray) (a1 : ByteArray) : Option (Bool) := internal_stringslite_HasPrefix.m k a0 a1
noncomputable def internal_stringslite_HasPrefix.spec (k : Nat) : FnSpec := ⟨[.d .str none, .d .str none], [.d .bool none], fun x => internal_stringslite_HasPrefix.f k x.1 x.2⟩
noncomputable def internal_stringslite_HasPrefix.T : FnText := ⟨(conv [] (bodyOf Go.Proofs.Tryz.f176) 0).1, Go.Proofs.Tryz.f176.results.toList, 18, [], [.d .str none, .d .str none], [.d .bool none]⟩
noncomputable def internal_stringslite_HasPrefix.tbl (k : Nat) : Tbl := []
theorem internal_stringslite_HasPrefix.e (k : Nat) (o : Nat → St → Option (Bool)) (a0 : ByteArray) (a1 : ByteArray) : internal_stringslite_HasPrefix.T.main tyt (internal_stringslite_HasPrefix.tbl k) o (a0, a1) = internal_stringslite_HasPrefix.m k a0 a1 := by kernel_rfl
theorem internal_stringslite_HasPrefix.ok : internal_stringslite_HasPrefix.T.ok = true := by kernel_rfl
theorem internal_stringslite_HasPrefix.tblok (k : Nat) : TblOk Go.Proofs.Tryz.prog (internal_stringslite_HasPrefix.tbl k) := TblOk.nil _
theorem internal_stringslite_HasPrefix.sound (k : Nat) : Sound Go.Proofs.Tryz.prog 176 (internal_stringslite_HasPrefix.spec k) := by
  have h := fn_ok (F := internal_stringslite_HasPrefix.T) (tbl := internal_stringslite_HasPrefix.tbl) mixed tyok Go.Proofs.Tryz.func176 (by kernel_rfl) (c0 := bodyOf Go.Proofs.Tryz.f176) rfl (conv_code _ _ _) rfl rfl internal_stringslite_HasPrefix.ok k (fun j _ => internal_stringslite_HasPrefix.tblok j)
  have e : internal_stringslite_HasPrefix.spec k = ⟨internal_stringslite_HasPrefix.T.ps, internal_stringslite_HasPrefix.T.rs, internal_stringslite_HasPrefix.T.ev tyt internal_stringslite_HasPrefix.tbl k⟩ := congrArg (FnSpec.mk _ _) (funext fun x => ((internal_stringslite_HasPrefix.e k (internal_stringslite_HasPrefix.T.run tyt internal_stringslite_HasPrefix.tbl k) x.1 x.2).trans (by rfl)).symm)
  rw [e]
  exact h
/-! ### strings_HasPrefix: function 159 -/
def strings_HasPrefix.m (k : Nat) (a0 : ByteArray) (a1 : ByteArray) : Option (Bool) := ((internal_stringslite_HasPrefix.f k a0 a1).bind fun r1 => (some r1))
def strings_HasPrefix.f (k : Nat) (a0 : ByteArray) (a1 : ByteArray) : Option (Bool) := strings_HasPrefix.m k a0 a1
noncomputable def strings_HasPrefix.spec (k : Nat) : FnSpec := ⟨[.d .str none, .d .str none], [.d .bool none], fun x => strings_HasPrefix.f k x.1 x.2⟩
noncomputable def strings_HasPrefix.T : FnText := ⟨(conv [] (bodyOf Go.Proofs.Tryz.f159) 0).1, Go.Proofs.Tryz.f159.results.toList, 8, [], [.d .str none, .d .str none], [.d .bool none]⟩
noncomputable def strings_HasPrefix.tbl (k : Nat) : Tbl := [(176, internal_stringslite_HasPrefix.spec k)]
theorem strings_HasPrefix.e (k : Nat) (o : Nat → St → Option (Bool)) (a0 : ByteArray) (a1 : ByteArray) : strings_HasPrefix.T.main tyt (strings_HasPrefix.tbl k) o (a0, a1) = strings_HasPrefix.m k a0 a1 := by kernel_rfl
theorem strings_HasPrefix.ok : strings_HasPrefix.T.ok = true := by kernel_rfl
theorem strings_HasPrefix.tblok (k : Nat) : TblOk Go.Proofs.Tryz.prog (strings_HasPrefix.tbl k) := TblOk.cons (internal_stringslite_HasPrefix.sound k) (TblOk.nil _)
theorem strings_HasPrefix.sound (k : Nat) : Sound Go.Proofs.Tryz.prog 159 (strings_HasPrefix.spec k) := by
  have h := fn_ok (F := strings_HasPrefix.T) (tbl := strings_HasPrefix.tbl) mixed tyok Go.Proofs.Tryz.func159 (by kernel_rfl) (c0 := bodyOf Go.Proofs.Tryz.f159) rfl (conv_code _ _ _) rfl rfl strings_HasPrefix.ok k (fun j _ => strings_HasPrefix.tblok j)
  have e : strings_HasPrefix.spec k = ⟨strings_HasPrefix.T.ps, strings_HasPrefix.T.rs, strings_HasPrefix.T.ev tyt strings_HasPrefix.tbl k⟩ := congrArg (FnSpec.mk _ _) (funext fun x => ((strings_HasPrefix.e k (strings_HasPrefix.T.run tyt strings_HasPrefix.tbl k) x.1 x.2).trans (by rfl)).symm)
  rw [e]
  exact h
/-! ### impl_cutRecord: function 119 -/
def impl_cutRecord.m (k : Nat) (a0 : ByteArray) (a1 : Int) : Option (ByteArray × ByteArray × Int) := ((strings_Cut.f k a0 (⟨#[10]⟩ : ByteArray)).bind fun r1 => ((impl_VerifyChecksum.f k r1.1).bind fun r2 => ((strings_Cut.f k r2.1 (⟨#[32]⟩ : ByteArray)).bind fun r3 => ((strings_Cut.f k r3.2.1 (⟨#[64]⟩ : ByteArray)).bind fun r4 => ((impl_EncodeRecord.f k a1 r4.1 r4.2.1).bind fun r5 => (cond (!r5.2) (some (ByteArray.empty, ByteArray.empty, 0)) ((strings_HasPrefix.f k a0 r5.1).bind fun r6 => (cond (!r6) (some (ByteArray.empty, ByteArray.empty, 0)) (some (r4.1, r4.2.1, (r5.1.size : Int)))))))))))
def impl_cutRecord.f (k : Nat) (a0 : ByteArray) (a1 : Int) : Option (ByteArray × ByteArray × Int) := impl_cutRecord.m k a0 a1
noncomputable def impl_cutRecord.spec (k : Nat) : FnSpec := ⟨[.d .str none, .d (.int .i64) none], [.ag [.d .str none, .d .str none], .d (.int .i64) none], fun x => impl_cutRecord.f k x.1 x.2⟩
noncomputable def impl_cutRecord.T : FnText := ⟨(conv [] (bodyOf Go.Proofs.Tryz.f119) 0).1, Go.Proofs.Tryz.f119.results.toList, 64, [], [.d .str none, .d (.int .i64) none], [.ag [.d .str none, .d .str none], .d (.int .i64) none]⟩
noncomputable def impl_cutRecord.tbl (k : Nat) : Tbl := [(157, strings_Cut.spec k), (158, impl_VerifyChecksum.spec k), (101, impl_EncodeRecord.spec k), (159, strings_HasPrefix.spec k)]
theorem impl_cutRecord.e (k : Nat) (o : Nat → St → Option (ByteArray × ByteArray × Int)) (a0 : ByteArray) (a1 : Int) : impl_cutRecord.T.main tyt (impl_cutRecord.tbl k) o (a0, a1) = impl_cutRecord.m k a0 a1 := by kernel_rfl
theorem impl_cutRecord.ok : impl_cutRecord.T.ok = true := by kernel_rfl
theorem impl_cutRecord.tblok (k : Nat) : TblOk Go.Proofs.Tryz.prog (impl_cutRecord.tbl k) := TblOk.cons (strings_Cut.sound k) (TblOk.cons (impl_VerifyChecksum.sound k) (TblOk.cons (impl_EncodeRecord.sound k) (TblOk.cons (strings_HasPrefix.sound k) (TblOk.nil _))))
theorem impl_cutRecord.sound (k : Nat) : Sound Go.Proofs.Tryz.prog 119 (impl_cutRecord.spec k) := by
  have h := fn_ok (F := impl_cutRecord.T) (tbl := impl_cutRecord.tbl) mixed tyok Go.Proofs.Tryz.func119 (by kernel_rfl) (c0 := bodyOf Go.Proofs.Tryz.f119) rfl (conv_code _ _ _) rfl rfl impl_cutRecord.ok k (fun j _ => impl_cutRecord.tblok j)
  have e : impl_cutRecord.spec k = ⟨impl_cutRecord.T.ps, impl_cutRecord.T.rs, impl_cutRecord.T.ev tyt impl_cutRecord.tbl k⟩ := congrArg (FnSpec.mk _ _) (funext fun x => ((impl_cutRecord.e k (impl_cutRecord.T.run tyt impl_cutRecord.tbl k) x.1 x.2).trans (by rfl)).symm)
  rw [e]
  exact h
/-! ### impl_readLog: function 80 -/
def impl_readLog.b3 (o3 : ByteArray → (List (ByteArray × ByteArray)) → List Int → Int → Option (List (ByteArray × ByteArray) × List Int)) (k : Nat) (x0_3 : ByteArray) (l1_3 : List (ByteArray × ByteArray)) (l2_3 : List Int) (x3_3 : Int) : Option (List (ByteArray × ByteArray) × List Int) := (if (l1_3.length : Int) < 60 then ((cut x0_3.size x3_3 (x0_3.size : Int)).bind fun c1 => ((impl_cutRecord.f k (x0_3.extract c1.1 (c1.1 + c1.2)) (l1_3.length : Int)).bind fun r2 => (if r2.2.2 = 0 then (some (l1_3, l2_3)) else ((app 4398046511104 l1_3 [(r2.1, r2.2.1)]).bind fun l3 => ((app 17592186044416 l2_3 [(w64 (x3_3 + r2.2.2))]).bind fun l4 => (o3 x0_3 l3 l4 (w64 (x3_3 + r2.2.2)))))))) else (some (l1_3, l2_3)))
def impl_readLog.l3 : Nat → ByteArray → (List (ByteArray × ByteArray)) → List Int → Int → Option (List (ByteArray × ByteArray) × List Int)
  | 0, _, _, _, _ => none
  | k + 1, x0_3, l1_3, l2_3, x3_3 => impl_readLog.b3 (impl_readLog.l3 k) k x0_3 l1_3 l2_3 x3_3
def impl_readLog.m (o3 : ByteArray → (List (ByteArray × ByteArray)) → List Int → Int → Option (List (ByteArray × ByteArray) × List Int)) (k : Nat) (a0 : ByteArray) : Option (List (ByteArray × ByteArray) × List Int) := (o3 a0 [] [] 0)
def impl_readLog.f (k : Nat) (a0 : ByteArray) : Option (List (ByteArray × ByteArray) × List Int) := impl_readLog.m (impl_readLog.l3 k) k a0
noncomputable def impl_readLog.spec (k : Nat) : FnSpec := ⟨[.d .str none], [.d (.sl (.pair .str .str)) (some 55), .d (.sl (.int .i64)) (some 3)], fun x => impl_readLog.f k x⟩
def impl_readLog.S3 (x0_3 : ByteArray) (l1_3 : List (ByteArray × ByteArray)) (l2_3 : List Int) (x3_3 : Int) : St := ⟨[(0, .val .str x0_3), (2, .ref 100), (3, .ref 101), (4, .val (.int .i64) x3_3)], [(101, some (.row 3 (.int .i64) l2_3)), (100, some (.row 55 (.pair .str .str) l1_3))], 1000⟩
noncomputable def impl_readLog.T : FnText := ⟨(conv [] (bodyOf Go.Proofs.Tryz.f80) 0).1, Go.Proofs.Tryz.f80.results.toList, 34, [(3, [(0, .rd .str), (2, .own 55 (.pair .str .str) 100), (3, .own 3 (.int .i64) 101), (4, .rd (.int .i64))])], [.d .str none], [.d (.sl (.pair .str .str)) (some 55), .d (.sl (.int .i64)) (some 3)]⟩
noncomputable def impl_readLog.tbl (k : Nat) : Tbl := [(119, impl_cutRecord.spec k)]
theorem impl_readLog.e3 (k : Nat) (o : Nat → St → Option (List (ByteArray × ByteArray) × List Int)) (x0_3 : ByteArray) (l1_3 : List (ByteArray × ByteArray)) (l2_3 : List Int) (x3_3 : Int) : impl_readLog.T.step tyt (impl_readLog.tbl k) o 3 (impl_readLog.S3 x0_3 l1_3 l2_3 x3_3) = impl_readLog.b3 (fun x0_3 l1_3 l2_3 x3_3 => o 3 (impl_readLog.S3 x0_3 l1_3 l2_3 x3_3)) k x0_3 l1_3 l2_3 x3_3 := by kernel_rfl
theorem impl_readLog.e (k : Nat) (o : Nat → St → Option (List (ByteArray × ByteArray) × List Int)) (a0 : ByteArray) : impl_readLog.T.main tyt (impl_readLog.tbl k) o a0 = impl_readLog.m (fun x0_3 l1_3 l2_3 x3_3 => o 3 (impl_readLog.S3 x0_3 l1_3 l2_3 x3_3)) k a0 := by kernel_rfl
theorem impl_readLog.ok : impl_readLog.T.ok = true := by kernel_rfl
theorem impl_readLog.run (k : Nat) : (∀ (x0_3 : ByteArray) (l1_3 : List (ByteArray × ByteArray)) (l2_3 : List Int) (x3_3 : Int), impl_readLog.T.run tyt impl_readLog.tbl k 3 (impl_readLog.S3 x0_3 l1_3 l2_3 x3_3) = impl_readLog.l3 k x0_3 l1_3 l2_3 x3_3) := by
  induction k with
  | zero => exact fun x0_3 l1_3 l2_3 x3_3 => rfl
  | succ k ih =>
    exact fun x0_3 l1_3 l2_3 x3_3 => by
      have q3 : (fun x0_3 l1_3 l2_3 x3_3 => impl_readLog.T.run tyt impl_readLog.tbl k 3 (impl_readLog.S3 x0_3 l1_3 l2_3 x3_3)) = impl_readLog.l3 k := by funext x0_3 l1_3 l2_3 x3_3; exact ih x0_3 l1_3 l2_3 x3_3
      exact (impl_readLog.e3 k (impl_readLog.T.run tyt impl_readLog.tbl k) x0_3 l1_3 l2_3 x3_3).trans (by rw [q3]; rfl)
theorem impl_readLog.tblok (k : Nat) : TblOk Go.Proofs.Tryz.prog (impl_readLog.tbl k) := TblOk.cons (impl_cutRecord.sound k) (TblOk.nil _)
theorem impl_readLog.sound (k : Nat) : Sound Go.Proofs.Tryz.prog 80 (impl_readLog.spec k) := by
  have h := fn_ok (F := impl_readLog.T) (tbl := impl_readLog.tbl) mixed tyok Go.Proofs.Tryz.func80 (by kernel_rfl) (c0 := bodyOf Go.Proofs.Tryz.f80) rfl (conv_code _ _ _) rfl rfl impl_readLog.ok k (fun j _ => impl_readLog.tblok j)
  have q3 : (fun x0_3 l1_3 l2_3 x3_3 => impl_readLog.T.run tyt impl_readLog.tbl k 3 (impl_readLog.S3 x0_3 l1_3 l2_3 x3_3)) = impl_readLog.l3 k := by funext x0_3 l1_3 l2_3 x3_3; exact (impl_readLog.run k) x0_3 l1_3 l2_3 x3_3
  have e : impl_readLog.spec k = ⟨impl_readLog.T.ps, impl_readLog.T.rs, impl_readLog.T.ev tyt impl_readLog.tbl k⟩ := congrArg (FnSpec.mk _ _) (funext fun x => ((impl_readLog.e k (impl_readLog.T.run tyt impl_readLog.tbl k) x).trans (by rw [q3]; rfl)).symm)
  rw [e]
  exact h
/-! ### impl_Log_records: function 65 -/
def impl_Log_records.b8 (o8 : ByteArray → ByteArray → Int → (List (ByteArray × ByteArray)) → Int → Bool → List Int → Int → Int → Option (List (ByteArray × ByteArray) × Bool)) (k : Nat) (x0_8 : ByteArray) (x1_8 : ByteArray) (x2_8 : Int) (l3_8 : List (ByteArray × ByteArray)) (x4_8 : Int) (x5_8 : Bool) (l6_8 : List Int) (x7_8 : Int) (x8_8 : Int) : Option (List (ByteArray × ByteArray) × Bool) := (if x8_8 < x7_8 then ((chk l6_8.length x8_8).bind fun i3 => (cond x5_8 (o8 x0_8 x1_8 x2_8 l3_8 (l6_8.getD i3 0) true l6_8 x7_8 (w64 (x8_8 + 1))) (o8 x0_8 x1_8 x2_8 l3_8 (l6_8.getD i3 0) (decide ((l6_8.getD i3 0) = (x0_8.size : Int))) l6_8 x7_8 (w64 (x8_8 + 1))))) else (cond x5_8 (if x4_8 = (w64 ((x0_8.size : Int) + (x1_8.size : Int))) then (some (l3_8, (decide (x2_8 = (l3_8.length : Int))))) else (some (l3_8, false))) (some (l3_8, false))))
def impl_Log_records.l8 : Nat → ByteArray → ByteArray → Int → (List (ByteArray × ByteArray)) → Int → Bool → List Int → Int → Int → Option (List (ByteArray × ByteArray) × Bool)
  | 0, _, _, _, _, _, _, _, _, _ => none
  | k + 1, x0_8, x1_8, x2_8, l3_8, x4_8, x5_8, l6_8, x7_8, x8_8 => impl_Log_records.b8 (impl_Log_records.l8 k) k x0_8 x1_8 x2_8 l3_8 x4_8 x5_8 l6_8 x7_8 x8_8
def impl_Log_records.m (o8 : ByteArray → ByteArray → Int → (List (ByteArray × ByteArray)) → Int → Bool → List Int → Int → Int → Option (List (ByteArray × ByteArray) × Bool)) (k : Nat) (a0_0 : ByteArray) (a0_1 : ByteArray) (a0_2 : Int) : Option (List (ByteArray × ByteArray) × Bool) := (if 30000 < (w64 ((a0_0.size : Int) + (a0_1.size : Int))) then (some ([], false)) else ((catS a0_0 a0_1).bind fun s1 => ((impl_readLog.f k s1).bind fun r2 => (o8 a0_0 a0_1 a0_2 r2.1 0 (decide (a0_0 = (⟨#[]⟩ : ByteArray))) r2.2 (r2.2.length : Int) 0))))
def impl_Log_records.f (k : Nat) (a0_0 : ByteArray) (a0_1 : ByteArray) (a0_2 : Int) : Option (List (ByteArray × ByteArray) × Bool) := impl_Log_records.m (impl_Log_records.l8 k) k a0_0 a0_1 a0_2
noncomputable def impl_Log_records.spec (k : Nat) : FnSpec := ⟨[.ag [.d .str none, .d .str none, .d (.int .i64) none]], [.d (.sl (.pair .str .str)) (some 55), .d .bool none], fun x => impl_Log_records.f k x.1 x.2.1 x.2.2⟩
def impl_Log_records.S8 (x0_8 : ByteArray) (x1_8 : ByteArray) (x2_8 : Int) (l3_8 : List (ByteArray × ByteArray)) (x4_8 : Int) (x5_8 : Bool) (l6_8 : List Int) (x7_8 : Int) (x8_8 : Int) : St := ⟨[(1, .ptr 100 0), (4, .ref 101), (6, .val (.int .i64) x4_8), (7, .val .bool x5_8), (30, .ref 102), (31, .val (.int .i64) x7_8), (32, .val (.int .i64) x8_8)], [(102, some (.row 3 (.int .i64) l6_8)), (101, some (.row 55 (.pair .str .str) l3_8)), (100, some (.box [.val .str x0_8, .val .str x1_8, .val (.int .i64) x2_8]))], 1000⟩
noncomputable def impl_Log_records.T : FnText := ⟨(conv [] (bodyOf Go.Proofs.Tryz.f65) 0).1, Go.Proofs.Tryz.f65.results.toList, 66, [(8, [(1, .bx 100 [.rd .str, .rd .str, .rd (.int .i64)]), (4, .own 55 (.pair .str .str) 101), (6, .rd (.int .i64)), (7, .rd .bool), (30, .own 3 (.int .i64) 102), (31, .rd (.int .i64)), (32, .rd (.int .i64))])], [.ag [.d .str none, .d .str none, .d (.int .i64) none]], [.d (.sl (.pair .str .str)) (some 55), .d .bool none]⟩
noncomputable def impl_Log_records.tbl (k : Nat) : Tbl := [(80, impl_readLog.spec k)]
theorem impl_Log_records.e8 (k : Nat) (o : Nat → St → Option (List (ByteArray × ByteArray) × Bool)) (x0_8 : ByteArray) (x1_8 : ByteArray) (x2_8 : Int) (l3_8 : List (ByteArray × ByteArray)) (x4_8 : Int) (x5_8 : Bool) (l6_8 : List Int) (x7_8 : Int) (x8_8 : Int) : impl_Log_records.T.step tyt (impl_Log_records.tbl k) o 8 (impl_Log_records.S8 x0_8 x1_8 x2_8 l3_8 x4_8 x5_8 l6_8 x7_8 x8_8) = impl_Log_records.b8 (fun x0_8 x1_8 x2_8 l3_8 x4_8 x5_8 l6_8 x7_8 x8_8 => o 8 (impl_Log_records.S8 x0_8 x1_8 x2_8 l3_8 x4_8 x5_8 l6_8 x7_8 x8_8)) k x0_8 x1_8 x2_8 l3_8 x4_8 x5_8 l6_8 x7_8 x8_8 := by kernel_rfl
theorem impl_Log_records.e (k : Nat) (o : Nat → St → Option (List (ByteArray × ByteArray) × Bool)) (a0_0 : ByteArray) (a0_1 : ByteArray) (a0_2 : Int) : impl_Log_records.T.main tyt (impl_Log_records.tbl k) o (a0_0, a0_1, a0_2) = impl_Log_records.m (fun x0_8 x1_8 x2_8 l3_8 x4_8 x5_8 l6_8 x7_8 x8_8 => o 8 (impl_Log_records.S8 x0_8 x1_8 x2_8 l3_8 x4_8 x5_8 l6_8 x7_8 x8_8)) k a0_0 a0_1 a0_2 := by kernel_rfl
theorem impl_Log_records.ok : impl_Log_records.T.ok = true := by kernel_rfl
theorem impl_Log_records.run (k : Nat) : (∀ (x0_8 : ByteArray) (x1_8 : ByteArray) (x2_8 : Int) (l3_8 : List (ByteArray × ByteArray)) (x4_8 : Int) (x5_8 : Bool) (l6_8 : List Int) (x7_8 : Int) (x8_8 : Int), impl_Log_records.T.run tyt impl_Log_records.tbl k 8 (impl_Log_records.S8 x0_8 x1_8 x2_8 l3_8 x4_8 x5_8 l6_8 x7_8 x8_8) = impl_Log_records.l8 k x0_8 x1_8 x2_8 l3_8 x4_8 x5_8 l6_8 x7_8 x8_8) := by
  induction k with
  | zero => exact fun x0_8 x1_8 x2_8 l3_8 x4_8 x5_8 l6_8 x7_8 x8_8 => rfl
  | succ k ih =>
    exact fun x0_8 x1_8 x2_8 l3_8 x4_8 x5_8 l6_8 x7_8 x8_8 => by
      have q8 : (fun x0_8 x1_8 x2_8 l3_8 x4_8 x5_8 l6_8 x7_8 x8_8 => impl_Log_records.T.run tyt impl_Log_records.tbl k 8 (impl_Log_records.S8 x0_8 x1_8 x2_8 l3_8 x4_8 x5_8 l6_8 x7_8 x8_8)) = impl_Log_records.l8 k := by funext x0_8 x1_8 x2_8 l3_8 x4_8 x5_8 l6_8 x7_8 x8_8; exact ih x0_8 x1_8 x2_8 l3_8 x4_8 x5_8 l6_8 x7_8 x8_8
      exact (impl_Log_records.e8 k (impl_Log_records.T.run tyt impl_Log_records.tbl k) x0_8 x1_8 x2_8 l3_8 x4_8 x5_8 l6_8 x7_8 x8_8).trans (by rw [q8]; rfl)
theorem impl_Log_records.tblok (k : Nat) : TblOk Go.Proofs.Tryz.prog (impl_Log_records.tbl k) := TblOk.cons (impl_readLog.sound k) (TblOk.nil _)
theorem impl_Log_records.sound (k : Nat) : Sound Go.Proofs.Tryz.prog 65 (impl_Log_records.spec k) := by
  have h := fn_ok (F := impl_Log_records.T) (tbl := impl_Log_records.tbl) mixed tyok Go.Proofs.Tryz.func65 (by kernel_rfl) (c0 := bodyOf Go.Proofs.Tryz.f65) rfl (conv_code _ _ _) rfl rfl impl_Log_records.ok k (fun j _ => impl_Log_records.tblok j)
  have q8 : (fun x0_8 x1_8 x2_8 l3_8 x4_8 x5_8 l6_8 x7_8 x8_8 => impl_Log_records.T.run tyt impl_Log_records.tbl k 8 (impl_Log_records.S8 x0_8 x1_8 x2_8 l3_8 x4_8 x5_8 l6_8 x7_8 x8_8)) = impl_Log_records.l8 k := by funext x0_8 x1_8 x2_8 l3_8 x4_8 x5_8 l6_8 x7_8 x8_8; exact (impl_Log_records.run k) x0_8 x1_8 x2_8 l3_8 x4_8 x5_8 l6_8 x7_8 x8_8
  have e : impl_Log_records.spec k = ⟨impl_Log_records.T.ps, impl_Log_records.T.rs, impl_Log_records.T.ev tyt impl_Log_records.tbl k⟩ := congrArg (FnSpec.mk _ _) (funext fun x => ((impl_Log_records.e k (impl_Log_records.T.run tyt impl_Log_records.tbl k) x.1 x.2.1 x.2.2).trans (by rw [q8]; rfl)).symm)
  rw [e]
  exact h
/-! ### impl_LogRecords: function 25 -/
def impl_LogRecords.m (k : Nat) (a0_0 : ByteArray) (a0_1 : ByteArray) (a0_2 : Int) : Option (List (ByteArray × ByteArray) × Bool) := ((impl_Log_records.f k a0_0 a0_1 a0_2).bind fun r1 => (cond (!r1.2) (some ([], false)) (some (r1.1, true))))
def impl_LogRecords.f (k : Nat) (a0_0 : ByteArray) (a0_1 : ByteArray) (a0_2 : Int) : Option (List (ByteArray × ByteArray) × Bool) := impl_LogRecords.m k a0_0 a0_1 a0_2
noncomputable def impl_LogRecords.spec (k : Nat) : FnSpec := ⟨[.ag [.d .str none, .d .str none, .d (.int .i64) none]], [.d (.sl (.pair .str .str)) (some 55), .d .bool none], fun x => impl_LogRecords.f k x.1 x.2.1 x.2.2⟩
noncomputable def impl_LogRecords.T : FnText := ⟨(conv [] (bodyOf Go.Proofs.Tryz.f25) 0).1, Go.Proofs.Tryz.f25.results.toList, 14, [], [.ag [.d .str none, .d .str none, .d (.int .i64) none]], [.d (.sl (.pair .str .str)) (some 55), .d .bool none]⟩
noncomputable def impl_LogRecords.tbl (k : Nat) : Tbl := [(65, impl_Log_records.spec k)]
theorem impl_LogRecords.e (k : Nat) (o : Nat → St → Option (List (ByteArray × ByteArray) × Bool)) (a0_0 : ByteArray) (a0_1 : ByteArray) (a0_2 : Int) : impl_LogRecords.T.main tyt (impl_LogRecords.tbl k) o (a0_0, a0_1, a0_2) = impl_LogRecords.m k a0_0 a0_1 a0_2 := by kernel_rfl
theorem impl_LogRecords.ok : impl_LogRecords.T.ok = true := by kernel_rfl
theorem impl_LogRecords.tblok (k : Nat) : TblOk Go.Proofs.Tryz.prog (impl_LogRecords.tbl k) := TblOk.cons (impl_Log_records.sound k) (TblOk.nil _)
theorem impl_LogRecords.sound (k : Nat) : Sound Go.Proofs.Tryz.prog 25 (impl_LogRecords.spec k) := by
  have h := fn_ok (F := impl_LogRecords.T) (tbl := impl_LogRecords.tbl) mixed tyok Go.Proofs.Tryz.func25 (by kernel_rfl) (c0 := bodyOf Go.Proofs.Tryz.f25) rfl (conv_code _ _ _) rfl rfl impl_LogRecords.ok k (fun j _ => impl_LogRecords.tblok j)
  have e : impl_LogRecords.spec k = ⟨impl_LogRecords.T.ps, impl_LogRecords.T.rs, impl_LogRecords.T.ev tyt impl_LogRecords.tbl k⟩ := congrArg (FnSpec.mk _ _) (funext fun x => ((impl_LogRecords.e k (impl_LogRecords.T.run tyt impl_LogRecords.tbl k) x.1 x.2.1 x.2.2).trans (by rfl)).symm)
  rw [e]
  exact h
/-! ### impl_isDay: function 112 -/
def impl_isDay.m (k : Nat) (a0 : Int) : Option (Bool) := ((impl_in.f k a0 0 4000).bind fun r1 => (some r1))
def impl_isDay.f (k : Nat) (a0 : Int) : Option (Bool) := impl_isDay.m k a0
noncomputable def impl_isDay.spec (k : Nat) : FnSpec := ⟨[.d (.int .i64) none], [.d .bool none], fun x => impl_isDay.f k x⟩
noncomputable def impl_isDay.T : FnText := ⟨(conv [] (bodyOf Go.Proofs.Tryz.f112) 0).1, Go.Proofs.Tryz.f112.results.toList, 5, [], [.d (.int .i64) none], [.d .bool none]⟩
noncomputable def impl_isDay.tbl (k : Nat) : Tbl := [(79, impl_in.spec k)]
theorem impl_isDay.e (k : Nat) (o : Nat → St → Option (Bool)) (a0 : Int) : impl_isDay.T.main tyt (impl_isDay.tbl k) o a0 = impl_isDay.m k a0 := by kernel_rfl
theorem impl_isDay.ok : impl_isDay.T.ok = true := by kernel_rfl
theorem impl_isDay.tblok (k : Nat) : TblOk Go.Proofs.Tryz.prog (impl_isDay.tbl k) := TblOk.cons (impl_in.sound k) (TblOk.nil _)
theorem impl_isDay.sound (k : Nat) : Sound Go.Proofs.Tryz.prog 112 (impl_isDay.spec k) := by
  have h := fn_ok (F := impl_isDay.T) (tbl := impl_isDay.tbl) mixed tyok Go.Proofs.Tryz.func112 (by kernel_rfl) (c0 := bodyOf Go.Proofs.Tryz.f112) rfl (conv_code _ _ _) rfl rfl impl_isDay.ok k (fun j _ => impl_isDay.tblok j)
  have e : impl_isDay.spec k = ⟨impl_isDay.T.ps, impl_isDay.T.rs, impl_isDay.T.ev tyt impl_isDay.tbl k⟩ := congrArg (FnSpec.mk _ _) (funext fun x => ((impl_isDay.e k (impl_isDay.T.run tyt impl_isDay.tbl k) x).trans (by rfl)).symm)
  rw [e]
  exact h

end Go.Proofs.YtiacidpjplmgaaaGreatDoor.DFnExactReplayLog
