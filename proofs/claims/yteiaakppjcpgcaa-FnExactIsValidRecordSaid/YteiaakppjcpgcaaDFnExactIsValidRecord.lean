-- Printed by this session's own program (wip/deep/drow.py); Lean checks it.
import Derived.Test.YteiaakppjcpgcaaLib
import Derived.Test.YteiaakppjcpgcaaProg
set_option linter.unusedVariables false
set_option maxRecDepth 100000
namespace Go.Proofs.Yteiaakppjcpgcaa.DFnExactIsValidRecord
open Go Go.Proofs.YteiaakppjcpgcaaD
def tyt3 : TI := ⟨.int .i64, 1, 8, (.int .i64)⟩
def tyt4 : TI := ⟨.bool, 1, 1, .bool⟩
def tyt5 : TI := ⟨.int .u8, 1, 1, (.int .u8)⟩
def tyt9 : TI := ⟨.string, 1, 16, .str⟩
def tyt46 : TI := ⟨.struct #[⟨ "Command", 9, 0, false, "", "", 0⟩, ⟨ "Reply", 9, 1, false, "", "", 16⟩], 2, 32, (.pair .str .str)⟩
def tyt49 : TI := ⟨.struct #[⟨ "Command", 9, 0, false, "", "", 0⟩, ⟨ "Reply", 9, 1, false, "", "", 16⟩], 2, 32, (.pair .str .str)⟩
def tyt104 : TI := ⟨.slice 5, 1, 24, (.sl (.int .u8))⟩
def tyt105 : TI := ⟨.func #[5] #[4] false, 1, 8, .fn⟩
def tyt : TT := [(3, tyt3), (4, tyt4), (5, tyt5), (9, tyt9), (46, tyt46), (49, tyt49), (104, tyt104), (105, tyt105)]
theorem mixed : Go.Proofs.Try.prog.follows .mixedOrders = true := by kernel_rfl
theorem tok3 : TOk1 Go.Proofs.Try.prog 3 (tyt3) := TOk1.of (by kernel_rfl) (by kernel_rfl) (by kernel_rfl) (by kernel_rfl) (by kernel_rfl) (by kernel_rfl) (by kernel_rfl) (fun h => nomatch (show false = true from h)) (fun h => nomatch (show false = true from h))
theorem tok4 : TOk1 Go.Proofs.Try.prog 4 (tyt4) := TOk1.of (by kernel_rfl) (by kernel_rfl) (by kernel_rfl) (by kernel_rfl) (by kernel_rfl) (by kernel_rfl) (by kernel_rfl) (fun h => nomatch (show false = true from h)) (fun h => nomatch (show false = true from h))
theorem tok5 : TOk1 Go.Proofs.Try.prog 5 (tyt5) := TOk1.of (by kernel_rfl) (by kernel_rfl) (by kernel_rfl) (by kernel_rfl) (by kernel_rfl) (by kernel_rfl) (by kernel_rfl) (fun h => nomatch (show false = true from h)) (fun h => nomatch (show false = true from h))
theorem tok9 : TOk1 Go.Proofs.Try.prog 9 (tyt9) := TOk1.of (by kernel_rfl) (by kernel_rfl) (by kernel_rfl) (by kernel_rfl) (by kernel_rfl) (by kernel_rfl) (by kernel_rfl) (fun h => nomatch (show false = true from h)) (fun h => nomatch (show false = true from h))
theorem tok46 : TOk1 Go.Proofs.Try.prog 46 (tyt46) := TOk1.of (by kernel_rfl) (by kernel_rfl) (by kernel_rfl) (by kernel_rfl) (by kernel_rfl) (by kernel_rfl) (by kernel_rfl) (fun _ => by kernel_rfl) (fun _ => ⟨by kernel_rfl, by kernel_rfl, by kernel_rfl⟩)
theorem tok49 : TOk1 Go.Proofs.Try.prog 49 (tyt49) := TOk1.of (by kernel_rfl) (by kernel_rfl) (by kernel_rfl) (by kernel_rfl) (by kernel_rfl) (by kernel_rfl) (by kernel_rfl) (fun _ => by kernel_rfl) (fun _ => ⟨by kernel_rfl, by kernel_rfl, by kernel_rfl⟩)
theorem tok104 : TOk1 Go.Proofs.Try.prog 104 (tyt104) := TOk1.of (by kernel_rfl) (by kernel_rfl) (by kernel_rfl) (by kernel_rfl) (by kernel_rfl) (by kernel_rfl) (by kernel_rfl) (fun h => nomatch (show false = true from h)) (fun h => nomatch (show false = true from h))
theorem tok105 : TOk1 Go.Proofs.Try.prog 105 (tyt105) := TOk1.of (by kernel_rfl) (by kernel_rfl) (by kernel_rfl) (by kernel_rfl) (by kernel_rfl) (by kernel_rfl) (by kernel_rfl) (fun h => nomatch (show false = true from h)) (fun h => nomatch (show false = true from h))
theorem tyok : TOk Go.Proofs.Try.prog tyt := TOk.cons tok3 (TOk.cons tok4 (TOk.cons tok5 (TOk.cons tok9 (TOk.cons tok46 (TOk.cons tok49 (TOk.cons tok104 (TOk.cons tok105 (TOk.nil _))))))))
/-! ### laws_szLogRecord: function 27 -/
def laws_szLogRecord.m (k : Nat) (a0_0 : ByteArray) (a0_1 : ByteArray) (a1 : Int) : Option (Int) := (if (w64 (a1 - (a0_0.size : Int))) < 0 then (some (-1)) else (if (w64 ((w64 (a1 - (a0_0.size : Int))) - (a0_1.size : Int))) < 0 then (some (-1)) else (some (w64 ((w64 (a1 - (a0_0.size : Int))) - (a0_1.size : Int))))))
def laws_szLogRecord.f (k : Nat) (a0_0 : ByteArray) (a0_1 : ByteArray) (a1 : Int) : Option (Int) := laws_szLogRecord.m k a0_0 a0_1 a1
noncomputable def laws_szLogRecord.spec (k : Nat) : FnSpec := ⟨[.ag [.d .str none, .d .str none], .d (.int .i64) none], [.d (.int .i64) none], fun x => laws_szLogRecord.f k x.1 x.2.1 x.2.2⟩
noncomputable def laws_szLogRecord.T : FnText := ⟨(conv [] (bodyOf Go.Proofs.Try.f27) 0).1, Go.Proofs.Try.f27.results.toList, 20, [], [.ag [.d .str none, .d .str none], .d (.int .i64) none], [.d (.int .i64) none]⟩
noncomputable def laws_szLogRecord.tbl (k : Nat) : Tbl := []
theorem laws_szLogRecord.e (k : Nat) (o : Nat → St → Option (Int)) (a0_0 : ByteArray) (a0_1 : ByteArray) (a1 : Int) : laws_szLogRecord.T.main tyt (laws_szLogRecord.tbl k) o (a0_0, a0_1, a1) = laws_szLogRecord.m k a0_0 a0_1 a1 := by kernel_rfl
theorem laws_szLogRecord.ok : laws_szLogRecord.T.ok = true := by kernel_rfl
theorem laws_szLogRecord.tblok (k : Nat) : TblOk Go.Proofs.Try.prog (laws_szLogRecord.tbl k) := TblOk.nil _
theorem laws_szLogRecord.sound (k : Nat) : Sound Go.Proofs.Try.prog 27 (laws_szLogRecord.spec k) := by
  have h := fn_ok (F := laws_szLogRecord.T) (tbl := laws_szLogRecord.tbl) mixed tyok Go.Proofs.Try.func27 (by kernel_rfl) (c0 := bodyOf Go.Proofs.Try.f27) rfl (conv_code _ _ _) rfl rfl laws_szLogRecord.ok k (fun j _ => laws_szLogRecord.tblok j)
  have e : laws_szLogRecord.spec k = ⟨laws_szLogRecord.T.ps, laws_szLogRecord.T.rs, laws_szLogRecord.T.ev tyt laws_szLogRecord.tbl k⟩ := congrArg (FnSpec.mk _ _) (funext fun x => ((laws_szLogRecord.e k (laws_szLogRecord.T.run tyt laws_szLogRecord.tbl k) x.1 x.2.1 x.2.2).trans (by rfl)).symm)
  rw [e]
  exact h
/-! ### laws_toLogRecord: function 29 -/
def laws_toLogRecord.m (k : Nat) (a0_0 : ByteArray) (a0_1 : ByteArray) : Option (ByteArray × ByteArray) := (some (a0_0, a0_1))
def laws_toLogRecord.f (k : Nat) (a0_0 : ByteArray) (a0_1 : ByteArray) : Option (ByteArray × ByteArray) := laws_toLogRecord.m k a0_0 a0_1
noncomputable def laws_toLogRecord.spec (k : Nat) : FnSpec := ⟨[.ag [.d .str none, .d .str none]], [.ag [.d .str none, .d .str none]], fun x => laws_toLogRecord.f k x.1 x.2⟩
noncomputable def laws_toLogRecord.T : FnText := ⟨(conv [] (bodyOf Go.Proofs.Try.f29) 0).1, Go.Proofs.Try.f29.results.toList, 11, [], [.ag [.d .str none, .d .str none]], [.ag [.d .str none, .d .str none]]⟩
noncomputable def laws_toLogRecord.tbl (k : Nat) : Tbl := []
theorem laws_toLogRecord.e (k : Nat) (o : Nat → St → Option (ByteArray × ByteArray)) (a0_0 : ByteArray) (a0_1 : ByteArray) : laws_toLogRecord.T.main tyt (laws_toLogRecord.tbl k) o (a0_0, a0_1) = laws_toLogRecord.m k a0_0 a0_1 := by kernel_rfl
theorem laws_toLogRecord.ok : laws_toLogRecord.T.ok = true := by kernel_rfl
theorem laws_toLogRecord.tblok (k : Nat) : TblOk Go.Proofs.Try.prog (laws_toLogRecord.tbl k) := TblOk.nil _
theorem laws_toLogRecord.sound (k : Nat) : Sound Go.Proofs.Try.prog 29 (laws_toLogRecord.spec k) := by
  have h := fn_ok (F := laws_toLogRecord.T) (tbl := laws_toLogRecord.tbl) mixed tyok Go.Proofs.Try.func29 (by kernel_rfl) (c0 := bodyOf Go.Proofs.Try.f29) rfl (conv_code _ _ _) rfl rfl laws_toLogRecord.ok k (fun j _ => laws_toLogRecord.tblok j)
  have e : laws_toLogRecord.spec k = ⟨laws_toLogRecord.T.ps, laws_toLogRecord.T.rs, laws_toLogRecord.T.ev tyt laws_toLogRecord.tbl k⟩ := congrArg (FnSpec.mk _ _) (funext fun x => ((laws_toLogRecord.e k (laws_toLogRecord.T.run tyt laws_toLogRecord.tbl k) x.1 x.2).trans (by rfl)).symm)
  rw [e]
  exact h
/-! ### spec_l1In: function 101 -/
def spec_l1In.m (k : Nat) (a0 : Int) (a1 : Int) (a2 : Int) : Option (Bool) := (if a1 ≤ a0 then (some (decide (a0 ≤ a2))) else (some false))
def spec_l1In.f (k : Nat) (a0 : Int) (a1 : Int) (a2 : Int) : Option (Bool) := spec_l1In.m k a0 a1 a2
noncomputable def spec_l1In.spec (k : Nat) : FnSpec := ⟨[.d (.int .i64) none, .d (.int .i64) none, .d (.int .i64) none], [.d .bool none], fun x => spec_l1In.f k x.1 x.2.1 x.2.2⟩
noncomputable def spec_l1In.T : FnText := ⟨(conv [] (bodyOf Go.Proofs.Try.f101) 0).1, Go.Proofs.Try.f101.results.toList, 15, [], [.d (.int .i64) none, .d (.int .i64) none, .d (.int .i64) none], [.d .bool none]⟩
noncomputable def spec_l1In.tbl (k : Nat) : Tbl := []
theorem spec_l1In.e (k : Nat) (o : Nat → St → Option (Bool)) (a0 : Int) (a1 : Int) (a2 : Int) : spec_l1In.T.main tyt (spec_l1In.tbl k) o (a0, a1, a2) = spec_l1In.m k a0 a1 a2 := by kernel_rfl
theorem spec_l1In.ok : spec_l1In.T.ok = true := by kernel_rfl
theorem spec_l1In.tblok (k : Nat) : TblOk Go.Proofs.Try.prog (spec_l1In.tbl k) := TblOk.nil _
theorem spec_l1In.sound (k : Nat) : Sound Go.Proofs.Try.prog 101 (spec_l1In.spec k) := by
  have h := fn_ok (F := spec_l1In.T) (tbl := spec_l1In.tbl) mixed tyok Go.Proofs.Try.func101 (by kernel_rfl) (c0 := bodyOf Go.Proofs.Try.f101) rfl (conv_code _ _ _) rfl rfl spec_l1In.ok k (fun j _ => spec_l1In.tblok j)
  have e : spec_l1In.spec k = ⟨spec_l1In.T.ps, spec_l1In.T.rs, spec_l1In.T.ev tyt spec_l1In.tbl k⟩ := congrArg (FnSpec.mk _ _) (funext fun x => ((spec_l1In.e k (spec_l1In.T.run tyt spec_l1In.tbl k) x.1 x.2.1 x.2.2).trans (by rfl)).symm)
  rw [e]
  exact h
/-! ### spec_l27Plain: function 107 -/
def spec_l27Plain.b3 (o3 : ByteArray → Int → Int → Option (Bool)) (k : Nat) (x0_3 : ByteArray) (x1_3 : Int) (x2_3 : Int) : Option (Bool) := (if x2_3 < (x0_3.size : Int) then ((chk x0_3.size x2_3).bind fun i1 => ((spec_l1In.f k (w64 ((byteAt x0_3 i1))) 32 126).bind fun r2 => (cond (!r2) (some false) ((chk x0_3.size x2_3).bind fun i3 => (if (byteAt x0_3 i3) = 35 then (some false) else (o3 x0_3 x1_3 (w64 (x2_3 + 1)))))))) else (some (decide ((x0_3.size : Int) ≤ x1_3))))
def spec_l27Plain.l3 : Nat → ByteArray → Int → Int → Option (Bool)
  | 0, _, _, _ => none
  | k + 1, x0_3, x1_3, x2_3 => spec_l27Plain.b3 (spec_l27Plain.l3 k) k x0_3 x1_3 x2_3
def spec_l27Plain.m (o3 : ByteArray → Int → Int → Option (Bool)) (k : Nat) (a0 : ByteArray) (a1 : Int) : Option (Bool) := (o3 a0 a1 0)
def spec_l27Plain.f (k : Nat) (a0 : ByteArray) (a1 : Int) : Option (Bool) := spec_l27Plain.m (spec_l27Plain.l3 k) k a0 a1
noncomputable def spec_l27Plain.spec (k : Nat) : FnSpec := ⟨[.d .str none, .d (.int .i64) none], [.d .bool none], fun x => spec_l27Plain.f k x.1 x.2⟩
def spec_l27Plain.S3 (x0_3 : ByteArray) (x1_3 : Int) (x2_3 : Int) : St := ⟨[(0, .val .str x0_3), (1, .val (.int .i64) x1_3), (5, .val (.int .i64) x2_3)], [], 1000⟩
noncomputable def spec_l27Plain.T : FnText := ⟨(conv [] (bodyOf Go.Proofs.Try.f107) 0).1, Go.Proofs.Try.f107.results.toList, 28, [(3, [(0, .rd .str), (1, .rd (.int .i64)), (5, .rd (.int .i64))])], [.d .str none, .d (.int .i64) none], [.d .bool none]⟩
noncomputable def spec_l27Plain.tbl (k : Nat) : Tbl := [(101, spec_l1In.spec k)]
theorem spec_l27Plain.e3 (k : Nat) (o : Nat → St → Option (Bool)) (x0_3 : ByteArray) (x1_3 : Int) (x2_3 : Int) : spec_l27Plain.T.step tyt (spec_l27Plain.tbl k) o 3 (spec_l27Plain.S3 x0_3 x1_3 x2_3) = spec_l27Plain.b3 (fun x0_3 x1_3 x2_3 => o 3 (spec_l27Plain.S3 x0_3 x1_3 x2_3)) k x0_3 x1_3 x2_3 := by kernel_rfl
theorem spec_l27Plain.e (k : Nat) (o : Nat → St → Option (Bool)) (a0 : ByteArray) (a1 : Int) : spec_l27Plain.T.main tyt (spec_l27Plain.tbl k) o (a0, a1) = spec_l27Plain.m (fun x0_3 x1_3 x2_3 => o 3 (spec_l27Plain.S3 x0_3 x1_3 x2_3)) k a0 a1 := by kernel_rfl
theorem spec_l27Plain.ok : spec_l27Plain.T.ok = true := by kernel_rfl
theorem spec_l27Plain.run (k : Nat) : (∀ (x0_3 : ByteArray) (x1_3 : Int) (x2_3 : Int), spec_l27Plain.T.run tyt spec_l27Plain.tbl k 3 (spec_l27Plain.S3 x0_3 x1_3 x2_3) = spec_l27Plain.l3 k x0_3 x1_3 x2_3) := by
  induction k with
  | zero => exact fun x0_3 x1_3 x2_3 => rfl
  | succ k ih =>
    exact fun x0_3 x1_3 x2_3 => by
      have q3 : (fun x0_3 x1_3 x2_3 => spec_l27Plain.T.run tyt spec_l27Plain.tbl k 3 (spec_l27Plain.S3 x0_3 x1_3 x2_3)) = spec_l27Plain.l3 k := by funext x0_3 x1_3 x2_3; exact ih x0_3 x1_3 x2_3
      exact (spec_l27Plain.e3 k (spec_l27Plain.T.run tyt spec_l27Plain.tbl k) x0_3 x1_3 x2_3).trans (by rw [q3]; rfl)
theorem spec_l27Plain.tblok (k : Nat) : TblOk Go.Proofs.Try.prog (spec_l27Plain.tbl k) := TblOk.cons (spec_l1In.sound k) (TblOk.nil _)
theorem spec_l27Plain.sound (k : Nat) : Sound Go.Proofs.Try.prog 107 (spec_l27Plain.spec k) := by
  have h := fn_ok (F := spec_l27Plain.T) (tbl := spec_l27Plain.tbl) mixed tyok Go.Proofs.Try.func107 (by kernel_rfl) (c0 := bodyOf Go.Proofs.Try.f107) rfl (conv_code _ _ _) rfl rfl spec_l27Plain.ok k (fun j _ => spec_l27Plain.tblok j)
  have q3 : (fun x0_3 x1_3 x2_3 => spec_l27Plain.T.run tyt spec_l27Plain.tbl k 3 (spec_l27Plain.S3 x0_3 x1_3 x2_3)) = spec_l27Plain.l3 k := by funext x0_3 x1_3 x2_3; exact (spec_l27Plain.run k) x0_3 x1_3 x2_3
  have e : spec_l27Plain.spec k = ⟨spec_l27Plain.T.ps, spec_l27Plain.T.rs, spec_l27Plain.T.ev tyt spec_l27Plain.tbl k⟩ := congrArg (FnSpec.mk _ _) (funext fun x => ((spec_l27Plain.e k (spec_l27Plain.T.run tyt spec_l27Plain.tbl k) x.1 x.2).trans (by rw [q3]; rfl)).symm)
  rw [e]
  exact h
/-! ### spec_l1Stands: function 108 -/
def spec_l1Stands.b3 (o3 : ByteArray → Int → Int → Option (Bool)) (k : Nat) (x0_3 : ByteArray) (x1_3 : Int) (x2_3 : Int) : Option (Bool) := (if x2_3 < (x0_3.size : Int) then ((chk x0_3.size x2_3).bind fun i1 => (if (byteAt x0_3 i1) = x1_3 then (some true) else (o3 x0_3 x1_3 (w64 (x2_3 + 1))))) else (some false))
def spec_l1Stands.l3 : Nat → ByteArray → Int → Int → Option (Bool)
  | 0, _, _, _ => none
  | k + 1, x0_3, x1_3, x2_3 => spec_l1Stands.b3 (spec_l1Stands.l3 k) k x0_3 x1_3 x2_3
def spec_l1Stands.m (o3 : ByteArray → Int → Int → Option (Bool)) (k : Nat) (a0 : ByteArray) (a1 : Int) : Option (Bool) := (o3 a0 a1 0)
def spec_l1Stands.f (k : Nat) (a0 : ByteArray) (a1 : Int) : Option (Bool) := spec_l1Stands.m (spec_l1Stands.l3 k) k a0 a1
noncomputable def spec_l1Stands.spec (k : Nat) : FnSpec := ⟨[.d .str none, .d (.int .u8) none], [.d .bool none], fun x => spec_l1Stands.f k x.1 x.2⟩
def spec_l1Stands.S3 (x0_3 : ByteArray) (x1_3 : Int) (x2_3 : Int) : St := ⟨[(0, .val .str x0_3), (1, .val (.int .u8) x1_3), (5, .val (.int .i64) x2_3)], [], 1000⟩
noncomputable def spec_l1Stands.T : FnText := ⟨(conv [] (bodyOf Go.Proofs.Try.f108) 0).1, Go.Proofs.Try.f108.results.toList, 17, [(3, [(0, .rd .str), (1, .rd (.int .u8)), (5, .rd (.int .i64))])], [.d .str none, .d (.int .u8) none], [.d .bool none]⟩
noncomputable def spec_l1Stands.tbl (k : Nat) : Tbl := []
theorem spec_l1Stands.e3 (k : Nat) (o : Nat → St → Option (Bool)) (x0_3 : ByteArray) (x1_3 : Int) (x2_3 : Int) : spec_l1Stands.T.step tyt (spec_l1Stands.tbl k) o 3 (spec_l1Stands.S3 x0_3 x1_3 x2_3) = spec_l1Stands.b3 (fun x0_3 x1_3 x2_3 => o 3 (spec_l1Stands.S3 x0_3 x1_3 x2_3)) k x0_3 x1_3 x2_3 := by kernel_rfl
theorem spec_l1Stands.e (k : Nat) (o : Nat → St → Option (Bool)) (a0 : ByteArray) (a1 : Int) : spec_l1Stands.T.main tyt (spec_l1Stands.tbl k) o (a0, a1) = spec_l1Stands.m (fun x0_3 x1_3 x2_3 => o 3 (spec_l1Stands.S3 x0_3 x1_3 x2_3)) k a0 a1 := by kernel_rfl
theorem spec_l1Stands.ok : spec_l1Stands.T.ok = true := by kernel_rfl
theorem spec_l1Stands.run (k : Nat) : (∀ (x0_3 : ByteArray) (x1_3 : Int) (x2_3 : Int), spec_l1Stands.T.run tyt spec_l1Stands.tbl k 3 (spec_l1Stands.S3 x0_3 x1_3 x2_3) = spec_l1Stands.l3 k x0_3 x1_3 x2_3) := by
  induction k with
  | zero => exact fun x0_3 x1_3 x2_3 => rfl
  | succ k ih =>
    exact fun x0_3 x1_3 x2_3 => by
      have q3 : (fun x0_3 x1_3 x2_3 => spec_l1Stands.T.run tyt spec_l1Stands.tbl k 3 (spec_l1Stands.S3 x0_3 x1_3 x2_3)) = spec_l1Stands.l3 k := by funext x0_3 x1_3 x2_3; exact ih x0_3 x1_3 x2_3
      exact (spec_l1Stands.e3 k (spec_l1Stands.T.run tyt spec_l1Stands.tbl k) x0_3 x1_3 x2_3).trans (by rw [q3]; rfl)
theorem spec_l1Stands.tblok (k : Nat) : TblOk Go.Proofs.Try.prog (spec_l1Stands.tbl k) := TblOk.nil _
theorem spec_l1Stands.sound (k : Nat) : Sound Go.Proofs.Try.prog 108 (spec_l1Stands.spec k) := by
  have h := fn_ok (F := spec_l1Stands.T) (tbl := spec_l1Stands.tbl) mixed tyok Go.Proofs.Try.func108 (by kernel_rfl) (c0 := bodyOf Go.Proofs.Try.f108) rfl (conv_code _ _ _) rfl rfl spec_l1Stands.ok k (fun j _ => spec_l1Stands.tblok j)
  have q3 : (fun x0_3 x1_3 x2_3 => spec_l1Stands.T.run tyt spec_l1Stands.tbl k 3 (spec_l1Stands.S3 x0_3 x1_3 x2_3)) = spec_l1Stands.l3 k := by funext x0_3 x1_3 x2_3; exact (spec_l1Stands.run k) x0_3 x1_3 x2_3
  have e : spec_l1Stands.spec k = ⟨spec_l1Stands.T.ps, spec_l1Stands.T.rs, spec_l1Stands.T.ev tyt spec_l1Stands.tbl k⟩ := congrArg (FnSpec.mk _ _) (funext fun x => ((spec_l1Stands.e k (spec_l1Stands.T.run tyt spec_l1Stands.tbl k) x.1 x.2).trans (by rw [q3]; rfl)).symm)
  rw [e]
  exact h
/-! ### spec_l27Good: function 66 -/
def spec_l27Good.m (k : Nat) (a0_0 : ByteArray) (a0_1 : ByteArray) : Option (Bool) := (if ¬ a0_0 = (⟨#[]⟩ : ByteArray) then ((spec_l27Plain.f k a0_0 160).bind fun r1 => (cond r1 ((spec_l1Stands.f k a0_0 64).bind fun r2 => (cond (!r2) ((spec_l27Plain.f k a0_1 200).bind fun r3 => (some r3)) (some false))) (some false))) else (some false))
def spec_l27Good.f (k : Nat) (a0_0 : ByteArray) (a0_1 : ByteArray) : Option (Bool) := spec_l27Good.m k a0_0 a0_1
noncomputable def spec_l27Good.spec (k : Nat) : FnSpec := ⟨[.ag [.d .str none, .d .str none]], [.d .bool none], fun x => spec_l27Good.f k x.1 x.2⟩
noncomputable def spec_l27Good.T : FnText := ⟨(conv [] (bodyOf Go.Proofs.Try.f66) 0).1, Go.Proofs.Try.f66.results.toList, 22, [], [.ag [.d .str none, .d .str none]], [.d .bool none]⟩
noncomputable def spec_l27Good.tbl (k : Nat) : Tbl := [(107, spec_l27Plain.spec k), (108, spec_l1Stands.spec k)]
theorem spec_l27Good.e (k : Nat) (o : Nat → St → Option (Bool)) (a0_0 : ByteArray) (a0_1 : ByteArray) : spec_l27Good.T.main tyt (spec_l27Good.tbl k) o (a0_0, a0_1) = spec_l27Good.m k a0_0 a0_1 := by kernel_rfl
theorem spec_l27Good.ok : spec_l27Good.T.ok = true := by kernel_rfl
theorem spec_l27Good.tblok (k : Nat) : TblOk Go.Proofs.Try.prog (spec_l27Good.tbl k) := TblOk.cons (spec_l27Plain.sound k) (TblOk.cons (spec_l1Stands.sound k) (TblOk.nil _))
theorem spec_l27Good.sound (k : Nat) : Sound Go.Proofs.Try.prog 66 (spec_l27Good.spec k) := by
  have h := fn_ok (F := spec_l27Good.T) (tbl := spec_l27Good.tbl) mixed tyok Go.Proofs.Try.func66 (by kernel_rfl) (c0 := bodyOf Go.Proofs.Try.f66) rfl (conv_code _ _ _) rfl rfl spec_l27Good.ok k (fun j _ => spec_l27Good.tblok j)
  have e : spec_l27Good.spec k = ⟨spec_l27Good.T.ps, spec_l27Good.T.rs, spec_l27Good.T.ev tyt spec_l27Good.tbl k⟩ := congrArg (FnSpec.mk _ _) (funext fun x => ((spec_l27Good.e k (spec_l27Good.T.run tyt spec_l27Good.tbl k) x.1 x.2).trans (by rfl)).symm)
  rw [e]
  exact h
/-! ### spec_IsValidRecord: function 28 -/
def spec_IsValidRecord.m (k : Nat) (a0_0 : ByteArray) (a0_1 : ByteArray) : Option (Bool) := ((spec_l27Good.f k a0_0 a0_1).bind fun r1 => (some r1))
def spec_IsValidRecord.f (k : Nat) (a0_0 : ByteArray) (a0_1 : ByteArray) : Option (Bool) := spec_IsValidRecord.m k a0_0 a0_1
noncomputable def spec_IsValidRecord.spec (k : Nat) : FnSpec := ⟨[.ag [.d .str none, .d .str none]], [.d .bool none], fun x => spec_IsValidRecord.f k x.1 x.2⟩
noncomputable def spec_IsValidRecord.T : FnText := ⟨(conv [] (bodyOf Go.Proofs.Try.f28) 0).1, Go.Proofs.Try.f28.results.toList, 5, [], [.ag [.d .str none, .d .str none]], [.d .bool none]⟩
noncomputable def spec_IsValidRecord.tbl (k : Nat) : Tbl := [(66, spec_l27Good.spec k)]
theorem spec_IsValidRecord.e (k : Nat) (o : Nat → St → Option (Bool)) (a0_0 : ByteArray) (a0_1 : ByteArray) : spec_IsValidRecord.T.main tyt (spec_IsValidRecord.tbl k) o (a0_0, a0_1) = spec_IsValidRecord.m k a0_0 a0_1 := by kernel_rfl
theorem spec_IsValidRecord.ok : spec_IsValidRecord.T.ok = true := by kernel_rfl
theorem spec_IsValidRecord.tblok (k : Nat) : TblOk Go.Proofs.Try.prog (spec_IsValidRecord.tbl k) := TblOk.cons (spec_l27Good.sound k) (TblOk.nil _)
theorem spec_IsValidRecord.sound (k : Nat) : Sound Go.Proofs.Try.prog 28 (spec_IsValidRecord.spec k) := by
  have h := fn_ok (F := spec_IsValidRecord.T) (tbl := spec_IsValidRecord.tbl) mixed tyok Go.Proofs.Try.func28 (by kernel_rfl) (c0 := bodyOf Go.Proofs.Try.f28) rfl (conv_code _ _ _) rfl rfl spec_IsValidRecord.ok k (fun j _ => spec_IsValidRecord.tblok j)
  have e : spec_IsValidRecord.spec k = ⟨spec_IsValidRecord.T.ps, spec_IsValidRecord.T.rs, spec_IsValidRecord.T.ev tyt spec_IsValidRecord.tbl k⟩ := congrArg (FnSpec.mk _ _) (funext fun x => ((spec_IsValidRecord.e k (spec_IsValidRecord.T.run tyt spec_IsValidRecord.tbl k) x.1 x.2).trans (by rfl)).symm)
  rw [e]
  exact h
/-! ### impl_in: function 67 -/
def impl_in.m (k : Nat) (a0 : Int) (a1 : Int) (a2 : Int) : Option (Bool) := (if a1 ≤ a0 then (some (decide (a0 ≤ a2))) else (some false))
def impl_in.f (k : Nat) (a0 : Int) (a1 : Int) (a2 : Int) : Option (Bool) := impl_in.m k a0 a1 a2
noncomputable def impl_in.spec (k : Nat) : FnSpec := ⟨[.d (.int .i64) none, .d (.int .i64) none, .d (.int .i64) none], [.d .bool none], fun x => impl_in.f k x.1 x.2.1 x.2.2⟩
noncomputable def impl_in.T : FnText := ⟨(conv [] (bodyOf Go.Proofs.Try.f67) 0).1, Go.Proofs.Try.f67.results.toList, 15, [], [.d (.int .i64) none, .d (.int .i64) none, .d (.int .i64) none], [.d .bool none]⟩
noncomputable def impl_in.tbl (k : Nat) : Tbl := []
theorem impl_in.e (k : Nat) (o : Nat → St → Option (Bool)) (a0 : Int) (a1 : Int) (a2 : Int) : impl_in.T.main tyt (impl_in.tbl k) o (a0, a1, a2) = impl_in.m k a0 a1 a2 := by kernel_rfl
theorem impl_in.ok : impl_in.T.ok = true := by kernel_rfl
theorem impl_in.tblok (k : Nat) : TblOk Go.Proofs.Try.prog (impl_in.tbl k) := TblOk.nil _
theorem impl_in.sound (k : Nat) : Sound Go.Proofs.Try.prog 67 (impl_in.spec k) := by
  have h := fn_ok (F := impl_in.T) (tbl := impl_in.tbl) mixed tyok Go.Proofs.Try.func67 (by kernel_rfl) (c0 := bodyOf Go.Proofs.Try.f67) rfl (conv_code _ _ _) rfl rfl impl_in.ok k (fun j _ => impl_in.tblok j)
  have e : impl_in.spec k = ⟨impl_in.T.ps, impl_in.T.rs, impl_in.T.ev tyt impl_in.tbl k⟩ := congrArg (FnSpec.mk _ _) (funext fun x => ((impl_in.e k (impl_in.T.run tyt impl_in.tbl k) x.1 x.2.1 x.2.2).trans (by rfl)).symm)
  rw [e]
  exact h
/-! ### impl_isPlain_1: function 110 -/
def impl_isPlain_1.m (k : Nat) (a0 : Int) : Option (Bool) := (if 32 ≤ a0 then (if a0 ≤ 126 then (some (decide (¬ a0 = 35))) else (some false)) else (some false))
def impl_isPlain_1.f (k : Nat) (a0 : Int) : Option (Bool) := impl_isPlain_1.m k a0
noncomputable def impl_isPlain_1.spec (k : Nat) : FnSpec := ⟨[.d (.int .u8) none], [.d .bool none], fun x => impl_isPlain_1.f k x⟩
noncomputable def impl_isPlain_1.T : FnText := ⟨(conv [] (bodyOf Go.Proofs.Try.f110) 0).1, Go.Proofs.Try.f110.results.toList, 13, [], [.d (.int .u8) none], [.d .bool none]⟩
noncomputable def impl_isPlain_1.tbl (k : Nat) : Tbl := []
theorem impl_isPlain_1.e (k : Nat) (o : Nat → St → Option (Bool)) (a0 : Int) : impl_isPlain_1.T.main tyt (impl_isPlain_1.tbl k) o a0 = impl_isPlain_1.m k a0 := by kernel_rfl
theorem impl_isPlain_1.ok : impl_isPlain_1.T.ok = true := by kernel_rfl
theorem impl_isPlain_1.tblok (k : Nat) : TblOk Go.Proofs.Try.prog (impl_isPlain_1.tbl k) := TblOk.nil _
theorem impl_isPlain_1.sound (k : Nat) : Sound Go.Proofs.Try.prog 110 (impl_isPlain_1.spec k) := by
  have h := fn_ok (F := impl_isPlain_1.T) (tbl := impl_isPlain_1.tbl) mixed tyok Go.Proofs.Try.func110 (by kernel_rfl) (c0 := bodyOf Go.Proofs.Try.f110) rfl (conv_code _ _ _) rfl rfl impl_isPlain_1.ok k (fun j _ => impl_isPlain_1.tblok j)
  have e : impl_isPlain_1.spec k = ⟨impl_isPlain_1.T.ps, impl_isPlain_1.T.rs, impl_isPlain_1.T.ev tyt impl_isPlain_1.tbl k⟩ := congrArg (FnSpec.mk _ _) (funext fun x => ((impl_isPlain_1.e k (impl_isPlain_1.T.run tyt impl_isPlain_1.tbl k) x).trans (by rfl)).symm)
  rw [e]
  exact h
/-! ### impl_areAll_byte_1__impl_isPlain_1: function 130 -/
def impl_areAll_byte_1__impl_isPlain_1.m (k : Nat) (a0 : Int) : Option (Bool) := ((impl_isPlain_1.f k a0).bind fun r1 => (some (!r1)))
def impl_areAll_byte_1__impl_isPlain_1.f (k : Nat) (a0 : Int) : Option (Bool) := impl_areAll_byte_1__impl_isPlain_1.m k a0
noncomputable def impl_areAll_byte_1__impl_isPlain_1.spec (k : Nat) : FnSpec := ⟨[.d (.int .u8) none, .rb [.fv 110 [] []]], [.d .bool none], fun x => impl_areAll_byte_1__impl_isPlain_1.f k x⟩
noncomputable def impl_areAll_byte_1__impl_isPlain_1.T : FnText := ⟨(conv [] (bodyOf Go.Proofs.Try.f130) 0).1, Go.Proofs.Try.f130.results.toList, 8, [], [.d (.int .u8) none, .rb [.fv 110 [] []]], [.d .bool none]⟩
noncomputable def impl_areAll_byte_1__impl_isPlain_1.tbl (k : Nat) : Tbl := [(110, impl_isPlain_1.spec k)]
theorem impl_areAll_byte_1__impl_isPlain_1.e (k : Nat) (o : Nat → St → Option (Bool)) (a0 : Int) : impl_areAll_byte_1__impl_isPlain_1.T.main tyt (impl_areAll_byte_1__impl_isPlain_1.tbl k) o a0 = impl_areAll_byte_1__impl_isPlain_1.m k a0 := by kernel_rfl
theorem impl_areAll_byte_1__impl_isPlain_1.ok : impl_areAll_byte_1__impl_isPlain_1.T.ok = true := by kernel_rfl
theorem impl_areAll_byte_1__impl_isPlain_1.tblok (k : Nat) : TblOk Go.Proofs.Try.prog (impl_areAll_byte_1__impl_isPlain_1.tbl k) := TblOk.cons (impl_isPlain_1.sound k) (TblOk.nil _)
theorem impl_areAll_byte_1__impl_isPlain_1.sound (k : Nat) : Sound Go.Proofs.Try.prog 130 (impl_areAll_byte_1__impl_isPlain_1.spec k) := by
  have h := fn_ok (F := impl_areAll_byte_1__impl_isPlain_1.T) (tbl := impl_areAll_byte_1__impl_isPlain_1.tbl) mixed tyok Go.Proofs.Try.func130 (by kernel_rfl) (c0 := bodyOf Go.Proofs.Try.f130) rfl (conv_code _ _ _) rfl rfl impl_areAll_byte_1__impl_isPlain_1.ok k (fun j _ => impl_areAll_byte_1__impl_isPlain_1.tblok j)
  have e : impl_areAll_byte_1__impl_isPlain_1.spec k = ⟨impl_areAll_byte_1__impl_isPlain_1.T.ps, impl_areAll_byte_1__impl_isPlain_1.T.rs, impl_areAll_byte_1__impl_isPlain_1.T.ev tyt impl_areAll_byte_1__impl_isPlain_1.tbl k⟩ := congrArg (FnSpec.mk _ _) (funext fun x => ((impl_areAll_byte_1__impl_isPlain_1.e k (impl_areAll_byte_1__impl_isPlain_1.T.run tyt impl_areAll_byte_1__impl_isPlain_1.tbl k) x).trans (by rfl)).symm)
  rw [e]
  exact h
/-! ### slices_IndexFunc_byte_byte__impl_areAll_byte_1__impl_isPlain_1: function 138 -/
def slices_IndexFunc_byte_byte__impl_areAll_byte_1__impl_isPlain_1.b3 (o3 : List Int → Int → Int → Option (Int)) (k : Nat) (l0_3 : List Int) (x1_3 : Int) (x2_3 : Int) : Option (Int) := (if x2_3 < x1_3 then ((chk l0_3.length x2_3).bind fun i1 => ((impl_areAll_byte_1__impl_isPlain_1.f k (l0_3.getD i1 0)).bind fun r2 => (cond r2 (some x2_3) (o3 l0_3 x1_3 (w64 (x2_3 + 1)))))) else (some (-1)))
def slices_IndexFunc_byte_byte__impl_areAll_byte_1__impl_isPlain_1.l3 : Nat → List Int → Int → Int → Option (Int)
  | 0, _, _, _ => none
  | k + 1, l0_3, x1_3, x2_3 => slices_IndexFunc_byte_byte__impl_areAll_byte_1__impl_isPlain_1.b3 (slices_IndexFunc_byte_byte__impl_areAll_byte_1__impl_isPlain_1.l3 k) k l0_3 x1_3 x2_3
def slices_IndexFunc_byte_byte__impl_areAll_byte_1__impl_isPlain_1.m (o3 : List Int → Int → Int → Option (Int)) (k : Nat) (l0 : List Int) : Option (Int) := (o3 l0 (l0.length : Int) 0)
def slices_IndexFunc_byte_byte__impl_areAll_byte_1__impl_isPlain_1.f (k : Nat) (l0 : List Int) : Option (Int) := slices_IndexFunc_byte_byte__impl_areAll_byte_1__impl_isPlain_1.m (slices_IndexFunc_byte_byte__impl_areAll_byte_1__impl_isPlain_1.l3 k) k l0
noncomputable def slices_IndexFunc_byte_byte__impl_areAll_byte_1__impl_isPlain_1.spec (k : Nat) : FnSpec := ⟨[.d (.sl (.int .u8)) none, .fv 130 [] [.rb [.fv 110 [] []]]], [.d (.int .i64) none], fun x => slices_IndexFunc_byte_byte__impl_areAll_byte_1__impl_isPlain_1.f k x⟩
def slices_IndexFunc_byte_byte__impl_areAll_byte_1__impl_isPlain_1.S3 (l0_3 : List Int) (x1_3 : Int) (x2_3 : Int) : St := ⟨[(0, .val (.sl (.int .u8)) l0_3), (1, .fn 130 [] [.cptr [.fn 110 [] []] 0]), (7, .val (.int .i64) x1_3), (8, .val (.int .i64) x2_3)], [], 1000⟩
noncomputable def slices_IndexFunc_byte_byte__impl_areAll_byte_1__impl_isPlain_1.T : FnText := ⟨(conv [] (bodyOf Go.Proofs.Try.f138) 0).1, Go.Proofs.Try.f138.results.toList, 19, [(3, [(0, .rd (.sl (.int .u8))), (1, .as), (7, .rd (.int .i64)), (8, .rd (.int .i64))])], [.d (.sl (.int .u8)) none, .fv 130 [] [.rb [.fv 110 [] []]]], [.d (.int .i64) none]⟩
noncomputable def slices_IndexFunc_byte_byte__impl_areAll_byte_1__impl_isPlain_1.tbl (k : Nat) : Tbl := [(130, impl_areAll_byte_1__impl_isPlain_1.spec k)]
theorem slices_IndexFunc_byte_byte__impl_areAll_byte_1__impl_isPlain_1.e3 (k : Nat) (o : Nat → St → Option (Int)) (l0_3 : List Int) (x1_3 : Int) (x2_3 : Int) : slices_IndexFunc_byte_byte__impl_areAll_byte_1__impl_isPlain_1.T.step tyt (slices_IndexFunc_byte_byte__impl_areAll_byte_1__impl_isPlain_1.tbl k) o 3 (slices_IndexFunc_byte_byte__impl_areAll_byte_1__impl_isPlain_1.S3 l0_3 x1_3 x2_3) = slices_IndexFunc_byte_byte__impl_areAll_byte_1__impl_isPlain_1.b3 (fun l0_3 x1_3 x2_3 => o 3 (slices_IndexFunc_byte_byte__impl_areAll_byte_1__impl_isPlain_1.S3 l0_3 x1_3 x2_3)) k l0_3 x1_3 x2_3 := by kernel_rfl
theorem slices_IndexFunc_byte_byte__impl_areAll_byte_1__impl_isPlain_1.e (k : Nat) (o : Nat → St → Option (Int)) (l0 : List Int) : slices_IndexFunc_byte_byte__impl_areAll_byte_1__impl_isPlain_1.T.main tyt (slices_IndexFunc_byte_byte__impl_areAll_byte_1__impl_isPlain_1.tbl k) o l0 = slices_IndexFunc_byte_byte__impl_areAll_byte_1__impl_isPlain_1.m (fun l0_3 x1_3 x2_3 => o 3 (slices_IndexFunc_byte_byte__impl_areAll_byte_1__impl_isPlain_1.S3 l0_3 x1_3 x2_3)) k l0 := by kernel_rfl
theorem slices_IndexFunc_byte_byte__impl_areAll_byte_1__impl_isPlain_1.ok : slices_IndexFunc_byte_byte__impl_areAll_byte_1__impl_isPlain_1.T.ok = true := by kernel_rfl
theorem slices_IndexFunc_byte_byte__impl_areAll_byte_1__impl_isPlain_1.run (k : Nat) : (∀ (l0_3 : List Int) (x1_3 : Int) (x2_3 : Int), slices_IndexFunc_byte_byte__impl_areAll_byte_1__impl_isPlain_1.T.run tyt slices_IndexFunc_byte_byte__impl_areAll_byte_1__impl_isPlain_1.tbl k 3 (slices_IndexFunc_byte_byte__impl_areAll_byte_1__impl_isPlain_1.S3 l0_3 x1_3 x2_3) = slices_IndexFunc_byte_byte__impl_areAll_byte_1__impl_isPlain_1.l3 k l0_3 x1_3 x2_3) := by
  induction k with
  | zero => exact fun l0_3 x1_3 x2_3 => rfl
  | succ k ih =>
    exact fun l0_3 x1_3 x2_3 => by
      have q3 : (fun l0_3 x1_3 x2_3 => slices_IndexFunc_byte_byte__impl_areAll_byte_1__impl_isPlain_1.T.run tyt slices_IndexFunc_byte_byte__impl_areAll_byte_1__impl_isPlain_1.tbl k 3 (slices_IndexFunc_byte_byte__impl_areAll_byte_1__impl_isPlain_1.S3 l0_3 x1_3 x2_3)) = slices_IndexFunc_byte_byte__impl_areAll_byte_1__impl_isPlain_1.l3 k := by funext l0_3 x1_3 x2_3; exact ih l0_3 x1_3 x2_3
      exact (slices_IndexFunc_byte_byte__impl_areAll_byte_1__impl_isPlain_1.e3 k (slices_IndexFunc_byte_byte__impl_areAll_byte_1__impl_isPlain_1.T.run tyt slices_IndexFunc_byte_byte__impl_areAll_byte_1__impl_isPlain_1.tbl k) l0_3 x1_3 x2_3).trans (by rw [q3]; rfl)
theorem slices_IndexFunc_byte_byte__impl_areAll_byte_1__impl_isPlain_1.tblok (k : Nat) : TblOk Go.Proofs.Try.prog (slices_IndexFunc_byte_byte__impl_areAll_byte_1__impl_isPlain_1.tbl k) := TblOk.cons (impl_areAll_byte_1__impl_isPlain_1.sound k) (TblOk.nil _)
theorem slices_IndexFunc_byte_byte__impl_areAll_byte_1__impl_isPlain_1.sound (k : Nat) : Sound Go.Proofs.Try.prog 138 (slices_IndexFunc_byte_byte__impl_areAll_byte_1__impl_isPlain_1.spec k) := by
  have h := fn_ok (F := slices_IndexFunc_byte_byte__impl_areAll_byte_1__impl_isPlain_1.T) (tbl := slices_IndexFunc_byte_byte__impl_areAll_byte_1__impl_isPlain_1.tbl) mixed tyok Go.Proofs.Try.func138 (by kernel_rfl) (c0 := bodyOf Go.Proofs.Try.f138) rfl (conv_code _ _ _) rfl rfl slices_IndexFunc_byte_byte__impl_areAll_byte_1__impl_isPlain_1.ok k (fun j _ => slices_IndexFunc_byte_byte__impl_areAll_byte_1__impl_isPlain_1.tblok j)
  have q3 : (fun l0_3 x1_3 x2_3 => slices_IndexFunc_byte_byte__impl_areAll_byte_1__impl_isPlain_1.T.run tyt slices_IndexFunc_byte_byte__impl_areAll_byte_1__impl_isPlain_1.tbl k 3 (slices_IndexFunc_byte_byte__impl_areAll_byte_1__impl_isPlain_1.S3 l0_3 x1_3 x2_3)) = slices_IndexFunc_byte_byte__impl_areAll_byte_1__impl_isPlain_1.l3 k := by funext l0_3 x1_3 x2_3; exact (slices_IndexFunc_byte_byte__impl_areAll_byte_1__impl_isPlain_1.run k) l0_3 x1_3 x2_3
  have e : slices_IndexFunc_byte_byte__impl_areAll_byte_1__impl_isPlain_1.spec k = ⟨slices_IndexFunc_byte_byte__impl_areAll_byte_1__impl_isPlain_1.T.ps, slices_IndexFunc_byte_byte__impl_areAll_byte_1__impl_isPlain_1.T.rs, slices_IndexFunc_byte_byte__impl_areAll_byte_1__impl_isPlain_1.T.ev tyt slices_IndexFunc_byte_byte__impl_areAll_byte_1__impl_isPlain_1.tbl k⟩ := congrArg (FnSpec.mk _ _) (funext fun x => ((slices_IndexFunc_byte_byte__impl_areAll_byte_1__impl_isPlain_1.e k (slices_IndexFunc_byte_byte__impl_areAll_byte_1__impl_isPlain_1.T.run tyt slices_IndexFunc_byte_byte__impl_areAll_byte_1__impl_isPlain_1.tbl k) x).trans (by rw [q3]; rfl)).symm)
  rw [e]
  exact h
/-! ### slices_ContainsFunc_byte_byte__impl_areAll_byte_1__impl_isPlain_1: function 129 -/
def slices_ContainsFunc_byte_byte__impl_areAll_byte_1__impl_isPlain_1.m (k : Nat) (l0 : List Int) : Option (Bool) := ((slices_IndexFunc_byte_byte__impl_areAll_byte_1__impl_isPlain_1.f k l0).bind fun r1 => (some (decide (0 ≤ r1))))
def slices_ContainsFunc_byte_byte__impl_areAll_byte_1__impl_isPlain_1.f (k : Nat) (l0 : List Int) : Option (Bool) := slices_ContainsFunc_byte_byte__impl_areAll_byte_1__impl_isPlain_1.m k l0
noncomputable def slices_ContainsFunc_byte_byte__impl_areAll_byte_1__impl_isPlain_1.spec (k : Nat) : FnSpec := ⟨[.d (.sl (.int .u8)) none, .fv 130 [] [.rb [.fv 110 [] []]]], [.d .bool none], fun x => slices_ContainsFunc_byte_byte__impl_areAll_byte_1__impl_isPlain_1.f k x⟩
noncomputable def slices_ContainsFunc_byte_byte__impl_areAll_byte_1__impl_isPlain_1.T : FnText := ⟨(conv [] (bodyOf Go.Proofs.Try.f129) 0).1, Go.Proofs.Try.f129.results.toList, 9, [], [.d (.sl (.int .u8)) none, .fv 130 [] [.rb [.fv 110 [] []]]], [.d .bool none]⟩
noncomputable def slices_ContainsFunc_byte_byte__impl_areAll_byte_1__impl_isPlain_1.tbl (k : Nat) : Tbl := [(138, slices_IndexFunc_byte_byte__impl_areAll_byte_1__impl_isPlain_1.spec k)]
theorem slices_ContainsFunc_byte_byte__impl_areAll_byte_1__impl_isPlain_1.e (k : Nat) (o : Nat → St → Option (Bool)) (l0 : List Int) : slices_ContainsFunc_byte_byte__impl_areAll_byte_1__impl_isPlain_1.T.main tyt (slices_ContainsFunc_byte_byte__impl_areAll_byte_1__impl_isPlain_1.tbl k) o l0 = slices_ContainsFunc_byte_byte__impl_areAll_byte_1__impl_isPlain_1.m k l0 := by kernel_rfl
theorem slices_ContainsFunc_byte_byte__impl_areAll_byte_1__impl_isPlain_1.ok : slices_ContainsFunc_byte_byte__impl_areAll_byte_1__impl_isPlain_1.T.ok = true := by kernel_rfl
theorem slices_ContainsFunc_byte_byte__impl_areAll_byte_1__impl_isPlain_1.tblok (k : Nat) : TblOk Go.Proofs.Try.prog (slices_ContainsFunc_byte_byte__impl_areAll_byte_1__impl_isPlain_1.tbl k) := TblOk.cons (slices_IndexFunc_byte_byte__impl_areAll_byte_1__impl_isPlain_1.sound k) (TblOk.nil _)
theorem slices_ContainsFunc_byte_byte__impl_areAll_byte_1__impl_isPlain_1.sound (k : Nat) : Sound Go.Proofs.Try.prog 129 (slices_ContainsFunc_byte_byte__impl_areAll_byte_1__impl_isPlain_1.spec k) := by
  have h := fn_ok (F := slices_ContainsFunc_byte_byte__impl_areAll_byte_1__impl_isPlain_1.T) (tbl := slices_ContainsFunc_byte_byte__impl_areAll_byte_1__impl_isPlain_1.tbl) mixed tyok Go.Proofs.Try.func129 (by kernel_rfl) (c0 := bodyOf Go.Proofs.Try.f129) rfl (conv_code _ _ _) rfl rfl slices_ContainsFunc_byte_byte__impl_areAll_byte_1__impl_isPlain_1.ok k (fun j _ => slices_ContainsFunc_byte_byte__impl_areAll_byte_1__impl_isPlain_1.tblok j)
  have e : slices_ContainsFunc_byte_byte__impl_areAll_byte_1__impl_isPlain_1.spec k = ⟨slices_ContainsFunc_byte_byte__impl_areAll_byte_1__impl_isPlain_1.T.ps, slices_ContainsFunc_byte_byte__impl_areAll_byte_1__impl_isPlain_1.T.rs, slices_ContainsFunc_byte_byte__impl_areAll_byte_1__impl_isPlain_1.T.ev tyt slices_ContainsFunc_byte_byte__impl_areAll_byte_1__impl_isPlain_1.tbl k⟩ := congrArg (FnSpec.mk _ _) (funext fun x => ((slices_ContainsFunc_byte_byte__impl_areAll_byte_1__impl_isPlain_1.e k (slices_ContainsFunc_byte_byte__impl_areAll_byte_1__impl_isPlain_1.T.run tyt slices_ContainsFunc_byte_byte__impl_areAll_byte_1__impl_isPlain_1.tbl k) x).trans (by rfl)).symm)
  rw [e]
  exact h
/-! ### impl_areAll_byte__impl_isPlain_1: function 109 -/
def impl_areAll_byte__impl_isPlain_1.m (k : Nat) (l0 : List Int) : Option (Bool) := ((slices_ContainsFunc_byte_byte__impl_areAll_byte_1__impl_isPlain_1.f k l0).bind fun r1 => (some (!r1)))
def impl_areAll_byte__impl_isPlain_1.f (k : Nat) (l0 : List Int) : Option (Bool) := impl_areAll_byte__impl_isPlain_1.m k l0
noncomputable def impl_areAll_byte__impl_isPlain_1.spec (k : Nat) : FnSpec := ⟨[.d (.sl (.int .u8)) none, .fv 110 [] []], [.d .bool none], fun x => impl_areAll_byte__impl_isPlain_1.f k x⟩
noncomputable def impl_areAll_byte__impl_isPlain_1.T : FnText := ⟨(conv [] (bodyOf Go.Proofs.Try.f109) 0).1, Go.Proofs.Try.f109.results.toList, 9, [], [.d (.sl (.int .u8)) none, .fv 110 [] []], [.d .bool none]⟩
noncomputable def impl_areAll_byte__impl_isPlain_1.tbl (k : Nat) : Tbl := [(129, slices_ContainsFunc_byte_byte__impl_areAll_byte_1__impl_isPlain_1.spec k)]
theorem impl_areAll_byte__impl_isPlain_1.e (k : Nat) (o : Nat → St → Option (Bool)) (l0 : List Int) : impl_areAll_byte__impl_isPlain_1.T.main tyt (impl_areAll_byte__impl_isPlain_1.tbl k) o l0 = impl_areAll_byte__impl_isPlain_1.m k l0 := by kernel_rfl
theorem impl_areAll_byte__impl_isPlain_1.ok : impl_areAll_byte__impl_isPlain_1.T.ok = true := by kernel_rfl
theorem impl_areAll_byte__impl_isPlain_1.tblok (k : Nat) : TblOk Go.Proofs.Try.prog (impl_areAll_byte__impl_isPlain_1.tbl k) := TblOk.cons (slices_ContainsFunc_byte_byte__impl_areAll_byte_1__impl_isPlain_1.sound k) (TblOk.nil _)
theorem impl_areAll_byte__impl_isPlain_1.sound (k : Nat) : Sound Go.Proofs.Try.prog 109 (impl_areAll_byte__impl_isPlain_1.spec k) := by
  have h := fn_ok (F := impl_areAll_byte__impl_isPlain_1.T) (tbl := impl_areAll_byte__impl_isPlain_1.tbl) mixed tyok Go.Proofs.Try.func109 (by kernel_rfl) (c0 := bodyOf Go.Proofs.Try.f109) rfl (conv_code _ _ _) rfl rfl impl_areAll_byte__impl_isPlain_1.ok k (fun j _ => impl_areAll_byte__impl_isPlain_1.tblok j)
  have e : impl_areAll_byte__impl_isPlain_1.spec k = ⟨impl_areAll_byte__impl_isPlain_1.T.ps, impl_areAll_byte__impl_isPlain_1.T.rs, impl_areAll_byte__impl_isPlain_1.T.ev tyt impl_areAll_byte__impl_isPlain_1.tbl k⟩ := congrArg (FnSpec.mk _ _) (funext fun x => ((impl_areAll_byte__impl_isPlain_1.e k (impl_areAll_byte__impl_isPlain_1.T.run tyt impl_areAll_byte__impl_isPlain_1.tbl k) x).trans (by rfl)).symm)
  rw [e]
  exact h
/-! ### impl_isPlain: function 68 -/
def impl_isPlain.m (k : Nat) (a0 : ByteArray) : Option (Bool) := ((impl_areAll_byte__impl_isPlain_1.f k (bytesOf a0)).bind fun r1 => (some r1))
def impl_isPlain.f (k : Nat) (a0 : ByteArray) : Option (Bool) := impl_isPlain.m k a0
noncomputable def impl_isPlain.spec (k : Nat) : FnSpec := ⟨[.d .str none], [.d .bool none], fun x => impl_isPlain.f k x⟩
noncomputable def impl_isPlain.T : FnText := ⟨(conv [] (bodyOf Go.Proofs.Try.f68) 0).1, Go.Proofs.Try.f68.results.toList, 6, [], [.d .str none], [.d .bool none]⟩
noncomputable def impl_isPlain.tbl (k : Nat) : Tbl := [(109, impl_areAll_byte__impl_isPlain_1.spec k)]
theorem impl_isPlain.e (k : Nat) (o : Nat → St → Option (Bool)) (a0 : ByteArray) : impl_isPlain.T.main tyt (impl_isPlain.tbl k) o a0 = impl_isPlain.m k a0 := by kernel_rfl
theorem impl_isPlain.ok : impl_isPlain.T.ok = true := by kernel_rfl
theorem impl_isPlain.tblok (k : Nat) : TblOk Go.Proofs.Try.prog (impl_isPlain.tbl k) := TblOk.cons (impl_areAll_byte__impl_isPlain_1.sound k) (TblOk.nil _)
theorem impl_isPlain.sound (k : Nat) : Sound Go.Proofs.Try.prog 68 (impl_isPlain.spec k) := by
  have h := fn_ok (F := impl_isPlain.T) (tbl := impl_isPlain.tbl) mixed tyok Go.Proofs.Try.func68 (by kernel_rfl) (c0 := bodyOf Go.Proofs.Try.f68) rfl (conv_code _ _ _) rfl rfl impl_isPlain.ok k (fun j _ => impl_isPlain.tblok j)
  have e : impl_isPlain.spec k = ⟨impl_isPlain.T.ps, impl_isPlain.T.rs, impl_isPlain.T.ev tyt impl_isPlain.tbl k⟩ := congrArg (FnSpec.mk _ _) (funext fun x => ((impl_isPlain.e k (impl_isPlain.T.run tyt impl_isPlain.tbl k) x).trans (by rfl)).symm)
  rw [e]
  exact h
/-! ### strings_Contains: function 69, by its contract -/
def strings_Contains.f (k : Nat) (a0 : ByteArray) (a1 : ByteArray) : Option (Bool) := containsF a0 a1
noncomputable def strings_Contains.spec (k : Nat) : FnSpec := ⟨[.d .str none, .d .str none], [.d .bool none], fun x => strings_Contains.f k x.1 x.2⟩
theorem strings_Contains.sound (k : Nat) : Sound Go.Proofs.Try.prog 69 (strings_Contains.spec k) := strContains_ok

/-! ### impl_IsValidRecord: function 30 -/
def impl_IsValidRecord.b1 (k : Nat) (x0_1 : ByteArray) (x1_1 : ByteArray) (x2_1 : Bool) : Option (Bool) := (cond x2_1 (if (x1_1.size : Int) ≤ 200 then ((impl_isPlain.f k x1_1).bind fun r4 => (some r4)) else (some false)) (some false))
def impl_IsValidRecord.l1 : Nat → ByteArray → ByteArray → Bool → Option (Bool)
  | 0, _, _, _ => none
  | k + 1, x0_1, x1_1, x2_1 => impl_IsValidRecord.b1 k x0_1 x1_1 x2_1
def impl_IsValidRecord.m (o1 : ByteArray → ByteArray → Bool → Option (Bool)) (k : Nat) (a0_0 : ByteArray) (a0_1 : ByteArray) : Option (Bool) := ((impl_in.f k (a0_0.size : Int) 1 160).bind fun r1 => (cond r1 ((impl_isPlain.f k a0_0).bind fun r2 => (cond r2 ((strings_Contains.f k a0_0 (⟨#[64]⟩ : ByteArray)).bind fun r3 => (o1 a0_0 a0_1 (!r3))) (o1 a0_0 a0_1 false))) (o1 a0_0 a0_1 false)))
def impl_IsValidRecord.f (k : Nat) (a0_0 : ByteArray) (a0_1 : ByteArray) : Option (Bool) := impl_IsValidRecord.m (impl_IsValidRecord.l1 k) k a0_0 a0_1
noncomputable def impl_IsValidRecord.spec (k : Nat) : FnSpec := ⟨[.ag [.d .str none, .d .str none]], [.d .bool none], fun x => impl_IsValidRecord.f k x.1 x.2⟩
def impl_IsValidRecord.S1 (x0_1 : ByteArray) (x1_1 : ByteArray) (x2_1 : Bool) : St := ⟨[(1, .ptr 100 0), (3, .val .bool x2_1)], [(100, some (.box [.val .str x0_1, .val .str x1_1]))], 1000⟩
noncomputable def impl_IsValidRecord.T : FnText := ⟨(conv [1] (bodyOf Go.Proofs.Try.f30) 0).1, Go.Proofs.Try.f30.results.toList, 31, [(1, [(1, .bx 100 [.rd .str, .rd .str]), (3, .rd .bool)])], [.ag [.d .str none, .d .str none]], [.d .bool none]⟩
noncomputable def impl_IsValidRecord.tbl (k : Nat) : Tbl := [(67, impl_in.spec k), (68, impl_isPlain.spec k), (69, strings_Contains.spec k)]
theorem impl_IsValidRecord.e1 (k : Nat) (o : Nat → St → Option (Bool)) (x0_1 : ByteArray) (x1_1 : ByteArray) (x2_1 : Bool) : impl_IsValidRecord.T.step tyt (impl_IsValidRecord.tbl k) o 1 (impl_IsValidRecord.S1 x0_1 x1_1 x2_1) = impl_IsValidRecord.b1 k x0_1 x1_1 x2_1 := by kernel_rfl
theorem impl_IsValidRecord.e (k : Nat) (o : Nat → St → Option (Bool)) (a0_0 : ByteArray) (a0_1 : ByteArray) : impl_IsValidRecord.T.main tyt (impl_IsValidRecord.tbl k) o (a0_0, a0_1) = impl_IsValidRecord.m (fun x0_1 x1_1 x2_1 => o 1 (impl_IsValidRecord.S1 x0_1 x1_1 x2_1)) k a0_0 a0_1 := by kernel_rfl
theorem impl_IsValidRecord.ok : impl_IsValidRecord.T.ok = true := by kernel_rfl
theorem impl_IsValidRecord.run (k : Nat) : (∀ (x0_1 : ByteArray) (x1_1 : ByteArray) (x2_1 : Bool), impl_IsValidRecord.T.run tyt impl_IsValidRecord.tbl k 1 (impl_IsValidRecord.S1 x0_1 x1_1 x2_1) = impl_IsValidRecord.l1 k x0_1 x1_1 x2_1) := by
  induction k with
  | zero => exact fun x0_1 x1_1 x2_1 => rfl
  | succ k ih =>
    exact fun x0_1 x1_1 x2_1 => by
      exact (impl_IsValidRecord.e1 k (impl_IsValidRecord.T.run tyt impl_IsValidRecord.tbl k) x0_1 x1_1 x2_1).trans (by rfl)
theorem impl_IsValidRecord.tblok (k : Nat) : TblOk Go.Proofs.Try.prog (impl_IsValidRecord.tbl k) := TblOk.cons (impl_in.sound k) (TblOk.cons (impl_isPlain.sound k) (TblOk.cons (strings_Contains.sound k) (TblOk.nil _)))
theorem impl_IsValidRecord.sound (k : Nat) : Sound Go.Proofs.Try.prog 30 (impl_IsValidRecord.spec k) := by
  have h := fn_ok (F := impl_IsValidRecord.T) (tbl := impl_IsValidRecord.tbl) mixed tyok Go.Proofs.Try.func30 (by kernel_rfl) (c0 := bodyOf Go.Proofs.Try.f30) rfl (conv_code _ _ _) rfl rfl impl_IsValidRecord.ok k (fun j _ => impl_IsValidRecord.tblok j)
  have q1 : (fun x0_1 x1_1 x2_1 => impl_IsValidRecord.T.run tyt impl_IsValidRecord.tbl k 1 (impl_IsValidRecord.S1 x0_1 x1_1 x2_1)) = impl_IsValidRecord.l1 k := by funext x0_1 x1_1 x2_1; exact (impl_IsValidRecord.run k) x0_1 x1_1 x2_1
  have e : impl_IsValidRecord.spec k = ⟨impl_IsValidRecord.T.ps, impl_IsValidRecord.T.rs, impl_IsValidRecord.T.ev tyt impl_IsValidRecord.tbl k⟩ := congrArg (FnSpec.mk _ _) (funext fun x => ((impl_IsValidRecord.e k (impl_IsValidRecord.T.run tyt impl_IsValidRecord.tbl k) x.1 x.2).trans (by rw [q1]; rfl)).symm)
  rw [e]
  exact h
/-! ### laws_FnExactIsValidRecord: function 5 -/
def laws_FnExactIsValidRecord.m (k : Nat) (a0_0 : ByteArray) (a0_1 : ByteArray) : Option (Bool) := ((laws_szLogRecord.f k a0_0 a0_1 1048576).bind fun r1 => (if r1 < 0 then (some true) else ((laws_toLogRecord.f k a0_0 a0_1).bind fun r2 => ((spec_IsValidRecord.f k r2.1 r2.2).bind fun r3 => ((laws_toLogRecord.f k a0_0 a0_1).bind fun r4 => ((impl_IsValidRecord.f k r4.1 r4.2).bind fun r5 => (if ¬ r5 = r3 then (some false) else (some true))))))))
def laws_FnExactIsValidRecord.f (k : Nat) (a0_0 : ByteArray) (a0_1 : ByteArray) : Option (Bool) := laws_FnExactIsValidRecord.m k a0_0 a0_1
noncomputable def laws_FnExactIsValidRecord.spec (k : Nat) : FnSpec := ⟨[.ag [.d .str none, .d .str none]], [.d .bool none], fun x => laws_FnExactIsValidRecord.f k x.1 x.2⟩
noncomputable def laws_FnExactIsValidRecord.T : FnText := ⟨(conv [] (bodyOf Go.Proofs.Try.f5) 0).1, Go.Proofs.Try.f5.results.toList, 20, [], [.ag [.d .str none, .d .str none]], [.d .bool none]⟩
noncomputable def laws_FnExactIsValidRecord.tbl (k : Nat) : Tbl := [(27, laws_szLogRecord.spec k), (29, laws_toLogRecord.spec k), (28, spec_IsValidRecord.spec k), (30, impl_IsValidRecord.spec k)]
theorem laws_FnExactIsValidRecord.e (k : Nat) (o : Nat → St → Option (Bool)) (a0_0 : ByteArray) (a0_1 : ByteArray) : laws_FnExactIsValidRecord.T.main tyt (laws_FnExactIsValidRecord.tbl k) o (a0_0, a0_1) = laws_FnExactIsValidRecord.m k a0_0 a0_1 := by kernel_rfl
theorem laws_FnExactIsValidRecord.ok : laws_FnExactIsValidRecord.T.ok = true := by kernel_rfl
theorem laws_FnExactIsValidRecord.tblok (k : Nat) : TblOk Go.Proofs.Try.prog (laws_FnExactIsValidRecord.tbl k) := TblOk.cons (laws_szLogRecord.sound k) (TblOk.cons (laws_toLogRecord.sound k) (TblOk.cons (spec_IsValidRecord.sound k) (TblOk.cons (impl_IsValidRecord.sound k) (TblOk.nil _))))
theorem laws_FnExactIsValidRecord.sound (k : Nat) : Sound Go.Proofs.Try.prog 5 (laws_FnExactIsValidRecord.spec k) := by
  have h := fn_ok (F := laws_FnExactIsValidRecord.T) (tbl := laws_FnExactIsValidRecord.tbl) mixed tyok Go.Proofs.Try.func5 (by kernel_rfl) (c0 := bodyOf Go.Proofs.Try.f5) rfl (conv_code _ _ _) rfl rfl laws_FnExactIsValidRecord.ok k (fun j _ => laws_FnExactIsValidRecord.tblok j)
  have e : laws_FnExactIsValidRecord.spec k = ⟨laws_FnExactIsValidRecord.T.ps, laws_FnExactIsValidRecord.T.rs, laws_FnExactIsValidRecord.T.ev tyt laws_FnExactIsValidRecord.tbl k⟩ := congrArg (FnSpec.mk _ _) (funext fun x => ((laws_FnExactIsValidRecord.e k (laws_FnExactIsValidRecord.T.run tyt laws_FnExactIsValidRecord.tbl k) x.1 x.2).trans (by rfl)).symm)
  rw [e]
  exact h

/-- The pure statement. -/
def Pure : Prop := ∀ (a0_0 : ByteArray) (a0_1 : ByteArray), (a0_0.size ≤ 140737488351232) → (a0_1.size ≤ 140737488351232) → ∃ k, laws_FnExactIsValidRecord.f k a0_0 a0_1 = some true
end Go.Proofs.Yteiaakppjcpgcaa.DFnExactIsValidRecord
