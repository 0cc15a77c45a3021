-- Printed by this session's own program (wip/deep/drow.py); Lean checks it.
import Derived.Test.YtmkonhmojlfjoaaDoorLib
import Derived.Test.YtmkonhmojlfjoaaDoorProg
set_option linter.unusedVariables false
set_option maxRecDepth 100000
namespace Go.Proofs.YtmkonhmojlfjoaaDoor.DFnExactEncodeRecord
open Go Go.Proofs.YtmkonhmojlfjoaaDoorD
def tyt3 : TI := ⟨.int .i64, 1, 8, (.int .i64)⟩
def tyt4 : TI := ⟨.bool, 1, 1, .bool⟩
def tyt5 : TI := ⟨.int .u8, 1, 1, (.int .u8)⟩
def tyt9 : TI := ⟨.string, 1, 16, .str⟩
def tyt23 : TI := ⟨.struct #[⟨ "Command", 9, 0, false, "", "", 0⟩, ⟨ "Reply", 9, 1, false, "", "", 16⟩], 2, 32, (.pair .str .str)⟩
def tyt27 : TI := ⟨.struct #[⟨ "Command", 9, 0, false, "", "", 0⟩, ⟨ "Reply", 9, 1, false, "", "", 16⟩], 2, 32, (.pair .str .str)⟩
def tyt53 : TI := ⟨.slice 5, 1, 24, (.sl (.int .u8))⟩
def tyt98 : TI := ⟨.func #[5] #[4] false, 1, 8, .fn⟩
def tyt : TT := [(3, tyt3), (4, tyt4), (5, tyt5), (9, tyt9), (23, tyt23), (27, tyt27), (53, tyt53), (98, tyt98)]
theorem mixed : Go.Proofs.Tryd.prog.follows .mixedOrders = true := by kernel_rfl
theorem tok3 : TOk1 Go.Proofs.Tryd.prog 3 (tyt3) := TOk1.of (by kernel_rfl) (by kernel_rfl) (by kernel_rfl) (by kernel_rfl) (by kernel_rfl) (by kernel_rfl) (by kernel_rfl) (fun h => nomatch (show false = true from h)) (fun h => nomatch (show false = true from h))
theorem tok4 : TOk1 Go.Proofs.Tryd.prog 4 (tyt4) := TOk1.of (by kernel_rfl) (by kernel_rfl) (by kernel_rfl) (by kernel_rfl) (by kernel_rfl) (by kernel_rfl) (by kernel_rfl) (fun h => nomatch (show false = true from h)) (fun h => nomatch (show false = true from h))
theorem tok5 : TOk1 Go.Proofs.Tryd.prog 5 (tyt5) := TOk1.of (by kernel_rfl) (by kernel_rfl) (by kernel_rfl) (by kernel_rfl) (by kernel_rfl) (by kernel_rfl) (by kernel_rfl) (fun h => nomatch (show false = true from h)) (fun h => nomatch (show false = true from h))
theorem tok9 : TOk1 Go.Proofs.Tryd.prog 9 (tyt9) := TOk1.of (by kernel_rfl) (by kernel_rfl) (by kernel_rfl) (by kernel_rfl) (by kernel_rfl) (by kernel_rfl) (by kernel_rfl) (fun h => nomatch (show false = true from h)) (fun h => nomatch (show false = true from h))
theorem tok23 : TOk1 Go.Proofs.Tryd.prog 23 (tyt23) := TOk1.of (by kernel_rfl) (by kernel_rfl) (by kernel_rfl) (by kernel_rfl) (by kernel_rfl) (by kernel_rfl) (by kernel_rfl) (fun _ => by kernel_rfl) (fun _ => ⟨by kernel_rfl, by kernel_rfl, by kernel_rfl⟩)
theorem tok27 : TOk1 Go.Proofs.Tryd.prog 27 (tyt27) := TOk1.of (by kernel_rfl) (by kernel_rfl) (by kernel_rfl) (by kernel_rfl) (by kernel_rfl) (by kernel_rfl) (by kernel_rfl) (fun _ => by kernel_rfl) (fun _ => ⟨by kernel_rfl, by kernel_rfl, by kernel_rfl⟩)
theorem tok53 : TOk1 Go.Proofs.Tryd.prog 53 (tyt53) := TOk1.of (by kernel_rfl) (by kernel_rfl) (by kernel_rfl) (by kernel_rfl) (by kernel_rfl) (by kernel_rfl) (by kernel_rfl) (fun h => nomatch (show false = true from h)) (fun h => nomatch (show false = true from h))
theorem tok98 : TOk1 Go.Proofs.Tryd.prog 98 (tyt98) := TOk1.of (by kernel_rfl) (by kernel_rfl) (by kernel_rfl) (by kernel_rfl) (by kernel_rfl) (by kernel_rfl) (by kernel_rfl) (fun h => nomatch (show false = true from h)) (fun h => nomatch (show false = true from h))
theorem tyok : TOk Go.Proofs.Tryd.prog tyt := TOk.cons tok3 (TOk.cons tok4 (TOk.cons tok5 (TOk.cons tok9 (TOk.cons tok23 (TOk.cons tok27 (TOk.cons tok53 (TOk.cons tok98 (TOk.nil _))))))))
/-! ### laws_szLogRecord: function 13 -/
def laws_szLogRecord.m (k : Nat) (a0_0 : ByteArray) (a0_1 : ByteArray) (a1 : Int) : Option (Int) := (if (w64 (a1 - (a0_0.size : Int))) < 0 then (some (-1)) else (if (w64 ((w64 (a1 - (a0_0.size : Int))) - (a0_1.size : Int))) < 0 then (some (-1)) else (some (w64 ((w64 (a1 - (a0_0.size : Int))) - (a0_1.size : Int))))))
def laws_szLogRecord.f (k : Nat) (a0_0 : ByteArray) (a0_1 : ByteArray) (a1 : Int) : Option (Int) := laws_szLogRecord.m k a0_0 a0_1 a1
noncomputable def laws_szLogRecord.spec (k : Nat) : FnSpec := ⟨[.ag [.d .str none, .d .str none], .d (.int .i64) none], [.d (.int .i64) none], fun x => laws_szLogRecord.f k x.1 x.2.1 x.2.2⟩
noncomputable def laws_szLogRecord.T : FnText := ⟨(conv [] (bodyOf Go.Proofs.Tryd.f13) 0).1, Go.Proofs.Tryd.f13.results.toList, 20, [], [.ag [.d .str none, .d .str none], .d (.int .i64) none], [.d (.int .i64) none]⟩
noncomputable def laws_szLogRecord.tbl (k : Nat) : Tbl := []
theorem laws_szLogRecord.e (k : Nat) (o : Nat → St → Option (Int)) (a0_0 : ByteArray) (a0_1 : ByteArray) (a1 : Int) : laws_szLogRecord.T.main tyt (laws_szLogRecord.tbl k) o (a0_0, a0_1, a1) = laws_szLogRecord.m k a0_0 a0_1 a1 := by kernel_rfl
theorem laws_szLogRecord.ok : laws_szLogRecord.T.ok = true := by kernel_rfl
theorem laws_szLogRecord.tblok (k : Nat) : TblOk Go.Proofs.Tryd.prog (laws_szLogRecord.tbl k) := TblOk.nil _
theorem laws_szLogRecord.sound (k : Nat) : Sound Go.Proofs.Tryd.prog 13 (laws_szLogRecord.spec k) := by
  have h := fn_ok (F := laws_szLogRecord.T) (tbl := laws_szLogRecord.tbl) mixed tyok Go.Proofs.Tryd.func13 (by kernel_rfl) (c0 := bodyOf Go.Proofs.Tryd.f13) rfl (conv_code _ _ _) rfl rfl laws_szLogRecord.ok k (fun j _ => laws_szLogRecord.tblok j)
  have e : laws_szLogRecord.spec k = ⟨laws_szLogRecord.T.ps, laws_szLogRecord.T.rs, laws_szLogRecord.T.ev tyt laws_szLogRecord.tbl k⟩ := congrArg (FnSpec.mk _ _) (funext fun x => ((laws_szLogRecord.e k (laws_szLogRecord.T.run tyt laws_szLogRecord.tbl k) x.1 x.2.1 x.2.2).trans (by rfl)).symm)
  rw [e]
  exact h
/-! ### laws_toLogRecord: function 15 -/
def laws_toLogRecord.m (k : Nat) (a0_0 : ByteArray) (a0_1 : ByteArray) : Option (ByteArray × ByteArray) := (some (a0_0, a0_1))
def laws_toLogRecord.f (k : Nat) (a0_0 : ByteArray) (a0_1 : ByteArray) : Option (ByteArray × ByteArray) := laws_toLogRecord.m k a0_0 a0_1
noncomputable def laws_toLogRecord.spec (k : Nat) : FnSpec := ⟨[.ag [.d .str none, .d .str none]], [.ag [.d .str none, .d .str none]], fun x => laws_toLogRecord.f k x.1 x.2⟩
noncomputable def laws_toLogRecord.T : FnText := ⟨(conv [] (bodyOf Go.Proofs.Tryd.f15) 0).1, Go.Proofs.Tryd.f15.results.toList, 11, [], [.ag [.d .str none, .d .str none]], [.ag [.d .str none, .d .str none]]⟩
noncomputable def laws_toLogRecord.tbl (k : Nat) : Tbl := []
theorem laws_toLogRecord.e (k : Nat) (o : Nat → St → Option (ByteArray × ByteArray)) (a0_0 : ByteArray) (a0_1 : ByteArray) : laws_toLogRecord.T.main tyt (laws_toLogRecord.tbl k) o (a0_0, a0_1) = laws_toLogRecord.m k a0_0 a0_1 := by kernel_rfl
theorem laws_toLogRecord.ok : laws_toLogRecord.T.ok = true := by kernel_rfl
theorem laws_toLogRecord.tblok (k : Nat) : TblOk Go.Proofs.Tryd.prog (laws_toLogRecord.tbl k) := TblOk.nil _
theorem laws_toLogRecord.sound (k : Nat) : Sound Go.Proofs.Tryd.prog 15 (laws_toLogRecord.spec k) := by
  have h := fn_ok (F := laws_toLogRecord.T) (tbl := laws_toLogRecord.tbl) mixed tyok Go.Proofs.Tryd.func15 (by kernel_rfl) (c0 := bodyOf Go.Proofs.Tryd.f15) rfl (conv_code _ _ _) rfl rfl laws_toLogRecord.ok k (fun j _ => laws_toLogRecord.tblok j)
  have e : laws_toLogRecord.spec k = ⟨laws_toLogRecord.T.ps, laws_toLogRecord.T.rs, laws_toLogRecord.T.ev tyt laws_toLogRecord.tbl k⟩ := congrArg (FnSpec.mk _ _) (funext fun x => ((laws_toLogRecord.e k (laws_toLogRecord.T.run tyt laws_toLogRecord.tbl k) x.1 x.2).trans (by rfl)).symm)
  rw [e]
  exact h
/-! ### spec_l1In: function 42 -/
def spec_l1In.m (k : Nat) (a0 : Int) (a1 : Int) (a2 : Int) : Option (Bool) := (if a1 ≤ a0 then (some (decide (a0 ≤ a2))) else (some false))
def spec_l1In.f (k : Nat) (a0 : Int) (a1 : Int) (a2 : Int) : Option (Bool) := spec_l1In.m k a0 a1 a2
noncomputable def spec_l1In.spec (k : Nat) : FnSpec := ⟨[.d (.int .i64) none, .d (.int .i64) none, .d (.int .i64) none], [.d .bool none], fun x => spec_l1In.f k x.1 x.2.1 x.2.2⟩
noncomputable def spec_l1In.T : FnText := ⟨(conv [] (bodyOf Go.Proofs.Tryd.f42) 0).1, Go.Proofs.Tryd.f42.results.toList, 15, [], [.d (.int .i64) none, .d (.int .i64) none, .d (.int .i64) none], [.d .bool none]⟩
noncomputable def spec_l1In.tbl (k : Nat) : Tbl := []
theorem spec_l1In.e (k : Nat) (o : Nat → St → Option (Bool)) (a0 : Int) (a1 : Int) (a2 : Int) : spec_l1In.T.main tyt (spec_l1In.tbl k) o (a0, a1, a2) = spec_l1In.m k a0 a1 a2 := by kernel_rfl
theorem spec_l1In.ok : spec_l1In.T.ok = true := by kernel_rfl
theorem spec_l1In.tblok (k : Nat) : TblOk Go.Proofs.Tryd.prog (spec_l1In.tbl k) := TblOk.nil _
theorem spec_l1In.sound (k : Nat) : Sound Go.Proofs.Tryd.prog 42 (spec_l1In.spec k) := by
  have h := fn_ok (F := spec_l1In.T) (tbl := spec_l1In.tbl) mixed tyok Go.Proofs.Tryd.func42 (by kernel_rfl) (c0 := bodyOf Go.Proofs.Tryd.f42) rfl (conv_code _ _ _) rfl rfl spec_l1In.ok k (fun j _ => spec_l1In.tblok j)
  have e : spec_l1In.spec k = ⟨spec_l1In.T.ps, spec_l1In.T.rs, spec_l1In.T.ev tyt spec_l1In.tbl k⟩ := congrArg (FnSpec.mk _ _) (funext fun x => ((spec_l1In.e k (spec_l1In.T.run tyt spec_l1In.tbl k) x.1 x.2.1 x.2.2).trans (by rfl)).symm)
  rw [e]
  exact h
/-! ### spec_l27Plain: function 63 -/
def spec_l27Plain.b3 (o3 : ByteArray → Int → Int → Option (Bool)) (k : Nat) (x0_3 : ByteArray) (x1_3 : Int) (x2_3 : Int) : Option (Bool) := (if x2_3 < (x0_3.size : Int) then ((chk x0_3.size x2_3).bind fun i1 => ((spec_l1In.f k (w64 ((byteAt x0_3 i1))) 32 126).bind fun r2 => (cond (!r2) (some false) ((chk x0_3.size x2_3).bind fun i3 => (if (byteAt x0_3 i3) = 35 then (some false) else (o3 x0_3 x1_3 (w64 (x2_3 + 1)))))))) else (some (decide ((x0_3.size : Int) ≤ x1_3))))
def spec_l27Plain.l3 : Nat → ByteArray → Int → Int → Option (Bool)
  | 0, _, _, _ => none
  | k + 1, x0_3, x1_3, x2_3 => spec_l27Plain.b3 (spec_l27Plain.l3 k) k x0_3 x1_3 x2_3
def spec_l27Plain.m (o3 : ByteArray → Int → Int → Option (Bool)) (k : Nat) (a0 : ByteArray) (a1 : Int) : Option (Bool) := (o3 a0 a1 0)
def spec_l27Plain.f (k : Nat) (a0 : ByteArray) (a1 : Int) : Option (Bool) := spec_l27Plain.m (spec_l27Plain.l3 k) k a0 a1
noncomputable def spec_l27Plain.spec (k : Nat) : FnSpec := ⟨[.d .str none, .d (.int .i64) none], [.d .bool none], fun x => spec_l27Plain.f k x.1 x.2⟩
def spec_l27Plain.S3 (x0_3 : ByteArray) (x1_3 : Int) (x2_3 : Int) : St := ⟨[(0, .val .str x0_3), (1, .val (.int .i64) x1_3), (5, .val (.int .i64) x2_3)], [], 1000⟩
noncomputable def spec_l27Plain.T : FnText := ⟨(conv [] (bodyOf Go.Proofs.Tryd.f63) 0).1, Go.Proofs.Tryd.f63.results.toList, 28, [(3, [(0, .rd .str), (1, .rd (.int .i64)), (5, .rd (.int .i64))])], [.d .str none, .d (.int .i64) none], [.d .bool none]⟩
noncomputable def spec_l27Plain.tbl (k : Nat) : Tbl := [(42, spec_l1In.spec k)]
theorem spec_l27Plain.e3 (k : Nat) (o : Nat → St → Option (Bool)) (x0_3 : ByteArray) (x1_3 : Int) (x2_3 : Int) : spec_l27Plain.T.step tyt (spec_l27Plain.tbl k) o 3 (spec_l27Plain.S3 x0_3 x1_3 x2_3) = spec_l27Plain.b3 (fun x0_3 x1_3 x2_3 => o 3 (spec_l27Plain.S3 x0_3 x1_3 x2_3)) k x0_3 x1_3 x2_3 := by kernel_rfl
theorem spec_l27Plain.e (k : Nat) (o : Nat → St → Option (Bool)) (a0 : ByteArray) (a1 : Int) : spec_l27Plain.T.main tyt (spec_l27Plain.tbl k) o (a0, a1) = spec_l27Plain.m (fun x0_3 x1_3 x2_3 => o 3 (spec_l27Plain.S3 x0_3 x1_3 x2_3)) k a0 a1 := by kernel_rfl
theorem spec_l27Plain.ok : spec_l27Plain.T.ok = true := by kernel_rfl
theorem spec_l27Plain.run (k : Nat) : (∀ (x0_3 : ByteArray) (x1_3 : Int) (x2_3 : Int), spec_l27Plain.T.run tyt spec_l27Plain.tbl k 3 (spec_l27Plain.S3 x0_3 x1_3 x2_3) = spec_l27Plain.l3 k x0_3 x1_3 x2_3) := by
  induction k with
  | zero => exact fun x0_3 x1_3 x2_3 => rfl
  | succ k ih =>
    exact fun x0_3 x1_3 x2_3 => by
      have q3 : (fun x0_3 x1_3 x2_3 => spec_l27Plain.T.run tyt spec_l27Plain.tbl k 3 (spec_l27Plain.S3 x0_3 x1_3 x2_3)) = spec_l27Plain.l3 k := by funext x0_3 x1_3 x2_3; exact ih x0_3 x1_3 x2_3
      exact (spec_l27Plain.e3 k (spec_l27Plain.T.run tyt spec_l27Plain.tbl k) x0_3 x1_3 x2_3).trans (by rw [q3]; rfl)
theorem spec_l27Plain.tblok (k : Nat) : TblOk Go.Proofs.Tryd.prog (spec_l27Plain.tbl k) := TblOk.cons (spec_l1In.sound k) (TblOk.nil _)
theorem spec_l27Plain.sound (k : Nat) : Sound Go.Proofs.Tryd.prog 63 (spec_l27Plain.spec k) := by
  have h := fn_ok (F := spec_l27Plain.T) (tbl := spec_l27Plain.tbl) mixed tyok Go.Proofs.Tryd.func63 (by kernel_rfl) (c0 := bodyOf Go.Proofs.Tryd.f63) rfl (conv_code _ _ _) rfl rfl spec_l27Plain.ok k (fun j _ => spec_l27Plain.tblok j)
  have q3 : (fun x0_3 x1_3 x2_3 => spec_l27Plain.T.run tyt spec_l27Plain.tbl k 3 (spec_l27Plain.S3 x0_3 x1_3 x2_3)) = spec_l27Plain.l3 k := by funext x0_3 x1_3 x2_3; exact (spec_l27Plain.run k) x0_3 x1_3 x2_3
  have e : spec_l27Plain.spec k = ⟨spec_l27Plain.T.ps, spec_l27Plain.T.rs, spec_l27Plain.T.ev tyt spec_l27Plain.tbl k⟩ := congrArg (FnSpec.mk _ _) (funext fun x => ((spec_l27Plain.e k (spec_l27Plain.T.run tyt spec_l27Plain.tbl k) x.1 x.2).trans (by rw [q3]; rfl)).symm)
  rw [e]
  exact h
/-! ### spec_l1Stands: function 64 -/
def spec_l1Stands.b3 (o3 : ByteArray → Int → Int → Option (Bool)) (k : Nat) (x0_3 : ByteArray) (x1_3 : Int) (x2_3 : Int) : Option (Bool) := (if x2_3 < (x0_3.size : Int) then ((chk x0_3.size x2_3).bind fun i1 => (if (byteAt x0_3 i1) = x1_3 then (some true) else (o3 x0_3 x1_3 (w64 (x2_3 + 1))))) else (some false))
def spec_l1Stands.l3 : Nat → ByteArray → Int → Int → Option (Bool)
  | 0, _, _, _ => none
  | k + 1, x0_3, x1_3, x2_3 => spec_l1Stands.b3 (spec_l1Stands.l3 k) k x0_3 x1_3 x2_3
def spec_l1Stands.m (o3 : ByteArray → Int → Int → Option (Bool)) (k : Nat) (a0 : ByteArray) (a1 : Int) : Option (Bool) := (o3 a0 a1 0)
def spec_l1Stands.f (k : Nat) (a0 : ByteArray) (a1 : Int) : Option (Bool) := spec_l1Stands.m (spec_l1Stands.l3 k) k a0 a1
noncomputable def spec_l1Stands.spec (k : Nat) : FnSpec := ⟨[.d .str none, .d (.int .u8) none], [.d .bool none], fun x => spec_l1Stands.f k x.1 x.2⟩
def spec_l1Stands.S3 (x0_3 : ByteArray) (x1_3 : Int) (x2_3 : Int) : St := ⟨[(0, .val .str x0_3), (1, .val (.int .u8) x1_3), (5, .val (.int .i64) x2_3)], [], 1000⟩
noncomputable def spec_l1Stands.T : FnText := ⟨(conv [] (bodyOf Go.Proofs.Tryd.f64) 0).1, Go.Proofs.Tryd.f64.results.toList, 17, [(3, [(0, .rd .str), (1, .rd (.int .u8)), (5, .rd (.int .i64))])], [.d .str none, .d (.int .u8) none], [.d .bool none]⟩
noncomputable def spec_l1Stands.tbl (k : Nat) : Tbl := []
theorem spec_l1Stands.e3 (k : Nat) (o : Nat → St → Option (Bool)) (x0_3 : ByteArray) (x1_3 : Int) (x2_3 : Int) : spec_l1Stands.T.step tyt (spec_l1Stands.tbl k) o 3 (spec_l1Stands.S3 x0_3 x1_3 x2_3) = spec_l1Stands.b3 (fun x0_3 x1_3 x2_3 => o 3 (spec_l1Stands.S3 x0_3 x1_3 x2_3)) k x0_3 x1_3 x2_3 := by kernel_rfl
theorem spec_l1Stands.e (k : Nat) (o : Nat → St → Option (Bool)) (a0 : ByteArray) (a1 : Int) : spec_l1Stands.T.main tyt (spec_l1Stands.tbl k) o (a0, a1) = spec_l1Stands.m (fun x0_3 x1_3 x2_3 => o 3 (spec_l1Stands.S3 x0_3 x1_3 x2_3)) k a0 a1 := by kernel_rfl
theorem spec_l1Stands.ok : spec_l1Stands.T.ok = true := by kernel_rfl
theorem spec_l1Stands.run (k : Nat) : (∀ (x0_3 : ByteArray) (x1_3 : Int) (x2_3 : Int), spec_l1Stands.T.run tyt spec_l1Stands.tbl k 3 (spec_l1Stands.S3 x0_3 x1_3 x2_3) = spec_l1Stands.l3 k x0_3 x1_3 x2_3) := by
  induction k with
  | zero => exact fun x0_3 x1_3 x2_3 => rfl
  | succ k ih =>
    exact fun x0_3 x1_3 x2_3 => by
      have q3 : (fun x0_3 x1_3 x2_3 => spec_l1Stands.T.run tyt spec_l1Stands.tbl k 3 (spec_l1Stands.S3 x0_3 x1_3 x2_3)) = spec_l1Stands.l3 k := by funext x0_3 x1_3 x2_3; exact ih x0_3 x1_3 x2_3
      exact (spec_l1Stands.e3 k (spec_l1Stands.T.run tyt spec_l1Stands.tbl k) x0_3 x1_3 x2_3).trans (by rw [q3]; rfl)
theorem spec_l1Stands.tblok (k : Nat) : TblOk Go.Proofs.Tryd.prog (spec_l1Stands.tbl k) := TblOk.nil _
theorem spec_l1Stands.sound (k : Nat) : Sound Go.Proofs.Tryd.prog 64 (spec_l1Stands.spec k) := by
  have h := fn_ok (F := spec_l1Stands.T) (tbl := spec_l1Stands.tbl) mixed tyok Go.Proofs.Tryd.func64 (by kernel_rfl) (c0 := bodyOf Go.Proofs.Tryd.f64) rfl (conv_code _ _ _) rfl rfl spec_l1Stands.ok k (fun j _ => spec_l1Stands.tblok j)
  have q3 : (fun x0_3 x1_3 x2_3 => spec_l1Stands.T.run tyt spec_l1Stands.tbl k 3 (spec_l1Stands.S3 x0_3 x1_3 x2_3)) = spec_l1Stands.l3 k := by funext x0_3 x1_3 x2_3; exact (spec_l1Stands.run k) x0_3 x1_3 x2_3
  have e : spec_l1Stands.spec k = ⟨spec_l1Stands.T.ps, spec_l1Stands.T.rs, spec_l1Stands.T.ev tyt spec_l1Stands.tbl k⟩ := congrArg (FnSpec.mk _ _) (funext fun x => ((spec_l1Stands.e k (spec_l1Stands.T.run tyt spec_l1Stands.tbl k) x.1 x.2).trans (by rw [q3]; rfl)).symm)
  rw [e]
  exact h
/-! ### spec_l27Good: function 43 -/
def spec_l27Good.m (k : Nat) (a0_0 : ByteArray) (a0_1 : ByteArray) : Option (Bool) := (if ¬ a0_0 = (⟨#[]⟩ : ByteArray) then ((spec_l27Plain.f k a0_0 160).bind fun r1 => (cond r1 ((spec_l1Stands.f k a0_0 64).bind fun r2 => (cond (!r2) ((spec_l27Plain.f k a0_1 200).bind fun r3 => (some r3)) (some false))) (some false))) else (some false))
def spec_l27Good.f (k : Nat) (a0_0 : ByteArray) (a0_1 : ByteArray) : Option (Bool) := spec_l27Good.m k a0_0 a0_1
noncomputable def spec_l27Good.spec (k : Nat) : FnSpec := ⟨[.ag [.d .str none, .d .str none]], [.d .bool none], fun x => spec_l27Good.f k x.1 x.2⟩
noncomputable def spec_l27Good.T : FnText := ⟨(conv [] (bodyOf Go.Proofs.Tryd.f43) 0).1, Go.Proofs.Tryd.f43.results.toList, 22, [], [.ag [.d .str none, .d .str none]], [.d .bool none]⟩
noncomputable def spec_l27Good.tbl (k : Nat) : Tbl := [(63, spec_l27Plain.spec k), (64, spec_l1Stands.spec k)]
theorem spec_l27Good.e (k : Nat) (o : Nat → St → Option (Bool)) (a0_0 : ByteArray) (a0_1 : ByteArray) : spec_l27Good.T.main tyt (spec_l27Good.tbl k) o (a0_0, a0_1) = spec_l27Good.m k a0_0 a0_1 := by kernel_rfl
theorem spec_l27Good.ok : spec_l27Good.T.ok = true := by kernel_rfl
theorem spec_l27Good.tblok (k : Nat) : TblOk Go.Proofs.Tryd.prog (spec_l27Good.tbl k) := TblOk.cons (spec_l27Plain.sound k) (TblOk.cons (spec_l1Stands.sound k) (TblOk.nil _))
theorem spec_l27Good.sound (k : Nat) : Sound Go.Proofs.Tryd.prog 43 (spec_l27Good.spec k) := by
  have h := fn_ok (F := spec_l27Good.T) (tbl := spec_l27Good.tbl) mixed tyok Go.Proofs.Tryd.func43 (by kernel_rfl) (c0 := bodyOf Go.Proofs.Tryd.f43) rfl (conv_code _ _ _) rfl rfl spec_l27Good.ok k (fun j _ => spec_l27Good.tblok j)
  have e : spec_l27Good.spec k = ⟨spec_l27Good.T.ps, spec_l27Good.T.rs, spec_l27Good.T.ev tyt spec_l27Good.tbl k⟩ := congrArg (FnSpec.mk _ _) (funext fun x => ((spec_l27Good.e k (spec_l27Good.T.run tyt spec_l27Good.tbl k) x.1 x.2).trans (by rfl)).symm)
  rw [e]
  exact h
/-! ### spec_l1Num: function 66, that calls itself -/
def spec_l1Num.m (self : Int → Option (ByteArray)) (k : Nat) (a0 : Int) : Option (ByteArray) := (if a0 < 0 then ((self (w64 (0 - a0))).bind fun r1 => ((catS (⟨#[45]⟩ : ByteArray) r1).bind fun s2 => (some s2))) else (if a0 < 10 then ((cut ((⟨#[48, 49, 50, 51, 52, 53, 54, 55, 56, 57]⟩ : ByteArray).size) a0 (w64 (a0 + 1))).bind fun c3 => (some ((⟨#[48, 49, 50, 51, 52, 53, 54, 55, 56, 57]⟩ : ByteArray).extract c3.1 (c3.1 + c3.2)))) else ((quo .i64 a0 10).bind fun q4 => ((self q4).bind fun r5 => ((rem a0 10).bind fun q6 => ((rem a0 10).bind fun q7 => ((cut ((⟨#[48, 49, 50, 51, 52, 53, 54, 55, 56, 57]⟩ : ByteArray).size) q6 (w64 (q7 + 1))).bind fun c8 => ((catS r5 ((⟨#[48, 49, 50, 51, 52, 53, 54, 55, 56, 57]⟩ : ByteArray).extract c8.1 (c8.1 + c8.2))).bind fun s9 => (some s9)))))))))
def spec_l1Num.f : Nat → Int → Option (ByteArray)
  | 0, _ => none
  | k + 1, a0 => spec_l1Num.m (spec_l1Num.f k) (k + 1) a0
noncomputable def spec_l1Num.spec (k : Nat) : FnSpec := ⟨[.d (.int .i64) none], [.d .str none], fun x => spec_l1Num.f k x⟩
noncomputable def spec_l1Num.T : FnText := ⟨(conv [] (bodyOf Go.Proofs.Tryd.f66) 0).1, Go.Proofs.Tryd.f66.results.toList, 25, [], [.d (.int .i64) none], [.d .str none]⟩
noncomputable def spec_l1Num.tbl (k0 k : Nat) : Tbl := [(66, spec_l1Num.spec k0)]
theorem spec_l1Num.e (k0 k : Nat) (o : Nat → St → Option (ByteArray)) (a0 : Int) : spec_l1Num.T.main tyt (spec_l1Num.tbl k0 k) o a0 = spec_l1Num.m (spec_l1Num.f k0) k a0 := by kernel_rfl
theorem spec_l1Num.ok : spec_l1Num.T.ok = true := by kernel_rfl
theorem spec_l1Num.tblok (k0 k : Nat) (hs : Sound Go.Proofs.Tryd.prog 66 (spec_l1Num.spec k0)) : TblOk Go.Proofs.Tryd.prog (spec_l1Num.tbl k0 k) := TblOk.cons hs (TblOk.nil _)
theorem spec_l1Num.sound (k : Nat) : Sound Go.Proofs.Tryd.prog 66 (spec_l1Num.spec k) := by
  induction k with
  | zero => exact ⟨fun args w => enters_fn Go.Proofs.Tryd.func66 (by kernel_rfl) rfl args w, fun x r hx => nomatch (show none = some r from hx)⟩
  | succ k0 ih =>
  have h := fn_ok (F := spec_l1Num.T) (tbl := spec_l1Num.tbl k0) mixed tyok Go.Proofs.Tryd.func66 (by kernel_rfl) (c0 := bodyOf Go.Proofs.Tryd.f66) rfl (conv_code _ _ _) rfl rfl spec_l1Num.ok (k0 + 1) (fun j _ => spec_l1Num.tblok k0 j ih)
  have e : spec_l1Num.spec (k0 + 1) = ⟨spec_l1Num.T.ps, spec_l1Num.T.rs, spec_l1Num.T.ev tyt (spec_l1Num.tbl k0) (k0 + 1)⟩ := congrArg (FnSpec.mk _ _) (funext fun x => ((spec_l1Num.e k0 (k0 + 1) (spec_l1Num.T.run tyt (spec_l1Num.tbl k0) (k0 + 1)) x).trans (by rfl)).symm)
  rw [e]
  exact h
/-! ### spec_l1Sum: function 77 -/
def spec_l1Sum.b4 (o4 : ByteArray → Int → Int → Option (Int)) (k : Nat) (x0_4 : ByteArray) (x1_4 : Int) (x2_4 : Int) : Option (Int) := (if x2_4 < (x0_4.size : Int) then ((chk x0_4.size x2_4).bind fun i1 => ((rem (w64 ((w64 ((w64 (41 * x1_4)) + (w64 ((byteAt x0_4 i1))))) + 1)) 999979).bind fun q2 => (o4 x0_4 q2 (w64 (x2_4 + 1))))) else (some x1_4))
def spec_l1Sum.l4 : Nat → ByteArray → Int → Int → Option (Int)
  | 0, _, _, _ => none
  | k + 1, x0_4, x1_4, x2_4 => spec_l1Sum.b4 (spec_l1Sum.l4 k) k x0_4 x1_4 x2_4
def spec_l1Sum.m (o4 : ByteArray → Int → Int → Option (Int)) (k : Nat) (a0 : ByteArray) : Option (Int) := (o4 a0 7 0)
def spec_l1Sum.f (k : Nat) (a0 : ByteArray) : Option (Int) := spec_l1Sum.m (spec_l1Sum.l4 k) k a0
noncomputable def spec_l1Sum.spec (k : Nat) : FnSpec := ⟨[.d .str none], [.d (.int .i64) none], fun x => spec_l1Sum.f k x⟩
def spec_l1Sum.S4 (x0_4 : ByteArray) (x1_4 : Int) (x2_4 : Int) : St := ⟨[(0, .val .str x0_4), (3, .val (.int .i64) x1_4), (4, .val (.int .i64) x2_4)], [], 1000⟩
noncomputable def spec_l1Sum.T : FnText := ⟨(conv [] (bodyOf Go.Proofs.Tryd.f77) 0).1, Go.Proofs.Tryd.f77.results.toList, 21, [(4, [(0, .rd .str), (3, .rd (.int .i64)), (4, .rd (.int .i64))])], [.d .str none], [.d (.int .i64) none]⟩
noncomputable def spec_l1Sum.tbl (k : Nat) : Tbl := []
theorem spec_l1Sum.e4 (k : Nat) (o : Nat → St → Option (Int)) (x0_4 : ByteArray) (x1_4 : Int) (x2_4 : Int) : spec_l1Sum.T.step tyt (spec_l1Sum.tbl k) o 4 (spec_l1Sum.S4 x0_4 x1_4 x2_4) = spec_l1Sum.b4 (fun x0_4 x1_4 x2_4 => o 4 (spec_l1Sum.S4 x0_4 x1_4 x2_4)) k x0_4 x1_4 x2_4 := by kernel_rfl
theorem spec_l1Sum.e (k : Nat) (o : Nat → St → Option (Int)) (a0 : ByteArray) : spec_l1Sum.T.main tyt (spec_l1Sum.tbl k) o a0 = spec_l1Sum.m (fun x0_4 x1_4 x2_4 => o 4 (spec_l1Sum.S4 x0_4 x1_4 x2_4)) k a0 := by kernel_rfl
theorem spec_l1Sum.ok : spec_l1Sum.T.ok = true := by kernel_rfl
theorem spec_l1Sum.run (k : Nat) : (∀ (x0_4 : ByteArray) (x1_4 : Int) (x2_4 : Int), spec_l1Sum.T.run tyt spec_l1Sum.tbl k 4 (spec_l1Sum.S4 x0_4 x1_4 x2_4) = spec_l1Sum.l4 k x0_4 x1_4 x2_4) := by
  induction k with
  | zero => exact fun x0_4 x1_4 x2_4 => rfl
  | succ k ih =>
    exact fun x0_4 x1_4 x2_4 => by
      have q4 : (fun x0_4 x1_4 x2_4 => spec_l1Sum.T.run tyt spec_l1Sum.tbl k 4 (spec_l1Sum.S4 x0_4 x1_4 x2_4)) = spec_l1Sum.l4 k := by funext x0_4 x1_4 x2_4; exact ih x0_4 x1_4 x2_4
      exact (spec_l1Sum.e4 k (spec_l1Sum.T.run tyt spec_l1Sum.tbl k) x0_4 x1_4 x2_4).trans (by rw [q4]; rfl)
theorem spec_l1Sum.tblok (k : Nat) : TblOk Go.Proofs.Tryd.prog (spec_l1Sum.tbl k) := TblOk.nil _
theorem spec_l1Sum.sound (k : Nat) : Sound Go.Proofs.Tryd.prog 77 (spec_l1Sum.spec k) := by
  have h := fn_ok (F := spec_l1Sum.T) (tbl := spec_l1Sum.tbl) mixed tyok Go.Proofs.Tryd.func77 (by kernel_rfl) (c0 := bodyOf Go.Proofs.Tryd.f77) rfl (conv_code _ _ _) rfl rfl spec_l1Sum.ok k (fun j _ => spec_l1Sum.tblok j)
  have q4 : (fun x0_4 x1_4 x2_4 => spec_l1Sum.T.run tyt spec_l1Sum.tbl k 4 (spec_l1Sum.S4 x0_4 x1_4 x2_4)) = spec_l1Sum.l4 k := by funext x0_4 x1_4 x2_4; exact (spec_l1Sum.run k) x0_4 x1_4 x2_4
  have e : spec_l1Sum.spec k = ⟨spec_l1Sum.T.ps, spec_l1Sum.T.rs, spec_l1Sum.T.ev tyt spec_l1Sum.tbl k⟩ := congrArg (FnSpec.mk _ _) (funext fun x => ((spec_l1Sum.e k (spec_l1Sum.T.run tyt spec_l1Sum.tbl k) x).trans (by rw [q4]; rfl)).symm)
  rw [e]
  exact h
/-! ### spec_l1Seal: function 65 -/
def spec_l1Seal.m (k : Nat) (a0 : ByteArray) : Option (ByteArray) := ((catS a0 (⟨#[35]⟩ : ByteArray)).bind fun s1 => ((spec_l1Sum.f k a0).bind fun r2 => ((spec_l1Num.f k r2).bind fun r3 => ((catS s1 r3).bind fun s4 => (some s4)))))
def spec_l1Seal.f (k : Nat) (a0 : ByteArray) : Option (ByteArray) := spec_l1Seal.m k a0
noncomputable def spec_l1Seal.spec (k : Nat) : FnSpec := ⟨[.d .str none], [.d .str none], fun x => spec_l1Seal.f k x⟩
noncomputable def spec_l1Seal.T : FnText := ⟨(conv [] (bodyOf Go.Proofs.Tryd.f65) 0).1, Go.Proofs.Tryd.f65.results.toList, 9, [], [.d .str none], [.d .str none]⟩
noncomputable def spec_l1Seal.tbl (k : Nat) : Tbl := [(77, spec_l1Sum.spec k), (66, spec_l1Num.spec k)]
theorem spec_l1Seal.e (k : Nat) (o : Nat → St → Option (ByteArray)) (a0 : ByteArray) : spec_l1Seal.T.main tyt (spec_l1Seal.tbl k) o a0 = spec_l1Seal.m k a0 := by kernel_rfl
theorem spec_l1Seal.ok : spec_l1Seal.T.ok = true := by kernel_rfl
theorem spec_l1Seal.tblok (k : Nat) : TblOk Go.Proofs.Tryd.prog (spec_l1Seal.tbl k) := TblOk.cons (spec_l1Sum.sound k) (TblOk.cons (spec_l1Num.sound k) (TblOk.nil _))
theorem spec_l1Seal.sound (k : Nat) : Sound Go.Proofs.Tryd.prog 65 (spec_l1Seal.spec k) := by
  have h := fn_ok (F := spec_l1Seal.T) (tbl := spec_l1Seal.tbl) mixed tyok Go.Proofs.Tryd.func65 (by kernel_rfl) (c0 := bodyOf Go.Proofs.Tryd.f65) rfl (conv_code _ _ _) rfl rfl spec_l1Seal.ok k (fun j _ => spec_l1Seal.tblok j)
  have e : spec_l1Seal.spec k = ⟨spec_l1Seal.T.ps, spec_l1Seal.T.rs, spec_l1Seal.T.ev tyt spec_l1Seal.tbl k⟩ := congrArg (FnSpec.mk _ _) (funext fun x => ((spec_l1Seal.e k (spec_l1Seal.T.run tyt spec_l1Seal.tbl k) x).trans (by rfl)).symm)
  rw [e]
  exact h
/-! ### spec_l27Line: function 44 -/
def spec_l27Line.m (k : Nat) (a0 : Int) (a1_0 : ByteArray) (a1_1 : ByteArray) : Option (ByteArray) := ((spec_l1Num.f k a0).bind fun r1 => ((catS r1 (⟨#[32]⟩ : ByteArray)).bind fun s2 => ((catS s2 a1_0).bind fun s3 => ((catS s3 (⟨#[64]⟩ : ByteArray)).bind fun s4 => ((catS s4 a1_1).bind fun s5 => ((spec_l1Seal.f k s5).bind fun r6 => ((catS r6 (⟨#[10]⟩ : ByteArray)).bind fun s7 => (some s7))))))))
def spec_l27Line.f (k : Nat) (a0 : Int) (a1_0 : ByteArray) (a1_1 : ByteArray) : Option (ByteArray) := spec_l27Line.m k a0 a1_0 a1_1
noncomputable def spec_l27Line.spec (k : Nat) : FnSpec := ⟨[.d (.int .i64) none, .ag [.d .str none, .d .str none]], [.d .str none], fun x => spec_l27Line.f k x.1 x.2.1 x.2.2⟩
noncomputable def spec_l27Line.T : FnText := ⟨(conv [] (bodyOf Go.Proofs.Tryd.f44) 0).1, Go.Proofs.Tryd.f44.results.toList, 17, [], [.d (.int .i64) none, .ag [.d .str none, .d .str none]], [.d .str none]⟩
noncomputable def spec_l27Line.tbl (k : Nat) : Tbl := [(66, spec_l1Num.spec k), (65, spec_l1Seal.spec k)]
theorem spec_l27Line.e (k : Nat) (o : Nat → St → Option (ByteArray)) (a0 : Int) (a1_0 : ByteArray) (a1_1 : ByteArray) : spec_l27Line.T.main tyt (spec_l27Line.tbl k) o (a0, a1_0, a1_1) = spec_l27Line.m k a0 a1_0 a1_1 := by kernel_rfl
theorem spec_l27Line.ok : spec_l27Line.T.ok = true := by kernel_rfl
theorem spec_l27Line.tblok (k : Nat) : TblOk Go.Proofs.Tryd.prog (spec_l27Line.tbl k) := TblOk.cons (spec_l1Num.sound k) (TblOk.cons (spec_l1Seal.sound k) (TblOk.nil _))
theorem spec_l27Line.sound (k : Nat) : Sound Go.Proofs.Tryd.prog 44 (spec_l27Line.spec k) := by
  have h := fn_ok (F := spec_l27Line.T) (tbl := spec_l27Line.tbl) mixed tyok Go.Proofs.Tryd.func44 (by kernel_rfl) (c0 := bodyOf Go.Proofs.Tryd.f44) rfl (conv_code _ _ _) rfl rfl spec_l27Line.ok k (fun j _ => spec_l27Line.tblok j)
  have e : spec_l27Line.spec k = ⟨spec_l27Line.T.ps, spec_l27Line.T.rs, spec_l27Line.T.ev tyt spec_l27Line.tbl k⟩ := congrArg (FnSpec.mk _ _) (funext fun x => ((spec_l27Line.e k (spec_l27Line.T.run tyt spec_l27Line.tbl k) x.1 x.2.1 x.2.2).trans (by rfl)).symm)
  rw [e]
  exact h
/-! ### spec_EncodeRecord: function 14 -/
def spec_EncodeRecord.m (k : Nat) (a0 : Int) (a1_0 : ByteArray) (a1_1 : ByteArray) : Option (ByteArray × Bool) := ((spec_l1In.f k a0 0 59).bind fun r1 => (cond (!r1) (some ((⟨#[]⟩ : ByteArray), false)) ((spec_l27Good.f k a1_0 a1_1).bind fun r2 => (cond (!r2) (some ((⟨#[]⟩ : ByteArray), false)) ((spec_l27Line.f k a0 a1_0 a1_1).bind fun r3 => (some (r3, true)))))))
def spec_EncodeRecord.f (k : Nat) (a0 : Int) (a1_0 : ByteArray) (a1_1 : ByteArray) : Option (ByteArray × Bool) := spec_EncodeRecord.m k a0 a1_0 a1_1
noncomputable def spec_EncodeRecord.spec (k : Nat) : FnSpec := ⟨[.d (.int .i64) none, .ag [.d .str none, .d .str none]], [.d .str none, .d .bool none], fun x => spec_EncodeRecord.f k x.1 x.2.1 x.2.2⟩
noncomputable def spec_EncodeRecord.T : FnText := ⟨(conv [] (bodyOf Go.Proofs.Tryd.f14) 0).1, Go.Proofs.Tryd.f14.results.toList, 17, [], [.d (.int .i64) none, .ag [.d .str none, .d .str none]], [.d .str none, .d .bool none]⟩
noncomputable def spec_EncodeRecord.tbl (k : Nat) : Tbl := [(42, spec_l1In.spec k), (43, spec_l27Good.spec k), (44, spec_l27Line.spec k)]
theorem spec_EncodeRecord.e (k : Nat) (o : Nat → St → Option (ByteArray × Bool)) (a0 : Int) (a1_0 : ByteArray) (a1_1 : ByteArray) : spec_EncodeRecord.T.main tyt (spec_EncodeRecord.tbl k) o (a0, a1_0, a1_1) = spec_EncodeRecord.m k a0 a1_0 a1_1 := by kernel_rfl
theorem spec_EncodeRecord.ok : spec_EncodeRecord.T.ok = true := by kernel_rfl
theorem spec_EncodeRecord.tblok (k : Nat) : TblOk Go.Proofs.Tryd.prog (spec_EncodeRecord.tbl k) := TblOk.cons (spec_l1In.sound k) (TblOk.cons (spec_l27Good.sound k) (TblOk.cons (spec_l27Line.sound k) (TblOk.nil _)))
theorem spec_EncodeRecord.sound (k : Nat) : Sound Go.Proofs.Tryd.prog 14 (spec_EncodeRecord.spec k) := by
  have h := fn_ok (F := spec_EncodeRecord.T) (tbl := spec_EncodeRecord.tbl) mixed tyok Go.Proofs.Tryd.func14 (by kernel_rfl) (c0 := bodyOf Go.Proofs.Tryd.f14) rfl (conv_code _ _ _) rfl rfl spec_EncodeRecord.ok k (fun j _ => spec_EncodeRecord.tblok j)
  have e : spec_EncodeRecord.spec k = ⟨spec_EncodeRecord.T.ps, spec_EncodeRecord.T.rs, spec_EncodeRecord.T.ev tyt spec_EncodeRecord.tbl k⟩ := congrArg (FnSpec.mk _ _) (funext fun x => ((spec_EncodeRecord.e k (spec_EncodeRecord.T.run tyt spec_EncodeRecord.tbl k) x.1 x.2.1 x.2.2).trans (by rfl)).symm)
  rw [e]
  exact h
/-! ### impl_in: function 45 -/
def impl_in.m (k : Nat) (a0 : Int) (a1 : Int) (a2 : Int) : Option (Bool) := (if a1 ≤ a0 then (some (decide (a0 ≤ a2))) else (some false))
def impl_in.f (k : Nat) (a0 : Int) (a1 : Int) (a2 : Int) : Option (Bool) := impl_in.m k a0 a1 a2
noncomputable def impl_in.spec (k : Nat) : FnSpec := ⟨[.d (.int .i64) none, .d (.int .i64) none, .d (.int .i64) none], [.d .bool none], fun x => impl_in.f k x.1 x.2.1 x.2.2⟩
noncomputable def impl_in.T : FnText := ⟨(conv [] (bodyOf Go.Proofs.Tryd.f45) 0).1, Go.Proofs.Tryd.f45.results.toList, 15, [], [.d (.int .i64) none, .d (.int .i64) none, .d (.int .i64) none], [.d .bool none]⟩
noncomputable def impl_in.tbl (k : Nat) : Tbl := []
theorem impl_in.e (k : Nat) (o : Nat → St → Option (Bool)) (a0 : Int) (a1 : Int) (a2 : Int) : impl_in.T.main tyt (impl_in.tbl k) o (a0, a1, a2) = impl_in.m k a0 a1 a2 := by kernel_rfl
theorem impl_in.ok : impl_in.T.ok = true := by kernel_rfl
theorem impl_in.tblok (k : Nat) : TblOk Go.Proofs.Tryd.prog (impl_in.tbl k) := TblOk.nil _
theorem impl_in.sound (k : Nat) : Sound Go.Proofs.Tryd.prog 45 (impl_in.spec k) := by
  have h := fn_ok (F := impl_in.T) (tbl := impl_in.tbl) mixed tyok Go.Proofs.Tryd.func45 (by kernel_rfl) (c0 := bodyOf Go.Proofs.Tryd.f45) rfl (conv_code _ _ _) rfl rfl impl_in.ok k (fun j _ => impl_in.tblok j)
  have e : impl_in.spec k = ⟨impl_in.T.ps, impl_in.T.rs, impl_in.T.ev tyt impl_in.tbl k⟩ := congrArg (FnSpec.mk _ _) (funext fun x => ((impl_in.e k (impl_in.T.run tyt impl_in.tbl k) x.1 x.2.1 x.2.2).trans (by rfl)).symm)
  rw [e]
  exact h
/-! ### impl_isPlain_1: function 75 -/
def impl_isPlain_1.m (k : Nat) (a0 : Int) : Option (Bool) := (if 32 ≤ a0 then (if a0 ≤ 126 then (some (decide (¬ a0 = 35))) else (some false)) else (some false))
def impl_isPlain_1.f (k : Nat) (a0 : Int) : Option (Bool) := impl_isPlain_1.m k a0
noncomputable def impl_isPlain_1.spec (k : Nat) : FnSpec := ⟨[.d (.int .u8) none], [.d .bool none], fun x => impl_isPlain_1.f k x⟩
noncomputable def impl_isPlain_1.T : FnText := ⟨(conv [] (bodyOf Go.Proofs.Tryd.f75) 0).1, Go.Proofs.Tryd.f75.results.toList, 13, [], [.d (.int .u8) none], [.d .bool none]⟩
noncomputable def impl_isPlain_1.tbl (k : Nat) : Tbl := []
theorem impl_isPlain_1.e (k : Nat) (o : Nat → St → Option (Bool)) (a0 : Int) : impl_isPlain_1.T.main tyt (impl_isPlain_1.tbl k) o a0 = impl_isPlain_1.m k a0 := by kernel_rfl
theorem impl_isPlain_1.ok : impl_isPlain_1.T.ok = true := by kernel_rfl
theorem impl_isPlain_1.tblok (k : Nat) : TblOk Go.Proofs.Tryd.prog (impl_isPlain_1.tbl k) := TblOk.nil _
theorem impl_isPlain_1.sound (k : Nat) : Sound Go.Proofs.Tryd.prog 75 (impl_isPlain_1.spec k) := by
  have h := fn_ok (F := impl_isPlain_1.T) (tbl := impl_isPlain_1.tbl) mixed tyok Go.Proofs.Tryd.func75 (by kernel_rfl) (c0 := bodyOf Go.Proofs.Tryd.f75) rfl (conv_code _ _ _) rfl rfl impl_isPlain_1.ok k (fun j _ => impl_isPlain_1.tblok j)
  have e : impl_isPlain_1.spec k = ⟨impl_isPlain_1.T.ps, impl_isPlain_1.T.rs, impl_isPlain_1.T.ev tyt impl_isPlain_1.tbl k⟩ := congrArg (FnSpec.mk _ _) (funext fun x => ((impl_isPlain_1.e k (impl_isPlain_1.T.run tyt impl_isPlain_1.tbl k) x).trans (by rfl)).symm)
  rw [e]
  exact h
/-! ### impl_areAll_byte_1__impl_isPlain_1: function 83 -/
def impl_areAll_byte_1__impl_isPlain_1.m (k : Nat) (a0 : Int) : Option (Bool) := ((impl_isPlain_1.f k a0).bind fun r1 => (some (!r1)))
def impl_areAll_byte_1__impl_isPlain_1.f (k : Nat) (a0 : Int) : Option (Bool) := impl_areAll_byte_1__impl_isPlain_1.m k a0
noncomputable def impl_areAll_byte_1__impl_isPlain_1.spec (k : Nat) : FnSpec := ⟨[.d (.int .u8) none, .rb [.fv 75 [] []]], [.d .bool none], fun x => impl_areAll_byte_1__impl_isPlain_1.f k x⟩
noncomputable def impl_areAll_byte_1__impl_isPlain_1.T : FnText := ⟨(conv [] (bodyOf Go.Proofs.Tryd.f83) 0).1, Go.Proofs.Tryd.f83.results.toList, 8, [], [.d (.int .u8) none, .rb [.fv 75 [] []]], [.d .bool none]⟩
noncomputable def impl_areAll_byte_1__impl_isPlain_1.tbl (k : Nat) : Tbl := [(75, impl_isPlain_1.spec k)]
theorem impl_areAll_byte_1__impl_isPlain_1.e (k : Nat) (o : Nat → St → Option (Bool)) (a0 : Int) : impl_areAll_byte_1__impl_isPlain_1.T.main tyt (impl_areAll_byte_1__impl_isPlain_1.tbl k) o a0 = impl_areAll_byte_1__impl_isPlain_1.m k a0 := by kernel_rfl
theorem impl_areAll_byte_1__impl_isPlain_1.ok : impl_areAll_byte_1__impl_isPlain_1.T.ok = true := by kernel_rfl
theorem impl_areAll_byte_1__impl_isPlain_1.tblok (k : Nat) : TblOk Go.Proofs.Tryd.prog (impl_areAll_byte_1__impl_isPlain_1.tbl k) := TblOk.cons (impl_isPlain_1.sound k) (TblOk.nil _)
theorem impl_areAll_byte_1__impl_isPlain_1.sound (k : Nat) : Sound Go.Proofs.Tryd.prog 83 (impl_areAll_byte_1__impl_isPlain_1.spec k) := by
  have h := fn_ok (F := impl_areAll_byte_1__impl_isPlain_1.T) (tbl := impl_areAll_byte_1__impl_isPlain_1.tbl) mixed tyok Go.Proofs.Tryd.func83 (by kernel_rfl) (c0 := bodyOf Go.Proofs.Tryd.f83) rfl (conv_code _ _ _) rfl rfl impl_areAll_byte_1__impl_isPlain_1.ok k (fun j _ => impl_areAll_byte_1__impl_isPlain_1.tblok j)
  have e : impl_areAll_byte_1__impl_isPlain_1.spec k = ⟨impl_areAll_byte_1__impl_isPlain_1.T.ps, impl_areAll_byte_1__impl_isPlain_1.T.rs, impl_areAll_byte_1__impl_isPlain_1.T.ev tyt impl_areAll_byte_1__impl_isPlain_1.tbl k⟩ := congrArg (FnSpec.mk _ _) (funext fun x => ((impl_areAll_byte_1__impl_isPlain_1.e k (impl_areAll_byte_1__impl_isPlain_1.T.run tyt impl_areAll_byte_1__impl_isPlain_1.tbl k) x).trans (by rfl)).symm)
  rw [e]
  exact h
/-! ### slices_IndexFunc_byte_byte__impl_areAll_byte_1__impl_isPlain_1: function 88 -/
def slices_IndexFunc_byte_byte__impl_areAll_byte_1__impl_isPlain_1.b3 (o3 : List Int → Int → Int → Option (Int)) (k : Nat) (l0_3 : List Int) (x1_3 : Int) (x2_3 : Int) : Option (Int) := (if x2_3 < x1_3 then ((chk l0_3.length x2_3).bind fun i1 => ((impl_areAll_byte_1__impl_isPlain_1.f k (l0_3.getD i1 0)).bind fun r2 => (cond r2 (some x2_3) (o3 l0_3 x1_3 (w64 (x2_3 + 1)))))) else (some (-1)))
def slices_IndexFunc_byte_byte__impl_areAll_byte_1__impl_isPlain_1.l3 : Nat → List Int → Int → Int → Option (Int)
  | 0, _, _, _ => none
  | k + 1, l0_3, x1_3, x2_3 => slices_IndexFunc_byte_byte__impl_areAll_byte_1__impl_isPlain_1.b3 (slices_IndexFunc_byte_byte__impl_areAll_byte_1__impl_isPlain_1.l3 k) k l0_3 x1_3 x2_3
def slices_IndexFunc_byte_byte__impl_areAll_byte_1__impl_isPlain_1.m (o3 : List Int → Int → Int → Option (Int)) (k : Nat) (l0 : List Int) : Option (Int) := (o3 l0 (l0.length : Int) 0)
def slices_IndexFunc_byte_byte__impl_areAll_byte_1__impl_isPlain_1.f (k : Nat) (l0 : List Int) : Option (Int) := slices_IndexFunc_byte_byte__impl_areAll_byte_1__impl_isPlain_1.m (slices_IndexFunc_byte_byte__impl_areAll_byte_1__impl_isPlain_1.l3 k) k l0
noncomputable def slices_IndexFunc_byte_byte__impl_areAll_byte_1__impl_isPlain_1.spec (k : Nat) : FnSpec := ⟨[.d (.sl (.int .u8)) none, .fv 83 [] [.rb [.fv 75 [] []]]], [.d (.int .i64) none], fun x => slices_IndexFunc_byte_byte__impl_areAll_byte_1__impl_isPlain_1.f k x⟩
def slices_IndexFunc_byte_byte__impl_areAll_byte_1__impl_isPlain_1.S3 (l0_3 : List Int) (x1_3 : Int) (x2_3 : Int) : St := ⟨[(0, .val (.sl (.int .u8)) l0_3), (1, .fn 83 [] [.cptr [.fn 75 [] []] 0]), (7, .val (.int .i64) x1_3), (8, .val (.int .i64) x2_3)], [], 1000⟩
noncomputable def slices_IndexFunc_byte_byte__impl_areAll_byte_1__impl_isPlain_1.T : FnText := ⟨(conv [] (bodyOf Go.Proofs.Tryd.f88) 0).1, Go.Proofs.Tryd.f88.results.toList, 19, [(3, [(0, .rd (.sl (.int .u8))), (1, .as), (7, .rd (.int .i64)), (8, .rd (.int .i64))])], [.d (.sl (.int .u8)) none, .fv 83 [] [.rb [.fv 75 [] []]]], [.d (.int .i64) none]⟩
noncomputable def slices_IndexFunc_byte_byte__impl_areAll_byte_1__impl_isPlain_1.tbl (k : Nat) : Tbl := [(83, impl_areAll_byte_1__impl_isPlain_1.spec k)]
theorem slices_IndexFunc_byte_byte__impl_areAll_byte_1__impl_isPlain_1.e3 (k : Nat) (o : Nat → St → Option (Int)) (l0_3 : List Int) (x1_3 : Int) (x2_3 : Int) : slices_IndexFunc_byte_byte__impl_areAll_byte_1__impl_isPlain_1.T.step tyt (slices_IndexFunc_byte_byte__impl_areAll_byte_1__impl_isPlain_1.tbl k) o 3 (slices_IndexFunc_byte_byte__impl_areAll_byte_1__impl_isPlain_1.S3 l0_3 x1_3 x2_3) = slices_IndexFunc_byte_byte__impl_areAll_byte_1__impl_isPlain_1.b3 (fun l0_3 x1_3 x2_3 => o 3 (slices_IndexFunc_byte_byte__impl_areAll_byte_1__impl_isPlain_1.S3 l0_3 x1_3 x2_3)) k l0_3 x1_3 x2_3 := by kernel_rfl
theorem slices_IndexFunc_byte_byte__impl_areAll_byte_1__impl_isPlain_1.e (k : Nat) (o : Nat → St → Option (Int)) (l0 : List Int) : slices_IndexFunc_byte_byte__impl_areAll_byte_1__impl_isPlain_1.T.main tyt (slices_IndexFunc_byte_byte__impl_areAll_byte_1__impl_isPlain_1.tbl k) o l0 = slices_IndexFunc_byte_byte__impl_areAll_byte_1__impl_isPlain_1.m (fun l0_3 x1_3 x2_3 => o 3 (slices_IndexFunc_byte_byte__impl_areAll_byte_1__impl_isPlain_1.S3 l0_3 x1_3 x2_3)) k l0 := by kernel_rfl
theorem slices_IndexFunc_byte_byte__impl_areAll_byte_1__impl_isPlain_1.ok : slices_IndexFunc_byte_byte__impl_areAll_byte_1__impl_isPlain_1.T.ok = true := by kernel_rfl
theorem slices_IndexFunc_byte_byte__impl_areAll_byte_1__impl_isPlain_1.run (k : Nat) : (∀ (l0_3 : List Int) (x1_3 : Int) (x2_3 : Int), slices_IndexFunc_byte_byte__impl_areAll_byte_1__impl_isPlain_1.T.run tyt slices_IndexFunc_byte_byte__impl_areAll_byte_1__impl_isPlain_1.tbl k 3 (slices_IndexFunc_byte_byte__impl_areAll_byte_1__impl_isPlain_1.S3 l0_3 x1_3 x2_3) = slices_IndexFunc_byte_byte__impl_areAll_byte_1__impl_isPlain_1.l3 k l0_3 x1_3 x2_3) := by
  induction k with
  | zero => exact fun l0_3 x1_3 x2_3 => rfl
  | succ k ih =>
    exact fun l0_3 x1_3 x2_3 => by
      have q3 : (fun l0_3 x1_3 x2_3 => slices_IndexFunc_byte_byte__impl_areAll_byte_1__impl_isPlain_1.T.run tyt slices_IndexFunc_byte_byte__impl_areAll_byte_1__impl_isPlain_1.tbl k 3 (slices_IndexFunc_byte_byte__impl_areAll_byte_1__impl_isPlain_1.S3 l0_3 x1_3 x2_3)) = slices_IndexFunc_byte_byte__impl_areAll_byte_1__impl_isPlain_1.l3 k := by funext l0_3 x1_3 x2_3; exact ih l0_3 x1_3 x2_3
      exact (slices_IndexFunc_byte_byte__impl_areAll_byte_1__impl_isPlain_1.e3 k (slices_IndexFunc_byte_byte__impl_areAll_byte_1__impl_isPlain_1.T.run tyt slices_IndexFunc_byte_byte__impl_areAll_byte_1__impl_isPlain_1.tbl k) l0_3 x1_3 x2_3).trans (by rw [q3]; rfl)
theorem slices_IndexFunc_byte_byte__impl_areAll_byte_1__impl_isPlain_1.tblok (k : Nat) : TblOk Go.Proofs.Tryd.prog (slices_IndexFunc_byte_byte__impl_areAll_byte_1__impl_isPlain_1.tbl k) := TblOk.cons (impl_areAll_byte_1__impl_isPlain_1.sound k) (TblOk.nil _)
theorem slices_IndexFunc_byte_byte__impl_areAll_byte_1__impl_isPlain_1.sound (k : Nat) : Sound Go.Proofs.Tryd.prog 88 (slices_IndexFunc_byte_byte__impl_areAll_byte_1__impl_isPlain_1.spec k) := by
  have h := fn_ok (F := slices_IndexFunc_byte_byte__impl_areAll_byte_1__impl_isPlain_1.T) (tbl := slices_IndexFunc_byte_byte__impl_areAll_byte_1__impl_isPlain_1.tbl) mixed tyok Go.Proofs.Tryd.func88 (by kernel_rfl) (c0 := bodyOf Go.Proofs.Tryd.f88) rfl (conv_code _ _ _) rfl rfl slices_IndexFunc_byte_byte__impl_areAll_byte_1__impl_isPlain_1.ok k (fun j _ => slices_IndexFunc_byte_byte__impl_areAll_byte_1__impl_isPlain_1.tblok j)
  have q3 : (fun l0_3 x1_3 x2_3 => slices_IndexFunc_byte_byte__impl_areAll_byte_1__impl_isPlain_1.T.run tyt slices_IndexFunc_byte_byte__impl_areAll_byte_1__impl_isPlain_1.tbl k 3 (slices_IndexFunc_byte_byte__impl_areAll_byte_1__impl_isPlain_1.S3 l0_3 x1_3 x2_3)) = slices_IndexFunc_byte_byte__impl_areAll_byte_1__impl_isPlain_1.l3 k := by funext l0_3 x1_3 x2_3; exact (slices_IndexFunc_byte_byte__impl_areAll_byte_1__impl_isPlain_1.run k) l0_3 x1_3 x2_3
  have e : slices_IndexFunc_byte_byte__impl_areAll_byte_1__impl_isPlain_1.spec k = ⟨slices_IndexFunc_byte_byte__impl_areAll_byte_1__impl_isPlain_1.T.ps, slices_IndexFunc_byte_byte__impl_areAll_byte_1__impl_isPlain_1.T.rs, slices_IndexFunc_byte_byte__impl_areAll_byte_1__impl_isPlain_1.T.ev tyt slices_IndexFunc_byte_byte__impl_areAll_byte_1__impl_isPlain_1.tbl k⟩ := congrArg (FnSpec.mk _ _) (funext fun x => ((slices_IndexFunc_byte_byte__impl_areAll_byte_1__impl_isPlain_1.e k (slices_IndexFunc_byte_byte__impl_areAll_byte_1__impl_isPlain_1.T.run tyt slices_IndexFunc_byte_byte__impl_areAll_byte_1__impl_isPlain_1.tbl k) x).trans (by rw [q3]; rfl)).symm)
  rw [e]
  exact h
/-! ### slices_ContainsFunc_byte_byte__impl_areAll_byte_1__impl_isPlain_1: function 82 -/
def slices_ContainsFunc_byte_byte__impl_areAll_byte_1__impl_isPlain_1.m (k : Nat) (l0 : List Int) : Option (Bool) := ((slices_IndexFunc_byte_byte__impl_areAll_byte_1__impl_isPlain_1.f k l0).bind fun r1 => (some (decide (0 ≤ r1))))
def slices_ContainsFunc_byte_byte__impl_areAll_byte_1__impl_isPlain_1.f (k : Nat) (l0 : List Int) : Option (Bool) := slices_ContainsFunc_byte_byte__impl_areAll_byte_1__impl_isPlain_1.m k l0
noncomputable def slices_ContainsFunc_byte_byte__impl_areAll_byte_1__impl_isPlain_1.spec (k : Nat) : FnSpec := ⟨[.d (.sl (.int .u8)) none, .fv 83 [] [.rb [.fv 75 [] []]]], [.d .bool none], fun x => slices_ContainsFunc_byte_byte__impl_areAll_byte_1__impl_isPlain_1.f k x⟩
noncomputable def slices_ContainsFunc_byte_byte__impl_areAll_byte_1__impl_isPlain_1.T : FnText := ⟨(conv [] (bodyOf Go.Proofs.Tryd.f82) 0).1, Go.Proofs.Tryd.f82.results.toList, 9, [], [.d (.sl (.int .u8)) none, .fv 83 [] [.rb [.fv 75 [] []]]], [.d .bool none]⟩
noncomputable def slices_ContainsFunc_byte_byte__impl_areAll_byte_1__impl_isPlain_1.tbl (k : Nat) : Tbl := [(88, slices_IndexFunc_byte_byte__impl_areAll_byte_1__impl_isPlain_1.spec k)]
theorem slices_ContainsFunc_byte_byte__impl_areAll_byte_1__impl_isPlain_1.e (k : Nat) (o : Nat → St → Option (Bool)) (l0 : List Int) : slices_ContainsFunc_byte_byte__impl_areAll_byte_1__impl_isPlain_1.T.main tyt (slices_ContainsFunc_byte_byte__impl_areAll_byte_1__impl_isPlain_1.tbl k) o l0 = slices_ContainsFunc_byte_byte__impl_areAll_byte_1__impl_isPlain_1.m k l0 := by kernel_rfl
theorem slices_ContainsFunc_byte_byte__impl_areAll_byte_1__impl_isPlain_1.ok : slices_ContainsFunc_byte_byte__impl_areAll_byte_1__impl_isPlain_1.T.ok = true := by kernel_rfl
theorem slices_ContainsFunc_byte_byte__impl_areAll_byte_1__impl_isPlain_1.tblok (k : Nat) : TblOk Go.Proofs.Tryd.prog (slices_ContainsFunc_byte_byte__impl_areAll_byte_1__impl_isPlain_1.tbl k) := TblOk.cons (slices_IndexFunc_byte_byte__impl_areAll_byte_1__impl_isPlain_1.sound k) (TblOk.nil _)
theorem slices_ContainsFunc_byte_byte__impl_areAll_byte_1__impl_isPlain_1.sound (k : Nat) : Sound Go.Proofs.Tryd.prog 82 (slices_ContainsFunc_byte_byte__impl_areAll_byte_1__impl_isPlain_1.spec k) := by
  have h := fn_ok (F := slices_ContainsFunc_byte_byte__impl_areAll_byte_1__impl_isPlain_1.T) (tbl := slices_ContainsFunc_byte_byte__impl_areAll_byte_1__impl_isPlain_1.tbl) mixed tyok Go.Proofs.Tryd.func82 (by kernel_rfl) (c0 := bodyOf Go.Proofs.Tryd.f82) rfl (conv_code _ _ _) rfl rfl slices_ContainsFunc_byte_byte__impl_areAll_byte_1__impl_isPlain_1.ok k (fun j _ => slices_ContainsFunc_byte_byte__impl_areAll_byte_1__impl_isPlain_1.tblok j)
  have e : slices_ContainsFunc_byte_byte__impl_areAll_byte_1__impl_isPlain_1.spec k = ⟨slices_ContainsFunc_byte_byte__impl_areAll_byte_1__impl_isPlain_1.T.ps, slices_ContainsFunc_byte_byte__impl_areAll_byte_1__impl_isPlain_1.T.rs, slices_ContainsFunc_byte_byte__impl_areAll_byte_1__impl_isPlain_1.T.ev tyt slices_ContainsFunc_byte_byte__impl_areAll_byte_1__impl_isPlain_1.tbl k⟩ := congrArg (FnSpec.mk _ _) (funext fun x => ((slices_ContainsFunc_byte_byte__impl_areAll_byte_1__impl_isPlain_1.e k (slices_ContainsFunc_byte_byte__impl_areAll_byte_1__impl_isPlain_1.T.run tyt slices_ContainsFunc_byte_byte__impl_areAll_byte_1__impl_isPlain_1.tbl k) x).trans (by rfl)).symm)
  rw [e]
  exact h
/-! ### impl_areAll_byte__impl_isPlain_1: function 74 -/
def impl_areAll_byte__impl_isPlain_1.m (k : Nat) (l0 : List Int) : Option (Bool) := ((slices_ContainsFunc_byte_byte__impl_areAll_byte_1__impl_isPlain_1.f k l0).bind fun r1 => (some (!r1)))
def impl_areAll_byte__impl_isPlain_1.f (k : Nat) (l0 : List Int) : Option (Bool) := impl_areAll_byte__impl_isPlain_1.m k l0
noncomputable def impl_areAll_byte__impl_isPlain_1.spec (k : Nat) : FnSpec := ⟨[.d (.sl (.int .u8)) none, .fv 75 [] []], [.d .bool none], fun x => impl_areAll_byte__impl_isPlain_1.f k x⟩
noncomputable def impl_areAll_byte__impl_isPlain_1.T : FnText := ⟨(conv [] (bodyOf Go.Proofs.Tryd.f74) 0).1, Go.Proofs.Tryd.f74.results.toList, 9, [], [.d (.sl (.int .u8)) none, .fv 75 [] []], [.d .bool none]⟩
noncomputable def impl_areAll_byte__impl_isPlain_1.tbl (k : Nat) : Tbl := [(82, slices_ContainsFunc_byte_byte__impl_areAll_byte_1__impl_isPlain_1.spec k)]
theorem impl_areAll_byte__impl_isPlain_1.e (k : Nat) (o : Nat → St → Option (Bool)) (l0 : List Int) : impl_areAll_byte__impl_isPlain_1.T.main tyt (impl_areAll_byte__impl_isPlain_1.tbl k) o l0 = impl_areAll_byte__impl_isPlain_1.m k l0 := by kernel_rfl
theorem impl_areAll_byte__impl_isPlain_1.ok : impl_areAll_byte__impl_isPlain_1.T.ok = true := by kernel_rfl
theorem impl_areAll_byte__impl_isPlain_1.tblok (k : Nat) : TblOk Go.Proofs.Tryd.prog (impl_areAll_byte__impl_isPlain_1.tbl k) := TblOk.cons (slices_ContainsFunc_byte_byte__impl_areAll_byte_1__impl_isPlain_1.sound k) (TblOk.nil _)
theorem impl_areAll_byte__impl_isPlain_1.sound (k : Nat) : Sound Go.Proofs.Tryd.prog 74 (impl_areAll_byte__impl_isPlain_1.spec k) := by
  have h := fn_ok (F := impl_areAll_byte__impl_isPlain_1.T) (tbl := impl_areAll_byte__impl_isPlain_1.tbl) mixed tyok Go.Proofs.Tryd.func74 (by kernel_rfl) (c0 := bodyOf Go.Proofs.Tryd.f74) rfl (conv_code _ _ _) rfl rfl impl_areAll_byte__impl_isPlain_1.ok k (fun j _ => impl_areAll_byte__impl_isPlain_1.tblok j)
  have e : impl_areAll_byte__impl_isPlain_1.spec k = ⟨impl_areAll_byte__impl_isPlain_1.T.ps, impl_areAll_byte__impl_isPlain_1.T.rs, impl_areAll_byte__impl_isPlain_1.T.ev tyt impl_areAll_byte__impl_isPlain_1.tbl k⟩ := congrArg (FnSpec.mk _ _) (funext fun x => ((impl_areAll_byte__impl_isPlain_1.e k (impl_areAll_byte__impl_isPlain_1.T.run tyt impl_areAll_byte__impl_isPlain_1.tbl k) x).trans (by rfl)).symm)
  rw [e]
  exact h
/-! ### impl_isPlain: function 61 -/
def impl_isPlain.m (k : Nat) (a0 : ByteArray) : Option (Bool) := ((impl_areAll_byte__impl_isPlain_1.f k (bytesOf a0)).bind fun r1 => (some r1))
def impl_isPlain.f (k : Nat) (a0 : ByteArray) : Option (Bool) := impl_isPlain.m k a0
noncomputable def impl_isPlain.spec (k : Nat) : FnSpec := ⟨[.d .str none], [.d .bool none], fun x => impl_isPlain.f k x⟩
noncomputable def impl_isPlain.T : FnText := ⟨(conv [] (bodyOf Go.Proofs.Tryd.f61) 0).1, Go.Proofs.Tryd.f61.results.toList, 6, [], [.d .str none], [.d .bool none]⟩
noncomputable def impl_isPlain.tbl (k : Nat) : Tbl := [(74, impl_areAll_byte__impl_isPlain_1.spec k)]
theorem impl_isPlain.e (k : Nat) (o : Nat → St → Option (Bool)) (a0 : ByteArray) : impl_isPlain.T.main tyt (impl_isPlain.tbl k) o a0 = impl_isPlain.m k a0 := by kernel_rfl
theorem impl_isPlain.ok : impl_isPlain.T.ok = true := by kernel_rfl
theorem impl_isPlain.tblok (k : Nat) : TblOk Go.Proofs.Tryd.prog (impl_isPlain.tbl k) := TblOk.cons (impl_areAll_byte__impl_isPlain_1.sound k) (TblOk.nil _)
theorem impl_isPlain.sound (k : Nat) : Sound Go.Proofs.Tryd.prog 61 (impl_isPlain.spec k) := by
  have h := fn_ok (F := impl_isPlain.T) (tbl := impl_isPlain.tbl) mixed tyok Go.Proofs.Tryd.func61 (by kernel_rfl) (c0 := bodyOf Go.Proofs.Tryd.f61) rfl (conv_code _ _ _) rfl rfl impl_isPlain.ok k (fun j _ => impl_isPlain.tblok j)
  have e : impl_isPlain.spec k = ⟨impl_isPlain.T.ps, impl_isPlain.T.rs, impl_isPlain.T.ev tyt impl_isPlain.tbl k⟩ := congrArg (FnSpec.mk _ _) (funext fun x => ((impl_isPlain.e k (impl_isPlain.T.run tyt impl_isPlain.tbl k) x).trans (by rfl)).symm)
  rw [e]
  exact h
/-! ### strings_Contains: function 62, by its contract -/
def strings_Contains.f (k : Nat) (a0 : ByteArray) (a1 : ByteArray) : Option (Bool) := containsF a0 a1
noncomputable def strings_Contains.spec (k : Nat) : FnSpec := ⟨[.d .str none, .d .str none], [.d .bool none], fun x => strings_Contains.f k x.1 x.2⟩
theorem strings_Contains.sound (k : Nat) : Sound Go.Proofs.Tryd.prog 62 (strings_Contains.spec k) := strContains_ok

/-! ### impl_IsValidRecord: function 39 -/
def impl_IsValidRecord.b1 (k : Nat) (x0_1 : ByteArray) (x1_1 : ByteArray) (x2_1 : Bool) : Option (Bool) := (cond x2_1 (if (x1_1.size : Int) ≤ 200 then ((impl_isPlain.f k x1_1).bind fun r4 => (some r4)) else (some false)) (some false))
def impl_IsValidRecord.l1 : Nat → ByteArray → ByteArray → Bool → Option (Bool)
  | 0, _, _, _ => none
  | k + 1, x0_1, x1_1, x2_1 => impl_IsValidRecord.b1 k x0_1 x1_1 x2_1
def impl_IsValidRecord.m (o1 : ByteArray → ByteArray → Bool → Option (Bool)) (k : Nat) (a0_0 : ByteArray) (a0_1 : ByteArray) : Option (Bool) := ((impl_in.f k (a0_0.size : Int) 1 160).bind fun r1 => (cond r1 ((impl_isPlain.f k a0_0).bind fun r2 => (cond r2 ((strings_Contains.f k a0_0 (⟨#[64]⟩ : ByteArray)).bind fun r3 => (o1 a0_0 a0_1 (!r3))) (o1 a0_0 a0_1 false))) (o1 a0_0 a0_1 false)))
def impl_IsValidRecord.f (k : Nat) (a0_0 : ByteArray) (a0_1 : ByteArray) : Option (Bool) := impl_IsValidRecord.m (impl_IsValidRecord.l1 k) k a0_0 a0_1
noncomputable def impl_IsValidRecord.spec (k : Nat) : FnSpec := ⟨[.ag [.d .str none, .d .str none]], [.d .bool none], fun x => impl_IsValidRecord.f k x.1 x.2⟩
def impl_IsValidRecord.S1 (x0_1 : ByteArray) (x1_1 : ByteArray) (x2_1 : Bool) : St := ⟨[(1, .ptr 100 0), (3, .val .bool x2_1)], [(100, some (.box [.val .str x0_1, .val .str x1_1]))], 1000⟩
noncomputable def impl_IsValidRecord.T : FnText := ⟨(conv [1] (bodyOf Go.Proofs.Tryd.f39) 0).1, Go.Proofs.Tryd.f39.results.toList, 31, [(1, [(1, .bx 100 [.rd .str, .rd .str]), (3, .rd .bool)])], [.ag [.d .str none, .d .str none]], [.d .bool none]⟩
noncomputable def impl_IsValidRecord.tbl (k : Nat) : Tbl := [(45, impl_in.spec k), (61, impl_isPlain.spec k), (62, strings_Contains.spec k)]
theorem impl_IsValidRecord.e1 (k : Nat) (o : Nat → St → Option (Bool)) (x0_1 : ByteArray) (x1_1 : ByteArray) (x2_1 : Bool) : impl_IsValidRecord.T.step tyt (impl_IsValidRecord.tbl k) o 1 (impl_IsValidRecord.S1 x0_1 x1_1 x2_1) = impl_IsValidRecord.b1 k x0_1 x1_1 x2_1 := by kernel_rfl
theorem impl_IsValidRecord.e (k : Nat) (o : Nat → St → Option (Bool)) (a0_0 : ByteArray) (a0_1 : ByteArray) : impl_IsValidRecord.T.main tyt (impl_IsValidRecord.tbl k) o (a0_0, a0_1) = impl_IsValidRecord.m (fun x0_1 x1_1 x2_1 => o 1 (impl_IsValidRecord.S1 x0_1 x1_1 x2_1)) k a0_0 a0_1 := by kernel_rfl
theorem impl_IsValidRecord.ok : impl_IsValidRecord.T.ok = true := by kernel_rfl
theorem impl_IsValidRecord.run (k : Nat) : (∀ (x0_1 : ByteArray) (x1_1 : ByteArray) (x2_1 : Bool), impl_IsValidRecord.T.run tyt impl_IsValidRecord.tbl k 1 (impl_IsValidRecord.S1 x0_1 x1_1 x2_1) = impl_IsValidRecord.l1 k x0_1 x1_1 x2_1) := by
  induction k with
  | zero => exact fun x0_1 x1_1 x2_1 => rfl
  | succ k ih =>
    exact fun x0_1 x1_1 x2_1 => by
      exact (impl_IsValidRecord.e1 k (impl_IsValidRecord.T.run tyt impl_IsValidRecord.tbl k) x0_1 x1_1 x2_1).trans (by rfl)
theorem impl_IsValidRecord.tblok (k : Nat) : TblOk Go.Proofs.Tryd.prog (impl_IsValidRecord.tbl k) := TblOk.cons (impl_in.sound k) (TblOk.cons (impl_isPlain.sound k) (TblOk.cons (strings_Contains.sound k) (TblOk.nil _)))
theorem impl_IsValidRecord.sound (k : Nat) : Sound Go.Proofs.Tryd.prog 39 (impl_IsValidRecord.spec k) := by
  have h := fn_ok (F := impl_IsValidRecord.T) (tbl := impl_IsValidRecord.tbl) mixed tyok Go.Proofs.Tryd.func39 (by kernel_rfl) (c0 := bodyOf Go.Proofs.Tryd.f39) rfl (conv_code _ _ _) rfl rfl impl_IsValidRecord.ok k (fun j _ => impl_IsValidRecord.tblok j)
  have q1 : (fun x0_1 x1_1 x2_1 => impl_IsValidRecord.T.run tyt impl_IsValidRecord.tbl k 1 (impl_IsValidRecord.S1 x0_1 x1_1 x2_1)) = impl_IsValidRecord.l1 k := by funext x0_1 x1_1 x2_1; exact (impl_IsValidRecord.run k) x0_1 x1_1 x2_1
  have e : impl_IsValidRecord.spec k = ⟨impl_IsValidRecord.T.ps, impl_IsValidRecord.T.rs, impl_IsValidRecord.T.ev tyt impl_IsValidRecord.tbl k⟩ := congrArg (FnSpec.mk _ _) (funext fun x => ((impl_IsValidRecord.e k (impl_IsValidRecord.T.run tyt impl_IsValidRecord.tbl k) x.1 x.2).trans (by rw [q1]; rfl)).symm)
  rw [e]
  exact h
/-! ### strconv_Itoa: function 68, by its contract -/
def strconv_Itoa.f (k : Nat) (a0 : Int) : Option (ByteArray) := itoaF a0
noncomputable def strconv_Itoa.spec (k : Nat) : FnSpec := ⟨[.d (.int .i64) none], [.d .str none], fun x => strconv_Itoa.f k x⟩
theorem strconv_Itoa.sound (k : Nat) : Sound Go.Proofs.Tryd.prog 68 (strconv_Itoa.spec k) := strItoa_ok

/-! ### impl_decimal: function 47 -/
def impl_decimal.m (k : Nat) (a0 : Int) : Option (ByteArray) := ((strconv_Itoa.f k a0).bind fun r1 => (some r1))
def impl_decimal.f (k : Nat) (a0 : Int) : Option (ByteArray) := impl_decimal.m k a0
noncomputable def impl_decimal.spec (k : Nat) : FnSpec := ⟨[.d (.int .i64) none], [.d .str none], fun x => impl_decimal.f k x⟩
noncomputable def impl_decimal.T : FnText := ⟨(conv [] (bodyOf Go.Proofs.Tryd.f47) 0).1, Go.Proofs.Tryd.f47.results.toList, 5, [], [.d (.int .i64) none], [.d .str none]⟩
noncomputable def impl_decimal.tbl (k : Nat) : Tbl := [(68, strconv_Itoa.spec k)]
theorem impl_decimal.e (k : Nat) (o : Nat → St → Option (ByteArray)) (a0 : Int) : impl_decimal.T.main tyt (impl_decimal.tbl k) o a0 = impl_decimal.m k a0 := by kernel_rfl
theorem impl_decimal.ok : impl_decimal.T.ok = true := by kernel_rfl
theorem impl_decimal.tblok (k : Nat) : TblOk Go.Proofs.Tryd.prog (impl_decimal.tbl k) := TblOk.cons (strconv_Itoa.sound k) (TblOk.nil _)
theorem impl_decimal.sound (k : Nat) : Sound Go.Proofs.Tryd.prog 47 (impl_decimal.spec k) := by
  have h := fn_ok (F := impl_decimal.T) (tbl := impl_decimal.tbl) mixed tyok Go.Proofs.Tryd.func47 (by kernel_rfl) (c0 := bodyOf Go.Proofs.Tryd.f47) rfl (conv_code _ _ _) rfl rfl impl_decimal.ok k (fun j _ => impl_decimal.tblok j)
  have e : impl_decimal.spec k = ⟨impl_decimal.T.ps, impl_decimal.T.rs, impl_decimal.T.ev tyt impl_decimal.tbl k⟩ := congrArg (FnSpec.mk _ _) (funext fun x => ((impl_decimal.e k (impl_decimal.T.run tyt impl_decimal.tbl k) x).trans (by rfl)).symm)
  rw [e]
  exact h
/-! ### impl_Checksum: function 67 -/
def impl_Checksum.b7 (o7 : ByteArray → Int → Int → Int → Option (Int × Bool)) (k : Nat) (x0_7 : ByteArray) (x1_7 : Int) (x2_7 : Int) (x3_7 : Int) : Option (Int × Bool) := (if x3_7 < x2_7 then ((chk x0_7.size x3_7).bind fun i1 => ((rem (w64 ((w64 ((w64 (41 * x1_7)) + (w64 ((byteAt x0_7 i1))))) + 1)) 999979).bind fun q2 => (o7 x0_7 q2 x2_7 (w64 (x3_7 + 1))))) else (some (x1_7, true)))
def impl_Checksum.l7 : Nat → ByteArray → Int → Int → Int → Option (Int × Bool)
  | 0, _, _, _, _ => none
  | k + 1, x0_7, x1_7, x2_7, x3_7 => impl_Checksum.b7 (impl_Checksum.l7 k) k x0_7 x1_7 x2_7 x3_7
def impl_Checksum.m (o7 : ByteArray → Int → Int → Int → Option (Int × Bool)) (k : Nat) (a0 : ByteArray) : Option (Int × Bool) := (if 4000 < (a0.size : Int) then (some (0, false)) else (o7 a0 7 (a0.size : Int) 0))
def impl_Checksum.f (k : Nat) (a0 : ByteArray) : Option (Int × Bool) := impl_Checksum.m (impl_Checksum.l7 k) k a0
noncomputable def impl_Checksum.spec (k : Nat) : FnSpec := ⟨[.d .str none], [.d (.int .i64) none, .d .bool none], fun x => impl_Checksum.f k x⟩
def impl_Checksum.S7 (x0_7 : ByteArray) (x1_7 : Int) (x2_7 : Int) (x3_7 : Int) : St := ⟨[(0, .val .str x0_7), (4, .val (.int .i64) x1_7), (10, .val (.int .i64) x2_7), (11, .val (.int .i64) x3_7)], [], 1000⟩
noncomputable def impl_Checksum.T : FnText := ⟨(conv [] (bodyOf Go.Proofs.Tryd.f67) 0).1, Go.Proofs.Tryd.f67.results.toList, 25, [(7, [(0, .rd .str), (4, .rd (.int .i64)), (10, .rd (.int .i64)), (11, .rd (.int .i64))])], [.d .str none], [.d (.int .i64) none, .d .bool none]⟩
noncomputable def impl_Checksum.tbl (k : Nat) : Tbl := []
theorem impl_Checksum.e7 (k : Nat) (o : Nat → St → Option (Int × Bool)) (x0_7 : ByteArray) (x1_7 : Int) (x2_7 : Int) (x3_7 : Int) : impl_Checksum.T.step tyt (impl_Checksum.tbl k) o 7 (impl_Checksum.S7 x0_7 x1_7 x2_7 x3_7) = impl_Checksum.b7 (fun x0_7 x1_7 x2_7 x3_7 => o 7 (impl_Checksum.S7 x0_7 x1_7 x2_7 x3_7)) k x0_7 x1_7 x2_7 x3_7 := by kernel_rfl
theorem impl_Checksum.e (k : Nat) (o : Nat → St → Option (Int × Bool)) (a0 : ByteArray) : impl_Checksum.T.main tyt (impl_Checksum.tbl k) o a0 = impl_Checksum.m (fun x0_7 x1_7 x2_7 x3_7 => o 7 (impl_Checksum.S7 x0_7 x1_7 x2_7 x3_7)) k a0 := by kernel_rfl
theorem impl_Checksum.ok : impl_Checksum.T.ok = true := by kernel_rfl
theorem impl_Checksum.run (k : Nat) : (∀ (x0_7 : ByteArray) (x1_7 : Int) (x2_7 : Int) (x3_7 : Int), impl_Checksum.T.run tyt impl_Checksum.tbl k 7 (impl_Checksum.S7 x0_7 x1_7 x2_7 x3_7) = impl_Checksum.l7 k x0_7 x1_7 x2_7 x3_7) := by
  induction k with
  | zero => exact fun x0_7 x1_7 x2_7 x3_7 => rfl
  | succ k ih =>
    exact fun x0_7 x1_7 x2_7 x3_7 => by
      have q7 : (fun x0_7 x1_7 x2_7 x3_7 => impl_Checksum.T.run tyt impl_Checksum.tbl k 7 (impl_Checksum.S7 x0_7 x1_7 x2_7 x3_7)) = impl_Checksum.l7 k := by funext x0_7 x1_7 x2_7 x3_7; exact ih x0_7 x1_7 x2_7 x3_7
      exact (impl_Checksum.e7 k (impl_Checksum.T.run tyt impl_Checksum.tbl k) x0_7 x1_7 x2_7 x3_7).trans (by rw [q7]; rfl)
theorem impl_Checksum.tblok (k : Nat) : TblOk Go.Proofs.Tryd.prog (impl_Checksum.tbl k) := TblOk.nil _
theorem impl_Checksum.sound (k : Nat) : Sound Go.Proofs.Tryd.prog 67 (impl_Checksum.spec k) := by
  have h := fn_ok (F := impl_Checksum.T) (tbl := impl_Checksum.tbl) mixed tyok Go.Proofs.Tryd.func67 (by kernel_rfl) (c0 := bodyOf Go.Proofs.Tryd.f67) rfl (conv_code _ _ _) rfl rfl impl_Checksum.ok k (fun j _ => impl_Checksum.tblok j)
  have q7 : (fun x0_7 x1_7 x2_7 x3_7 => impl_Checksum.T.run tyt impl_Checksum.tbl k 7 (impl_Checksum.S7 x0_7 x1_7 x2_7 x3_7)) = impl_Checksum.l7 k := by funext x0_7 x1_7 x2_7 x3_7; exact (impl_Checksum.run k) x0_7 x1_7 x2_7 x3_7
  have e : impl_Checksum.spec k = ⟨impl_Checksum.T.ps, impl_Checksum.T.rs, impl_Checksum.T.ev tyt impl_Checksum.tbl k⟩ := congrArg (FnSpec.mk _ _) (funext fun x => ((impl_Checksum.e k (impl_Checksum.T.run tyt impl_Checksum.tbl k) x).trans (by rw [q7]; rfl)).symm)
  rw [e]
  exact h
/-! ### impl_AppendChecksum: function 46 -/
def impl_AppendChecksum.m (k : Nat) (a0 : ByteArray) : Option (ByteArray × Bool) := ((impl_Checksum.f k a0).bind fun r1 => ((catS a0 (⟨#[35]⟩ : ByteArray)).bind fun s2 => ((impl_decimal.f k r1.1).bind fun r3 => ((catS s2 r3).bind fun s4 => (cond (!r1.2) (some ((⟨#[]⟩ : ByteArray), false)) ((strings_Contains.f k a0 (⟨#[35]⟩ : ByteArray)).bind fun r5 => (cond r5 (some ((⟨#[]⟩ : ByteArray), false)) (if 4000 < (s4.size : Int) then (some ((⟨#[]⟩ : ByteArray), false)) else (some (s4, true))))))))))
def impl_AppendChecksum.f (k : Nat) (a0 : ByteArray) : Option (ByteArray × Bool) := impl_AppendChecksum.m k a0
noncomputable def impl_AppendChecksum.spec (k : Nat) : FnSpec := ⟨[.d .str none], [.d .str none, .d .bool none], fun x => impl_AppendChecksum.f k x⟩
noncomputable def impl_AppendChecksum.T : FnText := ⟨(conv [] (bodyOf Go.Proofs.Tryd.f46) 0).1, Go.Proofs.Tryd.f46.results.toList, 29, [], [.d .str none], [.d .str none, .d .bool none]⟩
noncomputable def impl_AppendChecksum.tbl (k : Nat) : Tbl := [(67, impl_Checksum.spec k), (47, impl_decimal.spec k), (62, strings_Contains.spec k)]
theorem impl_AppendChecksum.e (k : Nat) (o : Nat → St → Option (ByteArray × Bool)) (a0 : ByteArray) : impl_AppendChecksum.T.main tyt (impl_AppendChecksum.tbl k) o a0 = impl_AppendChecksum.m k a0 := by kernel_rfl
theorem impl_AppendChecksum.ok : impl_AppendChecksum.T.ok = true := by kernel_rfl
theorem impl_AppendChecksum.tblok (k : Nat) : TblOk Go.Proofs.Tryd.prog (impl_AppendChecksum.tbl k) := TblOk.cons (impl_Checksum.sound k) (TblOk.cons (impl_decimal.sound k) (TblOk.cons (strings_Contains.sound k) (TblOk.nil _)))
theorem impl_AppendChecksum.sound (k : Nat) : Sound Go.Proofs.Tryd.prog 46 (impl_AppendChecksum.spec k) := by
  have h := fn_ok (F := impl_AppendChecksum.T) (tbl := impl_AppendChecksum.tbl) mixed tyok Go.Proofs.Tryd.func46 (by kernel_rfl) (c0 := bodyOf Go.Proofs.Tryd.f46) rfl (conv_code _ _ _) rfl rfl impl_AppendChecksum.ok k (fun j _ => impl_AppendChecksum.tblok j)
  have e : impl_AppendChecksum.spec k = ⟨impl_AppendChecksum.T.ps, impl_AppendChecksum.T.rs, impl_AppendChecksum.T.ev tyt impl_AppendChecksum.tbl k⟩ := congrArg (FnSpec.mk _ _) (funext fun x => ((impl_AppendChecksum.e k (impl_AppendChecksum.T.run tyt impl_AppendChecksum.tbl k) x).trans (by rfl)).symm)
  rw [e]
  exact h
/-! ### impl_EncodeRecord: function 16 -/
def impl_EncodeRecord.m (k : Nat) (a0 : Int) (a1_0 : ByteArray) (a1_1 : ByteArray) : Option (ByteArray × Bool) := ((impl_in.f k a0 0 59).bind fun r1 => (cond (!r1) (some ((⟨#[]⟩ : ByteArray), false)) ((impl_IsValidRecord.f k a1_0 a1_1).bind fun r2 => (cond (!r2) (some ((⟨#[]⟩ : ByteArray), false)) ((impl_decimal.f k a0).bind fun r3 => ((catS r3 (⟨#[32]⟩ : ByteArray)).bind fun s4 => ((catS s4 a1_0).bind fun s5 => ((catS s5 (⟨#[64]⟩ : ByteArray)).bind fun s6 => ((catS s6 a1_1).bind fun s7 => ((impl_AppendChecksum.f k s7).bind fun r8 => ((catS r8.1 (⟨#[10]⟩ : ByteArray)).bind fun s9 => (some (s9, true)))))))))))))
def impl_EncodeRecord.f (k : Nat) (a0 : Int) (a1_0 : ByteArray) (a1_1 : ByteArray) : Option (ByteArray × Bool) := impl_EncodeRecord.m k a0 a1_0 a1_1
noncomputable def impl_EncodeRecord.spec (k : Nat) : FnSpec := ⟨[.d (.int .i64) none, .ag [.d .str none, .d .str none]], [.d .str none, .d .bool none], fun x => impl_EncodeRecord.f k x.1 x.2.1 x.2.2⟩
noncomputable def impl_EncodeRecord.T : FnText := ⟨(conv [] (bodyOf Go.Proofs.Tryd.f16) 0).1, Go.Proofs.Tryd.f16.results.toList, 32, [], [.d (.int .i64) none, .ag [.d .str none, .d .str none]], [.d .str none, .d .bool none]⟩
noncomputable def impl_EncodeRecord.tbl (k : Nat) : Tbl := [(45, impl_in.spec k), (39, impl_IsValidRecord.spec k), (47, impl_decimal.spec k), (46, impl_AppendChecksum.spec k)]
theorem impl_EncodeRecord.e (k : Nat) (o : Nat → St → Option (ByteArray × Bool)) (a0 : Int) (a1_0 : ByteArray) (a1_1 : ByteArray) : impl_EncodeRecord.T.main tyt (impl_EncodeRecord.tbl k) o (a0, a1_0, a1_1) = impl_EncodeRecord.m k a0 a1_0 a1_1 := by kernel_rfl
theorem impl_EncodeRecord.ok : impl_EncodeRecord.T.ok = true := by kernel_rfl
theorem impl_EncodeRecord.tblok (k : Nat) : TblOk Go.Proofs.Tryd.prog (impl_EncodeRecord.tbl k) := TblOk.cons (impl_in.sound k) (TblOk.cons (impl_IsValidRecord.sound k) (TblOk.cons (impl_decimal.sound k) (TblOk.cons (impl_AppendChecksum.sound k) (TblOk.nil _))))
theorem impl_EncodeRecord.sound (k : Nat) : Sound Go.Proofs.Tryd.prog 16 (impl_EncodeRecord.spec k) := by
  have h := fn_ok (F := impl_EncodeRecord.T) (tbl := impl_EncodeRecord.tbl) mixed tyok Go.Proofs.Tryd.func16 (by kernel_rfl) (c0 := bodyOf Go.Proofs.Tryd.f16) rfl (conv_code _ _ _) rfl rfl impl_EncodeRecord.ok k (fun j _ => impl_EncodeRecord.tblok j)
  have e : impl_EncodeRecord.spec k = ⟨impl_EncodeRecord.T.ps, impl_EncodeRecord.T.rs, impl_EncodeRecord.T.ev tyt impl_EncodeRecord.tbl k⟩ := congrArg (FnSpec.mk _ _) (funext fun x => ((impl_EncodeRecord.e k (impl_EncodeRecord.T.run tyt impl_EncodeRecord.tbl k) x.1 x.2.1 x.2.2).trans (by rfl)).symm)
  rw [e]
  exact h
/-! ### laws_FnExactEncodeRecord: function 3 -/
def laws_FnExactEncodeRecord.m (k : Nat) (a0 : Int) (a1_0 : ByteArray) (a1_1 : ByteArray) : Option (Bool) := ((laws_szLogRecord.f k a1_0 a1_1 1048576).bind fun r1 => (if r1 < 0 then (some true) else ((laws_toLogRecord.f k a1_0 a1_1).bind fun r2 => ((spec_EncodeRecord.f k a0 r2.1 r2.2).bind fun r3 => ((laws_toLogRecord.f k a1_0 a1_1).bind fun r4 => ((impl_EncodeRecord.f k a0 r4.1 r4.2).bind fun r5 => (if ¬ r5.1 = r3.1 then (some false) else (if ¬ r5.2 = r3.2 then (some false) else (some true)))))))))
def laws_FnExactEncodeRecord.f (k : Nat) (a0 : Int) (a1_0 : ByteArray) (a1_1 : ByteArray) : Option (Bool) := laws_FnExactEncodeRecord.m k a0 a1_0 a1_1
noncomputable def laws_FnExactEncodeRecord.spec (k : Nat) : FnSpec := ⟨[.d (.int .i64) none, .ag [.d .str none, .d .str none]], [.d .bool none], fun x => laws_FnExactEncodeRecord.f k x.1 x.2.1 x.2.2⟩
noncomputable def laws_FnExactEncodeRecord.T : FnText := ⟨(conv [] (bodyOf Go.Proofs.Tryd.f3) 0).1, Go.Proofs.Tryd.f3.results.toList, 37, [], [.d (.int .i64) none, .ag [.d .str none, .d .str none]], [.d .bool none]⟩
noncomputable def laws_FnExactEncodeRecord.tbl (k : Nat) : Tbl := [(13, laws_szLogRecord.spec k), (15, laws_toLogRecord.spec k), (14, spec_EncodeRecord.spec k), (16, impl_EncodeRecord.spec k)]
theorem laws_FnExactEncodeRecord.e (k : Nat) (o : Nat → St → Option (Bool)) (a0 : Int) (a1_0 : ByteArray) (a1_1 : ByteArray) : laws_FnExactEncodeRecord.T.main tyt (laws_FnExactEncodeRecord.tbl k) o (a0, a1_0, a1_1) = laws_FnExactEncodeRecord.m k a0 a1_0 a1_1 := by kernel_rfl
theorem laws_FnExactEncodeRecord.ok : laws_FnExactEncodeRecord.T.ok = true := by kernel_rfl
theorem laws_FnExactEncodeRecord.tblok (k : Nat) : TblOk Go.Proofs.Tryd.prog (laws_FnExactEncodeRecord.tbl k) := TblOk.cons (laws_szLogRecord.sound k) (TblOk.cons (laws_toLogRecord.sound k) (TblOk.cons (spec_EncodeRecord.sound k) (TblOk.cons (impl_EncodeRecord.sound k) (TblOk.nil _))))
theorem laws_FnExactEncodeRecord.sound (k : Nat) : Sound Go.Proofs.Tryd.prog 3 (laws_FnExactEncodeRecord.spec k) := by
  have h := fn_ok (F := laws_FnExactEncodeRecord.T) (tbl := laws_FnExactEncodeRecord.tbl) mixed tyok Go.Proofs.Tryd.func3 (by kernel_rfl) (c0 := bodyOf Go.Proofs.Tryd.f3) rfl (conv_code _ _ _) rfl rfl laws_FnExactEncodeRecord.ok k (fun j _ => laws_FnExactEncodeRecord.tblok j)
  have e : laws_FnExactEncodeRecord.spec k = ⟨laws_FnExactEncodeRecord.T.ps, laws_FnExactEncodeRecord.T.rs, laws_FnExactEncodeRecord.T.ev tyt laws_FnExactEncodeRecord.tbl k⟩ := congrArg (FnSpec.mk _ _) (funext fun x => ((laws_FnExactEncodeRecord.e k (laws_FnExactEncodeRecord.T.run tyt laws_FnExactEncodeRecord.tbl k) x.1 x.2.1 x.2.2).trans (by rfl)).symm)
  rw [e]
  exact h

/-- The pure statement. -/
def Pure : Prop := ∀ (a0 : Int) (a1_0 : ByteArray) (a1_1 : ByteArray), ((Lit.int .i64 a0).wf = true) → (a1_0.size ≤ 140737488351232) → (a1_1.size ≤ 140737488351232) → ∃ k, laws_FnExactEncodeRecord.f k a0 a1_0 a1_1 = some true
end Go.Proofs.YtmkonhmojlfjoaaDoor.DFnExactEncodeRecord
