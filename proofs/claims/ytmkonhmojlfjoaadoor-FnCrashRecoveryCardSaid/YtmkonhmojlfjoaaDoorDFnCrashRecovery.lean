-- Printed by this session's own program (wip/deep/drow.py); Lean checks it.
import Derived.Test.YtmkonhmojlfjoaaDoorLib
import Derived.Test.YtmkonhmojlfjoaaDoorProg
set_option linter.unusedVariables false
set_option maxRecDepth 100000
namespace Go.Proofs.YtmkonhmojlfjoaaDoor.DFnCrashRecovery
open Go Go.Proofs.YtmkonhmojlfjoaaDoorD
def tyt3 : TI := ⟨.int .i64, 1, 8, (.int .i64)⟩
def tyt4 : TI := ⟨.bool, 1, 1, .bool⟩
def tyt5 : TI := ⟨.int .u8, 1, 1, (.int .u8)⟩
def tyt9 : TI := ⟨.string, 1, 16, .str⟩
def tyt27 : TI := ⟨.struct #[⟨ "Command", 9, 0, false, "", "", 0⟩, ⟨ "Reply", 9, 1, false, "", "", 16⟩], 2, 32, (.pair .str .str)⟩
def tyt31 : TI := ⟨.struct #[⟨ "Durable", 9, 0, false, "", "", 0⟩, ⟨ "Pending", 9, 1, false, "", "", 16⟩, ⟨ "Count", 3, 2, false, "", "", 32⟩], 3, 40, (.pair .str (.pair .str (.int .i64)))⟩
def tyt48 : TI := ⟨.slice 27, 1, 24, (.sl (.pair .str .str))⟩
def tyt53 : TI := ⟨.slice 5, 1, 24, (.sl (.int .u8))⟩
def tyt68 : TI := ⟨.slice 3, 1, 24, (.sl (.int .i64))⟩
def tyt74 : TI := ⟨.int .u64, 1, 8, (.int .u64)⟩
def tyt76 : TI := ⟨.struct #[⟨ "code", 53, 0, false, "", "loop.example/g01023/spec", 0⟩, ⟨ "at", 3, 1, false, "", "loop.example/g01023/spec", 24⟩, ⟨ "seed", 74, 2, false, "", "loop.example/g01023/spec", 32⟩], 3, 40, (.pair (.sl (.int .u8)) (.pair (.int .i64) (.int .u64)))⟩
def tyt89 : TI := ⟨.slice 9, 1, 24, (.sl .str)⟩
def tyt98 : TI := ⟨.func #[5] #[4] false, 1, 8, .fn⟩
def tyt : TT := [(3, tyt3), (4, tyt4), (5, tyt5), (9, tyt9), (27, tyt27), (31, tyt31), (48, tyt48), (53, tyt53), (68, tyt68), (74, tyt74), (76, tyt76), (89, tyt89), (98, tyt98)]
def tytB53 : TT := (53, tyt53) :: tyt
theorem mixed : Go.Proofs.Tryd.prog.follows .mixedOrders = true := by kernel_rfl
theorem tok3 : TOk1 Go.Proofs.Tryd.prog 3 (tyt3) := TOk1.of (by kernel_rfl) (by kernel_rfl) (by kernel_rfl) (by kernel_rfl) (by kernel_rfl) (by kernel_rfl) (by kernel_rfl) (fun h => nomatch (show false = true from h)) (fun h => nomatch (show false = true from h))
theorem tok4 : TOk1 Go.Proofs.Tryd.prog 4 (tyt4) := TOk1.of (by kernel_rfl) (by kernel_rfl) (by kernel_rfl) (by kernel_rfl) (by kernel_rfl) (by kernel_rfl) (by kernel_rfl) (fun h => nomatch (show false = true from h)) (fun h => nomatch (show false = true from h))
theorem tok5 : TOk1 Go.Proofs.Tryd.prog 5 (tyt5) := TOk1.of (by kernel_rfl) (by kernel_rfl) (by kernel_rfl) (by kernel_rfl) (by kernel_rfl) (by kernel_rfl) (by kernel_rfl) (fun h => nomatch (show false = true from h)) (fun h => nomatch (show false = true from h))
theorem tok9 : TOk1 Go.Proofs.Tryd.prog 9 (tyt9) := TOk1.of (by kernel_rfl) (by kernel_rfl) (by kernel_rfl) (by kernel_rfl) (by kernel_rfl) (by kernel_rfl) (by kernel_rfl) (fun h => nomatch (show false = true from h)) (fun h => nomatch (show false = true from h))
theorem tok27 : TOk1 Go.Proofs.Tryd.prog 27 (tyt27) := TOk1.of (by kernel_rfl) (by kernel_rfl) (by kernel_rfl) (by kernel_rfl) (by kernel_rfl) (by kernel_rfl) (by kernel_rfl) (fun _ => by kernel_rfl) (fun _ => ⟨by kernel_rfl, by kernel_rfl, by kernel_rfl⟩)
theorem tok31 : TOk1 Go.Proofs.Tryd.prog 31 (tyt31) := TOk1.of (by kernel_rfl) (by kernel_rfl) (by kernel_rfl) (by kernel_rfl) (by kernel_rfl) (by kernel_rfl) (by kernel_rfl) (fun _ => by kernel_rfl) (fun _ => ⟨by kernel_rfl, by kernel_rfl, by kernel_rfl⟩)
theorem tok48 : TOk1 Go.Proofs.Tryd.prog 48 (tyt48) := TOk1.of (by kernel_rfl) (by kernel_rfl) (by kernel_rfl) (by kernel_rfl) (by kernel_rfl) (by kernel_rfl) (by kernel_rfl) (fun h => nomatch (show false = true from h)) (fun h => nomatch (show false = true from h))
theorem tok53 : TOk1 Go.Proofs.Tryd.prog 53 (tyt53) := TOk1.of (by kernel_rfl) (by kernel_rfl) (by kernel_rfl) (by kernel_rfl) (by kernel_rfl) (by kernel_rfl) (by kernel_rfl) (fun h => nomatch (show false = true from h)) (fun h => nomatch (show false = true from h))
theorem tok68 : TOk1 Go.Proofs.Tryd.prog 68 (tyt68) := TOk1.of (by kernel_rfl) (by kernel_rfl) (by kernel_rfl) (by kernel_rfl) (by kernel_rfl) (by kernel_rfl) (by kernel_rfl) (fun h => nomatch (show false = true from h)) (fun h => nomatch (show false = true from h))
theorem tok74 : TOk1 Go.Proofs.Tryd.prog 74 (tyt74) := TOk1.of (by kernel_rfl) (by kernel_rfl) (by kernel_rfl) (by kernel_rfl) (by kernel_rfl) (by kernel_rfl) (by kernel_rfl) (fun h => nomatch (show false = true from h)) (fun h => nomatch (show false = true from h))
theorem tok76 : TOk1 Go.Proofs.Tryd.prog 76 (tyt76) := TOk1.of (by kernel_rfl) (by kernel_rfl) (by kernel_rfl) (by kernel_rfl) (by kernel_rfl) (by kernel_rfl) (by kernel_rfl) (fun _ => by kernel_rfl) (fun h => nomatch (show false = true from h))
theorem tok89 : TOk1 Go.Proofs.Tryd.prog 89 (tyt89) := TOk1.of (by kernel_rfl) (by kernel_rfl) (by kernel_rfl) (by kernel_rfl) (by kernel_rfl) (by kernel_rfl) (by kernel_rfl) (fun h => nomatch (show false = true from h)) (fun h => nomatch (show false = true from h))
theorem tok98 : TOk1 Go.Proofs.Tryd.prog 98 (tyt98) := TOk1.of (by kernel_rfl) (by kernel_rfl) (by kernel_rfl) (by kernel_rfl) (by kernel_rfl) (by kernel_rfl) (by kernel_rfl) (fun h => nomatch (show false = true from h)) (fun h => nomatch (show false = true from h))
theorem tyok : TOk Go.Proofs.Tryd.prog tyt := TOk.cons tok3 (TOk.cons tok4 (TOk.cons tok5 (TOk.cons tok9 (TOk.cons tok27 (TOk.cons tok31 (TOk.cons tok48 (TOk.cons tok53 (TOk.cons tok68 (TOk.cons tok74 (TOk.cons tok76 (TOk.cons tok89 (TOk.cons tok98 (TOk.nil _)))))))))))))
theorem tyokB53 : TOk Go.Proofs.Tryd.prog tytB53 := TOk.cons tok53 tyok
/-! ### laws_vBig: function 35 -/
def laws_vBig.m (k : Nat) (l0 : List Int) : Option (Bool) := (some (decide (65536 < (l0.length : Int))))
def laws_vBig.f (k : Nat) (l0 : List Int) : Option (Bool) := laws_vBig.m k l0
noncomputable def laws_vBig.spec (k : Nat) : FnSpec := ⟨[.d (.sl (.int .u8)) none], [.d .bool none], fun x => laws_vBig.f k x⟩
noncomputable def laws_vBig.T : FnText := ⟨(conv [] (bodyOf Go.Proofs.Tryd.f35) 0).1, Go.Proofs.Tryd.f35.results.toList, 6, [], [.d (.sl (.int .u8)) none], [.d .bool none]⟩
noncomputable def laws_vBig.tbl (k : Nat) : Tbl := []
theorem laws_vBig.e (k : Nat) (o : Nat → St → Option (Bool)) (l0 : List Int) : laws_vBig.T.main tyt (laws_vBig.tbl k) o l0 = laws_vBig.m k l0 := by kernel_rfl
theorem laws_vBig.ok : laws_vBig.T.ok = true := by kernel_rfl
theorem laws_vBig.tblok (k : Nat) : TblOk Go.Proofs.Tryd.prog (laws_vBig.tbl k) := TblOk.nil _
theorem laws_vBig.sound (k : Nat) : Sound Go.Proofs.Tryd.prog 35 (laws_vBig.spec k) := by
  have h := fn_ok (F := laws_vBig.T) (tbl := laws_vBig.tbl) mixed tyok Go.Proofs.Tryd.func35 (by kernel_rfl) (c0 := bodyOf Go.Proofs.Tryd.f35) rfl (conv_code _ _ _) rfl rfl laws_vBig.ok k (fun j _ => laws_vBig.tblok j)
  have e : laws_vBig.spec k = ⟨laws_vBig.T.ps, laws_vBig.T.rs, laws_vBig.T.ev tyt laws_vBig.tbl k⟩ := congrArg (FnSpec.mk _ _) (funext fun x => ((laws_vBig.e k (laws_vBig.T.run tyt laws_vBig.tbl k) x).trans (by rfl)).symm)
  rw [e]
  exact h
/-! ### spec_l1Cur_next: function 73 -/
def spec_l1Cur_next.b2 (k : Nat) (l0_2 : List Int) (x1_2 : Int) (x2_2 : Int) (x3_2 : Int) : Option (Int × List Int × Int × Int) := (if (w64 (x1_2 + 1)) ≤ (l0_2.length : Int) then (some (x3_2, l0_2, (w64 (x1_2 + 1)), (IntKind.u64.wrap ((IntKind.u64.wrap ((IntKind.u64.wrap (x2_2 * 6364136223846793005)) + (IntKind.u64.wrap (x3_2)))) + 102323)))) else ((shr .u64 (IntKind.u64.wrap ((IntKind.u64.wrap ((IntKind.u64.wrap (x2_2 * 6364136223846793005)) + (IntKind.u64.wrap (x3_2)))) + 102323)) 40).bind fun q2 => (some ((w64 ((band .u64 q2 255))), l0_2, (w64 (x1_2 + 1)), (IntKind.u64.wrap ((IntKind.u64.wrap ((IntKind.u64.wrap (x2_2 * 6364136223846793005)) + (IntKind.u64.wrap (x3_2)))) + 102323))))))
def spec_l1Cur_next.l2 : Nat → List Int → Int → Int → Int → Option (Int × List Int × Int × Int)
  | 0, _, _, _, _ => none
  | k + 1, l0_2, x1_2, x2_2, x3_2 => spec_l1Cur_next.b2 k l0_2 x1_2 x2_2 x3_2
def spec_l1Cur_next.m (o2 : List Int → Int → Int → Int → Option (Int × List Int × Int × Int)) (k : Nat) (l0_0 : List Int) (a0_1 : Int) (a0_2 : Int) : Option (Int × List Int × Int × Int) := (if a0_1 < (l0_0.length : Int) then ((chk l0_0.length a0_1).bind fun i1 => (o2 l0_0 a0_1 a0_2 (w64 ((l0_0.getD i1 0))))) else (o2 l0_0 a0_1 a0_2 0))
def spec_l1Cur_next.f (k : Nat) (l0_0 : List Int) (a0_1 : Int) (a0_2 : Int) : Option (Int × List Int × Int × Int) := spec_l1Cur_next.m (spec_l1Cur_next.l2 k) k l0_0 a0_1 a0_2
noncomputable def spec_l1Cur_next.spec (k : Nat) : FnSpec := ⟨[.bx [.d (.sl (.int .u8)) none, .d (.int .i64) none, .d (.int .u64) none]], [.d (.int .i64) none], fun x => spec_l1Cur_next.f k x.1 x.2.1 x.2.2⟩
def spec_l1Cur_next.S2 (l0_2 : List Int) (x1_2 : Int) (x2_2 : Int) (x3_2 : Int) : St := ⟨[(0, .ptr 0 0), (3, .val (.int .i64) x3_2)], [(0, some (.box [.val (.sl (.int .u8)) l0_2, .val (.int .i64) x1_2, .val (.int .u64) x2_2]))], 1000⟩
noncomputable def spec_l1Cur_next.T : FnText := ⟨(conv [2] (bodyOf Go.Proofs.Tryd.f73) 0).1, Go.Proofs.Tryd.f73.results.toList, 62, [(2, [(0, .bx 0 [.rd (.sl (.int .u8)), .rd (.int .i64), .rd (.int .u64)]), (3, .rd (.int .i64))])], [.bx [.d (.sl (.int .u8)) none, .d (.int .i64) none, .d (.int .u64) none]], [.d (.int .i64) none]⟩
noncomputable def spec_l1Cur_next.tbl (k : Nat) : Tbl := []
theorem spec_l1Cur_next.e2 (k : Nat) (o : Nat → St → Option (Int × List Int × Int × Int)) (l0_2 : List Int) (x1_2 : Int) (x2_2 : Int) (x3_2 : Int) : spec_l1Cur_next.T.step tyt (spec_l1Cur_next.tbl k) o 2 (spec_l1Cur_next.S2 l0_2 x1_2 x2_2 x3_2) = spec_l1Cur_next.b2 k l0_2 x1_2 x2_2 x3_2 := by kernel_rfl
theorem spec_l1Cur_next.e (k : Nat) (o : Nat → St → Option (Int × List Int × Int × Int)) (l0_0 : List Int) (a0_1 : Int) (a0_2 : Int) : spec_l1Cur_next.T.main tyt (spec_l1Cur_next.tbl k) o (l0_0, a0_1, a0_2) = spec_l1Cur_next.m (fun l0_2 x1_2 x2_2 x3_2 => o 2 (spec_l1Cur_next.S2 l0_2 x1_2 x2_2 x3_2)) k l0_0 a0_1 a0_2 := by kernel_rfl
theorem spec_l1Cur_next.ok : spec_l1Cur_next.T.ok = true := by kernel_rfl
theorem spec_l1Cur_next.run (k : Nat) : (∀ (l0_2 : List Int) (x1_2 : Int) (x2_2 : Int) (x3_2 : Int), spec_l1Cur_next.T.run tyt spec_l1Cur_next.tbl k 2 (spec_l1Cur_next.S2 l0_2 x1_2 x2_2 x3_2) = spec_l1Cur_next.l2 k l0_2 x1_2 x2_2 x3_2) := by
  induction k with
  | zero => exact fun l0_2 x1_2 x2_2 x3_2 => rfl
  | succ k ih =>
    exact fun l0_2 x1_2 x2_2 x3_2 => by
      exact (spec_l1Cur_next.e2 k (spec_l1Cur_next.T.run tyt spec_l1Cur_next.tbl k) l0_2 x1_2 x2_2 x3_2).trans (by rfl)
theorem spec_l1Cur_next.tblok (k : Nat) : TblOk Go.Proofs.Tryd.prog (spec_l1Cur_next.tbl k) := TblOk.nil _
theorem spec_l1Cur_next.sound (k : Nat) : Sound Go.Proofs.Tryd.prog 73 (spec_l1Cur_next.spec k) := by
  have h := fn_ok (F := spec_l1Cur_next.T) (tbl := spec_l1Cur_next.tbl) mixed tyok Go.Proofs.Tryd.func73 (by kernel_rfl) (c0 := bodyOf Go.Proofs.Tryd.f73) rfl (conv_code _ _ _) rfl rfl spec_l1Cur_next.ok k (fun j _ => spec_l1Cur_next.tblok j)
  have q2 : (fun l0_2 x1_2 x2_2 x3_2 => spec_l1Cur_next.T.run tyt spec_l1Cur_next.tbl k 2 (spec_l1Cur_next.S2 l0_2 x1_2 x2_2 x3_2)) = spec_l1Cur_next.l2 k := by funext l0_2 x1_2 x2_2 x3_2; exact (spec_l1Cur_next.run k) l0_2 x1_2 x2_2 x3_2
  have e : spec_l1Cur_next.spec k = ⟨spec_l1Cur_next.T.ps, spec_l1Cur_next.T.rs, spec_l1Cur_next.T.ev tyt spec_l1Cur_next.tbl k⟩ := congrArg (FnSpec.mk _ _) (funext fun x => ((spec_l1Cur_next.e k (spec_l1Cur_next.T.run tyt spec_l1Cur_next.tbl k) x.1 x.2.1 x.2.2).trans (by rw [q2]; rfl)).symm)
  rw [e]
  exact h
/-! ### spec_l1Cur_pick: function 57 -/
def spec_l1Cur_pick.m (k : Nat) (l0_0 : List Int) (a0_1 : Int) (a0_2 : Int) (a1 : Int) : Option (Int × List Int × Int × Int) := (if a1 ≤ 1 then (some (0, l0_0, a0_1, a0_2)) else ((spec_l1Cur_next.f k l0_0 a0_1 a0_2).bind fun r1 => (if 200 < a1 then ((spec_l1Cur_next.f k r1.2.1 r1.2.2.1 r1.2.2.2).bind fun r2 => ((rem (w64 ((w64 (r1.1 * 256)) + r2.1)) a1).bind fun q3 => (some (q3, r2.2.1, r2.2.2.1, r2.2.2.2)))) else ((rem r1.1 a1).bind fun q4 => (some (q4, r1.2.1, r1.2.2.1, r1.2.2.2))))))
def spec_l1Cur_pick.f (k : Nat) (l0_0 : List Int) (a0_1 : Int) (a0_2 : Int) (a1 : Int) : Option (Int × List Int × Int × Int) := spec_l1Cur_pick.m k l0_0 a0_1 a0_2 a1
noncomputable def spec_l1Cur_pick.spec (k : Nat) : FnSpec := ⟨[.bx [.d (.sl (.int .u8)) none, .d (.int .i64) none, .d (.int .u64) none], .d (.int .i64) none], [.d (.int .i64) none], fun x => spec_l1Cur_pick.f k x.1 x.2.1 x.2.2.1 x.2.2.2⟩
noncomputable def spec_l1Cur_pick.T : FnText := ⟨(conv [] (bodyOf Go.Proofs.Tryd.f57) 0).1, Go.Proofs.Tryd.f57.results.toList, 20, [], [.bx [.d (.sl (.int .u8)) none, .d (.int .i64) none, .d (.int .u64) none], .d (.int .i64) none], [.d (.int .i64) none]⟩
noncomputable def spec_l1Cur_pick.tbl (k : Nat) : Tbl := [(73, spec_l1Cur_next.spec k)]
theorem spec_l1Cur_pick.e (k : Nat) (o : Nat → St → Option (Int × List Int × Int × Int)) (l0_0 : List Int) (a0_1 : Int) (a0_2 : Int) (a1 : Int) : spec_l1Cur_pick.T.main tyt (spec_l1Cur_pick.tbl k) o (l0_0, a0_1, a0_2, a1) = spec_l1Cur_pick.m k l0_0 a0_1 a0_2 a1 := by kernel_rfl
theorem spec_l1Cur_pick.ok : spec_l1Cur_pick.T.ok = true := by kernel_rfl
theorem spec_l1Cur_pick.tblok (k : Nat) : TblOk Go.Proofs.Tryd.prog (spec_l1Cur_pick.tbl k) := TblOk.cons (spec_l1Cur_next.sound k) (TblOk.nil _)
theorem spec_l1Cur_pick.sound (k : Nat) : Sound Go.Proofs.Tryd.prog 57 (spec_l1Cur_pick.spec k) := by
  have h := fn_ok (F := spec_l1Cur_pick.T) (tbl := spec_l1Cur_pick.tbl) mixed tyok Go.Proofs.Tryd.func57 (by kernel_rfl) (c0 := bodyOf Go.Proofs.Tryd.f57) rfl (conv_code _ _ _) rfl rfl spec_l1Cur_pick.ok k (fun j _ => spec_l1Cur_pick.tblok j)
  have e : spec_l1Cur_pick.spec k = ⟨spec_l1Cur_pick.T.ps, spec_l1Cur_pick.T.rs, spec_l1Cur_pick.T.ev tyt spec_l1Cur_pick.tbl k⟩ := congrArg (FnSpec.mk _ _) (funext fun x => ((spec_l1Cur_pick.e k (spec_l1Cur_pick.T.run tyt spec_l1Cur_pick.tbl k) x.1 x.2.1 x.2.2.1 x.2.2.2).trans (by rfl)).symm)
  rw [e]
  exact h
/-! ### spec_l1Cur_of: function 72 -/
def spec_l1Cur_of.m (k : Nat) (l0_0 : List Int) (a0_1 : Int) (a0_2 : Int) (l1 : List ByteArray) : Option (ByteArray × List Int × Int × Int) := ((spec_l1Cur_pick.f k l0_0 a0_1 a0_2 (l1.length : Int)).bind fun r1 => ((chk l1.length r1.1).bind fun i2 => (some ((l1.getD i2 ByteArray.empty), r1.2.1, r1.2.2.1, r1.2.2.2))))
def spec_l1Cur_of.f (k : Nat) (l0_0 : List Int) (a0_1 : Int) (a0_2 : Int) (l1 : List ByteArray) : Option (ByteArray × List Int × Int × Int) := spec_l1Cur_of.m k l0_0 a0_1 a0_2 l1
noncomputable def spec_l1Cur_of.spec (k : Nat) : FnSpec := ⟨[.bx [.d (.sl (.int .u8)) none, .d (.int .i64) none, .d (.int .u64) none], .d (.sl .str) none], [.d .str none], fun x => spec_l1Cur_of.f k x.1 x.2.1 x.2.2.1 x.2.2.2⟩
noncomputable def spec_l1Cur_of.T : FnText := ⟨(conv [] (bodyOf Go.Proofs.Tryd.f72) 0).1, Go.Proofs.Tryd.f72.results.toList, 12, [], [.bx [.d (.sl (.int .u8)) none, .d (.int .i64) none, .d (.int .u64) none], .d (.sl .str) none], [.d .str none]⟩
noncomputable def spec_l1Cur_of.tbl (k : Nat) : Tbl := [(57, spec_l1Cur_pick.spec k)]
theorem spec_l1Cur_of.e (k : Nat) (o : Nat → St → Option (ByteArray × List Int × Int × Int)) (l0_0 : List Int) (a0_1 : Int) (a0_2 : Int) (l1 : List ByteArray) : spec_l1Cur_of.T.main tyt (spec_l1Cur_of.tbl k) o (l0_0, a0_1, a0_2, l1) = spec_l1Cur_of.m k l0_0 a0_1 a0_2 l1 := by kernel_rfl
theorem spec_l1Cur_of.ok : spec_l1Cur_of.T.ok = true := by kernel_rfl
theorem spec_l1Cur_of.tblok (k : Nat) : TblOk Go.Proofs.Tryd.prog (spec_l1Cur_of.tbl k) := TblOk.cons (spec_l1Cur_pick.sound k) (TblOk.nil _)
theorem spec_l1Cur_of.sound (k : Nat) : Sound Go.Proofs.Tryd.prog 72 (spec_l1Cur_of.spec k) := by
  have h := fn_ok (F := spec_l1Cur_of.T) (tbl := spec_l1Cur_of.tbl) mixed tyok Go.Proofs.Tryd.func72 (by kernel_rfl) (c0 := bodyOf Go.Proofs.Tryd.f72) rfl (conv_code _ _ _) rfl rfl spec_l1Cur_of.ok k (fun j _ => spec_l1Cur_of.tblok j)
  have e : spec_l1Cur_of.spec k = ⟨spec_l1Cur_of.T.ps, spec_l1Cur_of.T.rs, spec_l1Cur_of.T.ev tyt spec_l1Cur_of.tbl k⟩ := congrArg (FnSpec.mk _ _) (funext fun x => ((spec_l1Cur_of.e k (spec_l1Cur_of.T.run tyt spec_l1Cur_of.tbl k) x.1 x.2.1 x.2.2.1 x.2.2.2).trans (by rfl)).symm)
  rw [e]
  exact h
/-! ### spec_l1Cur_of_2: function 72 -/
def spec_l1Cur_of_2.m (k : Nat) (l0_0 : List Int) (a0_1 : Int) (a0_2 : Int) (l1 : List ByteArray) : Option (ByteArray × List Int × Int × Int × List ByteArray) := ((spec_l1Cur_pick.f k l0_0 a0_1 a0_2 (l1.length : Int)).bind fun r1 => ((chk l1.length r1.1).bind fun i2 => (some ((l1.getD i2 ByteArray.empty), r1.2.1, r1.2.2.1, r1.2.2.2, l1))))
def spec_l1Cur_of_2.f (k : Nat) (l0_0 : List Int) (a0_1 : Int) (a0_2 : Int) (l1 : List ByteArray) : Option (ByteArray × List Int × Int × Int × List ByteArray) := spec_l1Cur_of_2.m k l0_0 a0_1 a0_2 l1
noncomputable def spec_l1Cur_of_2.spec (k : Nat) : FnSpec := ⟨[.bx [.d (.sl (.int .u8)) none, .d (.int .i64) none, .d (.int .u64) none], .io 9 .str], [.d .str none], fun x => spec_l1Cur_of_2.f k x.1 x.2.1 x.2.2.1 x.2.2.2⟩
noncomputable def spec_l1Cur_of_2.T : FnText := ⟨(conv [] (bodyOf Go.Proofs.Tryd.f72) 0).1, Go.Proofs.Tryd.f72.results.toList, 12, [], [.bx [.d (.sl (.int .u8)) none, .d (.int .i64) none, .d (.int .u64) none], .io 9 .str], [.d .str none]⟩
noncomputable def spec_l1Cur_of_2.tbl (k : Nat) : Tbl := [(57, spec_l1Cur_pick.spec k)]
theorem spec_l1Cur_of_2.e (k : Nat) (o : Nat → St → Option (ByteArray × List Int × Int × Int × List ByteArray)) (l0_0 : List Int) (a0_1 : Int) (a0_2 : Int) (l1 : List ByteArray) : spec_l1Cur_of_2.T.main tyt (spec_l1Cur_of_2.tbl k) o (l0_0, a0_1, a0_2, l1) = spec_l1Cur_of_2.m k l0_0 a0_1 a0_2 l1 := by kernel_rfl
theorem spec_l1Cur_of_2.ok : spec_l1Cur_of_2.T.ok = true := by kernel_rfl
theorem spec_l1Cur_of_2.tblok (k : Nat) : TblOk Go.Proofs.Tryd.prog (spec_l1Cur_of_2.tbl k) := TblOk.cons (spec_l1Cur_pick.sound k) (TblOk.nil _)
theorem spec_l1Cur_of_2.sound (k : Nat) : Sound Go.Proofs.Tryd.prog 72 (spec_l1Cur_of_2.spec k) := by
  have h := fn_ok (F := spec_l1Cur_of_2.T) (tbl := spec_l1Cur_of_2.tbl) mixed tyok Go.Proofs.Tryd.func72 (by kernel_rfl) (c0 := bodyOf Go.Proofs.Tryd.f72) rfl (conv_code _ _ _) rfl rfl spec_l1Cur_of_2.ok k (fun j _ => spec_l1Cur_of_2.tblok j)
  have e : spec_l1Cur_of_2.spec k = ⟨spec_l1Cur_of_2.T.ps, spec_l1Cur_of_2.T.rs, spec_l1Cur_of_2.T.ev tyt spec_l1Cur_of_2.tbl k⟩ := congrArg (FnSpec.mk _ _) (funext fun x => ((spec_l1Cur_of_2.e k (spec_l1Cur_of_2.T.run tyt spec_l1Cur_of_2.tbl k) x.1 x.2.1 x.2.2.1 x.2.2.2).trans (by rfl)).symm)
  rw [e]
  exact h
/-! ### spec_l1Cur_logRecord: function 55 -/
def spec_l1Cur_logRecord.m (k : Nat) (l0_0 : List Int) (a0_1 : Int) (a0_2 : Int) : Option (ByteArray × ByteArray × List Int × Int × Int) := ((spec_l1Cur_of_2.f k l0_0 a0_1 a0_2 [(⟨#[99, 111, 117, 110, 116]⟩ : ByteArray), (⟨#[115, 111, 114, 116, 32, 109, 101, 114, 103, 101]⟩ : ByteArray), (⟨#[120]⟩ : ByteArray), (⟨#[115, 101, 108, 101, 99, 116, 32, 50]⟩ : ByteArray), (⟨#[48, 32, 49]⟩ : ByteArray)]).bind fun r1 => ((spec_l1Cur_of_2.f k r1.2.1 r1.2.2.1 r1.2.2.2.1 [(⟨#[]⟩ : ByteArray), (⟨#[51]⟩ : ByteArray), (⟨#[63]⟩ : ByteArray), (⟨#[97, 64, 98]⟩ : ByteArray), (⟨#[51, 32, 49, 32, 50]⟩ : ByteArray)]).bind fun r2 => ((spec_l1Cur_pick.f k r2.2.1 r2.2.2.1 r2.2.2.2.1 24).bind fun r3 => (if r3.1 = 0 then ((mkl 140737488355328 3 3).bind fun n4 => ((spec_l1Cur_of_2.f k r3.2.1 r3.2.2.1 r3.2.2.2 [(⟨#[]⟩ : ByteArray), (⟨#[97, 64, 98]⟩ : ByteArray), (⟨#[97, 35]⟩ : ByteArray), (⟨#[10]⟩ : ByteArray), (ofBytes (List.replicate n4 (0 : Int)))]).bind fun r5 => (some (r5.1, r2.1, r5.2.1, r5.2.2.1, r5.2.2.2.1)))) else (if r3.1 = 1 then ((spec_l1Cur_of_2.f k r3.2.1 r3.2.2.1 r3.2.2.2 [(⟨#[35]⟩ : ByteArray), (⟨#[10]⟩ : ByteArray), (⟨#[127]⟩ : ByteArray)]).bind fun r6 => (some (r1.1, r6.1, r6.2.1, r6.2.2.1, r6.2.2.2.1))) else (some (r1.1, r2.1, r3.2.1, r3.2.2.1, r3.2.2.2)))))))
def spec_l1Cur_logRecord.f (k : Nat) (l0_0 : List Int) (a0_1 : Int) (a0_2 : Int) : Option (ByteArray × ByteArray × List Int × Int × Int) := spec_l1Cur_logRecord.m k l0_0 a0_1 a0_2
noncomputable def spec_l1Cur_logRecord.spec (k : Nat) : FnSpec := ⟨[.bx [.d (.sl (.int .u8)) none, .d (.int .i64) none, .d (.int .u64) none]], [.ag [.d .str none, .d .str none]], fun x => spec_l1Cur_logRecord.f k x.1 x.2.1 x.2.2⟩
noncomputable def spec_l1Cur_logRecord.T : FnText := ⟨(conv [] (bodyOf Go.Proofs.Tryd.f55) 0).1, Go.Proofs.Tryd.f55.results.toList, 28, [], [.bx [.d (.sl (.int .u8)) none, .d (.int .i64) none, .d (.int .u64) none]], [.ag [.d .str none, .d .str none]]⟩
noncomputable def spec_l1Cur_logRecord.tbl (k : Nat) : Tbl := [(72, spec_l1Cur_of_2.spec k), (57, spec_l1Cur_pick.spec k)]
theorem spec_l1Cur_logRecord.e (k : Nat) (o : Nat → St → Option (ByteArray × ByteArray × List Int × Int × Int)) (l0_0 : List Int) (a0_1 : Int) (a0_2 : Int) : spec_l1Cur_logRecord.T.main tyt (spec_l1Cur_logRecord.tbl k) o (l0_0, a0_1, a0_2) = spec_l1Cur_logRecord.m k l0_0 a0_1 a0_2 := by kernel_rfl
theorem spec_l1Cur_logRecord.ok : spec_l1Cur_logRecord.T.ok = true := by kernel_rfl
theorem spec_l1Cur_logRecord.tblok (k : Nat) : TblOk Go.Proofs.Tryd.prog (spec_l1Cur_logRecord.tbl k) := TblOk.cons (spec_l1Cur_of_2.sound k) (TblOk.cons (spec_l1Cur_pick.sound k) (TblOk.nil _))
theorem spec_l1Cur_logRecord.sound (k : Nat) : Sound Go.Proofs.Tryd.prog 55 (spec_l1Cur_logRecord.spec k) := by
  have h := fn_ok (F := spec_l1Cur_logRecord.T) (tbl := spec_l1Cur_logRecord.tbl) mixed tyok Go.Proofs.Tryd.func55 (by kernel_rfl) (c0 := bodyOf Go.Proofs.Tryd.f55) rfl (conv_code _ _ _) rfl rfl spec_l1Cur_logRecord.ok k (fun j _ => spec_l1Cur_logRecord.tblok j)
  have e : spec_l1Cur_logRecord.spec k = ⟨spec_l1Cur_logRecord.T.ps, spec_l1Cur_logRecord.T.rs, spec_l1Cur_logRecord.T.ev tyt spec_l1Cur_logRecord.tbl k⟩ := congrArg (FnSpec.mk _ _) (funext fun x => ((spec_l1Cur_logRecord.e k (spec_l1Cur_logRecord.T.run tyt spec_l1Cur_logRecord.tbl k) x.1 x.2.1 x.2.2).trans (by rfl)).symm)
  rw [e]
  exact h
/-! ### spec_l1Split: function 69 -/
def spec_l1Split.b5 (o5 : ByteArray → Int → List ByteArray → Int → Int → Option (List ByteArray)) (k : Nat) (x0_5 : ByteArray) (x1_5 : Int) (l2_5 : List ByteArray) (x3_5 : Int) (x4_5 : Int) : Option (List ByteArray) := (if x4_5 < (x0_5.size : Int) then ((chk x0_5.size x4_5).bind fun i1 => (if (byteAt x0_5 i1) = x1_5 then ((cut x0_5.size x3_5 x4_5).bind fun c2 => ((app 8796093022208 l2_5 [(x0_5.extract c2.1 (c2.1 + c2.2))]).bind fun l3 => (o5 x0_5 x1_5 l3 (w64 (x4_5 + 1)) (w64 (x4_5 + 1))))) else (o5 x0_5 x1_5 l2_5 x3_5 (w64 (x4_5 + 1))))) else ((cut x0_5.size x3_5 (x0_5.size : Int)).bind fun c4 => ((app 8796093022208 l2_5 [(x0_5.extract c4.1 (c4.1 + c4.2))]).bind fun l5 => (some l5))))
def spec_l1Split.l5 : Nat → ByteArray → Int → List ByteArray → Int → Int → Option (List ByteArray)
  | 0, _, _, _, _, _ => none
  | k + 1, x0_5, x1_5, l2_5, x3_5, x4_5 => spec_l1Split.b5 (spec_l1Split.l5 k) k x0_5 x1_5 l2_5 x3_5 x4_5
def spec_l1Split.m (o5 : ByteArray → Int → List ByteArray → Int → Int → Option (List ByteArray)) (k : Nat) (a0 : ByteArray) (a1 : Int) : Option (List ByteArray) := (o5 a0 a1 ([] : List (ByteArray)) 0 0)
def spec_l1Split.f (k : Nat) (a0 : ByteArray) (a1 : Int) : Option (List ByteArray) := spec_l1Split.m (spec_l1Split.l5 k) k a0 a1
noncomputable def spec_l1Split.spec (k : Nat) : FnSpec := ⟨[.d .str none, .d (.int .u8) none], [.d (.sl .str) (some 9)], fun x => spec_l1Split.f k x.1 x.2⟩
def spec_l1Split.S5 (x0_5 : ByteArray) (x1_5 : Int) (l2_5 : List ByteArray) (x3_5 : Int) (x4_5 : Int) : St := ⟨[(0, .val .str x0_5), (1, .val (.int .u8) x1_5), (5, .ref 100), (6, .val (.int .i64) x3_5), (7, .val (.int .i64) x4_5)], [(100, some (.row 9 .str l2_5))], 1000⟩
noncomputable def spec_l1Split.T : FnText := ⟨(conv [] (bodyOf Go.Proofs.Tryd.f69) 0).1, Go.Proofs.Tryd.f69.results.toList, 35, [(5, [(0, .rd .str), (1, .rd (.int .u8)), (5, .own 9 .str 100), (6, .rd (.int .i64)), (7, .rd (.int .i64))])], [.d .str none, .d (.int .u8) none], [.d (.sl .str) (some 9)]⟩
noncomputable def spec_l1Split.tbl (k : Nat) : Tbl := []
theorem spec_l1Split.e5 (k : Nat) (o : Nat → St → Option (List ByteArray)) (x0_5 : ByteArray) (x1_5 : Int) (l2_5 : List ByteArray) (x3_5 : Int) (x4_5 : Int) : spec_l1Split.T.step tyt (spec_l1Split.tbl k) o 5 (spec_l1Split.S5 x0_5 x1_5 l2_5 x3_5 x4_5) = spec_l1Split.b5 (fun x0_5 x1_5 l2_5 x3_5 x4_5 => o 5 (spec_l1Split.S5 x0_5 x1_5 l2_5 x3_5 x4_5)) k x0_5 x1_5 l2_5 x3_5 x4_5 := by kernel_rfl
theorem spec_l1Split.e (k : Nat) (o : Nat → St → Option (List ByteArray)) (a0 : ByteArray) (a1 : Int) : spec_l1Split.T.main tyt (spec_l1Split.tbl k) o (a0, a1) = spec_l1Split.m (fun x0_5 x1_5 l2_5 x3_5 x4_5 => o 5 (spec_l1Split.S5 x0_5 x1_5 l2_5 x3_5 x4_5)) k a0 a1 := by kernel_rfl
theorem spec_l1Split.ok : spec_l1Split.T.ok = true := by kernel_rfl
theorem spec_l1Split.run (k : Nat) : (∀ (x0_5 : ByteArray) (x1_5 : Int) (l2_5 : List ByteArray) (x3_5 : Int) (x4_5 : Int), spec_l1Split.T.run tyt spec_l1Split.tbl k 5 (spec_l1Split.S5 x0_5 x1_5 l2_5 x3_5 x4_5) = spec_l1Split.l5 k x0_5 x1_5 l2_5 x3_5 x4_5) := by
  induction k with
  | zero => exact fun x0_5 x1_5 l2_5 x3_5 x4_5 => rfl
  | succ k ih =>
    exact fun x0_5 x1_5 l2_5 x3_5 x4_5 => by
      have q5 : (fun x0_5 x1_5 l2_5 x3_5 x4_5 => spec_l1Split.T.run tyt spec_l1Split.tbl k 5 (spec_l1Split.S5 x0_5 x1_5 l2_5 x3_5 x4_5)) = spec_l1Split.l5 k := by funext x0_5 x1_5 l2_5 x3_5 x4_5; exact ih x0_5 x1_5 l2_5 x3_5 x4_5
      exact (spec_l1Split.e5 k (spec_l1Split.T.run tyt spec_l1Split.tbl k) x0_5 x1_5 l2_5 x3_5 x4_5).trans (by rw [q5]; rfl)
theorem spec_l1Split.tblok (k : Nat) : TblOk Go.Proofs.Tryd.prog (spec_l1Split.tbl k) := TblOk.nil _
theorem spec_l1Split.sound (k : Nat) : Sound Go.Proofs.Tryd.prog 69 (spec_l1Split.spec k) := by
  have h := fn_ok (F := spec_l1Split.T) (tbl := spec_l1Split.tbl) mixed tyok Go.Proofs.Tryd.func69 (by kernel_rfl) (c0 := bodyOf Go.Proofs.Tryd.f69) rfl (conv_code _ _ _) rfl rfl spec_l1Split.ok k (fun j _ => spec_l1Split.tblok j)
  have q5 : (fun x0_5 x1_5 l2_5 x3_5 x4_5 => spec_l1Split.T.run tyt spec_l1Split.tbl k 5 (spec_l1Split.S5 x0_5 x1_5 l2_5 x3_5 x4_5)) = spec_l1Split.l5 k := by funext x0_5 x1_5 l2_5 x3_5 x4_5; exact (spec_l1Split.run k) x0_5 x1_5 l2_5 x3_5 x4_5
  have e : spec_l1Split.spec k = ⟨spec_l1Split.T.ps, spec_l1Split.T.rs, spec_l1Split.T.ev tyt spec_l1Split.tbl k⟩ := congrArg (FnSpec.mk _ _) (funext fun x => ((spec_l1Split.e k (spec_l1Split.T.run tyt spec_l1Split.tbl k) x.1 x.2).trans (by rw [q5]; rfl)).symm)
  rw [e]
  exact h
/-! ### spec_l1Num: function 66, that calls itself -/
def spec_l1Num.m (self : Int → Option (ByteArray)) (k : Nat) (a0 : Int) : Option (ByteArray) := (if a0 < 0 then ((self (w64 (0 - a0))).bind fun r1 => ((catS (⟨#[45]⟩ : ByteArray) r1).bind fun s2 => (some s2))) else (if a0 < 10 then ((cut ((⟨#[48, 49, 50, 51, 52, 53, 54, 55, 56, 57]⟩ : ByteArray).size) a0 (w64 (a0 + 1))).bind fun c3 => (some ((⟨#[48, 49, 50, 51, 52, 53, 54, 55, 56, 57]⟩ : ByteArray).extract c3.1 (c3.1 + c3.2)))) else ((quo .i64 a0 10).bind fun q4 => ((self q4).bind fun r5 => ((rem a0 10).bind fun q6 => ((rem a0 10).bind fun q7 => ((cut ((⟨#[48, 49, 50, 51, 52, 53, 54, 55, 56, 57]⟩ : ByteArray).size) q6 (w64 (q7 + 1))).bind fun c8 => ((catS r5 ((⟨#[48, 49, 50, 51, 52, 53, 54, 55, 56, 57]⟩ : ByteArray).extract c8.1 (c8.1 + c8.2))).bind fun s9 => (some s9)))))))))
def spec_l1Num.f : Nat → Int → Option (ByteArray)
  | 0, _ => none
  | k + 1, a0 => spec_l1Num.m (spec_l1Num.f k) (k + 1) a0
noncomputable def spec_l1Num.spec (k : Nat) : FnSpec := ⟨[.d (.int .i64) none], [.d .str none], fun x => spec_l1Num.f k x⟩
noncomputable def spec_l1Num.T : FnText := ⟨(conv [] (bodyOf Go.Proofs.Tryd.f66) 0).1, Go.Proofs.Tryd.f66.results.toList, 25, [], [.d (.int .i64) none], [.d .str none]⟩
noncomputable def spec_l1Num.tbl (k0 k : Nat) : Tbl := [(66, spec_l1Num.spec k0)]
theorem spec_l1Num.e (k0 k : Nat) (o : Nat → St → Option (ByteArray)) (a0 : Int) : spec_l1Num.T.main tyt (spec_l1Num.tbl k0 k) o a0 = spec_l1Num.m (spec_l1Num.f k0) k a0 := by kernel_rfl
theorem spec_l1Num.ok : spec_l1Num.T.ok = true := by kernel_rfl
theorem spec_l1Num.tblok (k0 k : Nat) (hs : Sound Go.Proofs.Tryd.prog 66 (spec_l1Num.spec k0)) : TblOk Go.Proofs.Tryd.prog (spec_l1Num.tbl k0 k) := TblOk.cons hs (TblOk.nil _)
theorem spec_l1Num.sound (k : Nat) : Sound Go.Proofs.Tryd.prog 66 (spec_l1Num.spec k) := by
  induction k with
  | zero => exact ⟨fun args w => enters_fn Go.Proofs.Tryd.func66 (by kernel_rfl) rfl args w, fun x r hx => nomatch (show none = some r from hx)⟩
  | succ k0 ih =>
  have h := fn_ok (F := spec_l1Num.T) (tbl := spec_l1Num.tbl k0) mixed tyok Go.Proofs.Tryd.func66 (by kernel_rfl) (c0 := bodyOf Go.Proofs.Tryd.f66) rfl (conv_code _ _ _) rfl rfl spec_l1Num.ok (k0 + 1) (fun j _ => spec_l1Num.tblok k0 j ih)
  have e : spec_l1Num.spec (k0 + 1) = ⟨spec_l1Num.T.ps, spec_l1Num.T.rs, spec_l1Num.T.ev tyt (spec_l1Num.tbl k0) (k0 + 1)⟩ := congrArg (FnSpec.mk _ _) (funext fun x => ((spec_l1Num.e k0 (k0 + 1) (spec_l1Num.T.run tyt (spec_l1Num.tbl k0) (k0 + 1)) x).trans (by rfl)).symm)
  rw [e]
  exact h
/-! ### spec_l1In: function 42 -/
def spec_l1In.m (k : Nat) (a0 : Int) (a1 : Int) (a2 : Int) : Option (Bool) := (if a1 ≤ a0 then (some (decide (a0 ≤ a2))) else (some false))
def spec_l1In.f (k : Nat) (a0 : Int) (a1 : Int) (a2 : Int) : Option (Bool) := spec_l1In.m k a0 a1 a2
noncomputable def spec_l1In.spec (k : Nat) : FnSpec := ⟨[.d (.int .i64) none, .d (.int .i64) none, .d (.int .i64) none], [.d .bool none], fun x => spec_l1In.f k x.1 x.2.1 x.2.2⟩
noncomputable def spec_l1In.T : FnText := ⟨(conv [] (bodyOf Go.Proofs.Tryd.f42) 0).1, Go.Proofs.Tryd.f42.results.toList, 15, [], [.d (.int .i64) none, .d (.int .i64) none, .d (.int .i64) none], [.d .bool none]⟩
noncomputable def spec_l1In.tbl (k : Nat) : Tbl := []
theorem spec_l1In.e (k : Nat) (o : Nat → St → Option (Bool)) (a0 : Int) (a1 : Int) (a2 : Int) : spec_l1In.T.main tyt (spec_l1In.tbl k) o (a0, a1, a2) = spec_l1In.m k a0 a1 a2 := by kernel_rfl
theorem spec_l1In.ok : spec_l1In.T.ok = true := by kernel_rfl
theorem spec_l1In.tblok (k : Nat) : TblOk Go.Proofs.Tryd.prog (spec_l1In.tbl k) := TblOk.nil _
theorem spec_l1In.sound (k : Nat) : Sound Go.Proofs.Tryd.prog 42 (spec_l1In.spec k) := by
  have h := fn_ok (F := spec_l1In.T) (tbl := spec_l1In.tbl) mixed tyok Go.Proofs.Tryd.func42 (by kernel_rfl) (c0 := bodyOf Go.Proofs.Tryd.f42) rfl (conv_code _ _ _) rfl rfl spec_l1In.ok k (fun j _ => spec_l1In.tblok j)
  have e : spec_l1In.spec k = ⟨spec_l1In.T.ps, spec_l1In.T.rs, spec_l1In.T.ev tyt spec_l1In.tbl k⟩ := congrArg (FnSpec.mk _ _) (funext fun x => ((spec_l1In.e k (spec_l1In.T.run tyt spec_l1In.tbl k) x.1 x.2.1 x.2.2).trans (by rfl)).symm)
  rw [e]
  exact h
/-! ### spec_l27Plain: function 63 -/
def spec_l27Plain.b3 (o3 : ByteArray → Int → Int → Option (Bool)) (k : Nat) (x0_3 : ByteArray) (x1_3 : Int) (x2_3 : Int) : Option (Bool) := (if x2_3 < (x0_3.size : Int) then ((chk x0_3.size x2_3).bind fun i1 => ((spec_l1In.f k (w64 ((byteAt x0_3 i1))) 32 126).bind fun r2 => (cond (!r2) (some false) ((chk x0_3.size x2_3).bind fun i3 => (if (byteAt x0_3 i3) = 35 then (some false) else (o3 x0_3 x1_3 (w64 (x2_3 + 1)))))))) else (some (decide ((x0_3.size : Int) ≤ x1_3))))
def spec_l27Plain.l3 : Nat → ByteArray → Int → Int → Option (Bool)
  | 0, _, _, _ => none
  | k + 1, x0_3, x1_3, x2_3 => spec_l27Plain.b3 (spec_l27Plain.l3 k) k x0_3 x1_3 x2_3
def spec_l27Plain.m (o3 : ByteArray → Int → Int → Option (Bool)) (k : Nat) (a0 : ByteArray) (a1 : Int) : Option (Bool) := (o3 a0 a1 0)
def spec_l27Plain.f (k : Nat) (a0 : ByteArray) (a1 : Int) : Option (Bool) := spec_l27Plain.m (spec_l27Plain.l3 k) k a0 a1
noncomputable def spec_l27Plain.spec (k : Nat) : FnSpec := ⟨[.d .str none, .d (.int .i64) none], [.d .bool none], fun x => spec_l27Plain.f k x.1 x.2⟩
def spec_l27Plain.S3 (x0_3 : ByteArray) (x1_3 : Int) (x2_3 : Int) : St := ⟨[(0, .val .str x0_3), (1, .val (.int .i64) x1_3), (5, .val (.int .i64) x2_3)], [], 1000⟩
noncomputable def spec_l27Plain.T : FnText := ⟨(conv [] (bodyOf Go.Proofs.Tryd.f63) 0).1, Go.Proofs.Tryd.f63.results.toList, 28, [(3, [(0, .rd .str), (1, .rd (.int .i64)), (5, .rd (.int .i64))])], [.d .str none, .d (.int .i64) none], [.d .bool none]⟩
noncomputable def spec_l27Plain.tbl (k : Nat) : Tbl := [(42, spec_l1In.spec k)]
theorem spec_l27Plain.e3 (k : Nat) (o : Nat → St → Option (Bool)) (x0_3 : ByteArray) (x1_3 : Int) (x2_3 : Int) : spec_l27Plain.T.step tyt (spec_l27Plain.tbl k) o 3 (spec_l27Plain.S3 x0_3 x1_3 x2_3) = spec_l27Plain.b3 (fun x0_3 x1_3 x2_3 => o 3 (spec_l27Plain.S3 x0_3 x1_3 x2_3)) k x0_3 x1_3 x2_3 := by kernel_rfl
theorem spec_l27Plain.e (k : Nat) (o : Nat → St → Option (Bool)) (a0 : ByteArray) (a1 : Int) : spec_l27Plain.T.main tyt (spec_l27Plain.tbl k) o (a0, a1) = spec_l27Plain.m (fun x0_3 x1_3 x2_3 => o 3 (spec_l27Plain.S3 x0_3 x1_3 x2_3)) k a0 a1 := by kernel_rfl
theorem spec_l27Plain.ok : spec_l27Plain.T.ok = true := by kernel_rfl
theorem spec_l27Plain.run (k : Nat) : (∀ (x0_3 : ByteArray) (x1_3 : Int) (x2_3 : Int), spec_l27Plain.T.run tyt spec_l27Plain.tbl k 3 (spec_l27Plain.S3 x0_3 x1_3 x2_3) = spec_l27Plain.l3 k x0_3 x1_3 x2_3) := by
  induction k with
  | zero => exact fun x0_3 x1_3 x2_3 => rfl
  | succ k ih =>
    exact fun x0_3 x1_3 x2_3 => by
      have q3 : (fun x0_3 x1_3 x2_3 => spec_l27Plain.T.run tyt spec_l27Plain.tbl k 3 (spec_l27Plain.S3 x0_3 x1_3 x2_3)) = spec_l27Plain.l3 k := by funext x0_3 x1_3 x2_3; exact ih x0_3 x1_3 x2_3
      exact (spec_l27Plain.e3 k (spec_l27Plain.T.run tyt spec_l27Plain.tbl k) x0_3 x1_3 x2_3).trans (by rw [q3]; rfl)
theorem spec_l27Plain.tblok (k : Nat) : TblOk Go.Proofs.Tryd.prog (spec_l27Plain.tbl k) := TblOk.cons (spec_l1In.sound k) (TblOk.nil _)
theorem spec_l27Plain.sound (k : Nat) : Sound Go.Proofs.Tryd.prog 63 (spec_l27Plain.spec k) := by
  have h := fn_ok (F := spec_l27Plain.T) (tbl := spec_l27Plain.tbl) mixed tyok Go.Proofs.Tryd.func63 (by kernel_rfl) (c0 := bodyOf Go.Proofs.Tryd.f63) rfl (conv_code _ _ _) rfl rfl spec_l27Plain.ok k (fun j _ => spec_l27Plain.tblok j)
  have q3 : (fun x0_3 x1_3 x2_3 => spec_l27Plain.T.run tyt spec_l27Plain.tbl k 3 (spec_l27Plain.S3 x0_3 x1_3 x2_3)) = spec_l27Plain.l3 k := by funext x0_3 x1_3 x2_3; exact (spec_l27Plain.run k) x0_3 x1_3 x2_3
  have e : spec_l27Plain.spec k = ⟨spec_l27Plain.T.ps, spec_l27Plain.T.rs, spec_l27Plain.T.ev tyt spec_l27Plain.tbl k⟩ := congrArg (FnSpec.mk _ _) (funext fun x => ((spec_l27Plain.e k (spec_l27Plain.T.run tyt spec_l27Plain.tbl k) x.1 x.2).trans (by rw [q3]; rfl)).symm)
  rw [e]
  exact h
/-! ### spec_l1Stands: function 64 -/
def spec_l1Stands.b3 (o3 : ByteArray → Int → Int → Option (Bool)) (k : Nat) (x0_3 : ByteArray) (x1_3 : Int) (x2_3 : Int) : Option (Bool) := (if x2_3 < (x0_3.size : Int) then ((chk x0_3.size x2_3).bind fun i1 => (if (byteAt x0_3 i1) = x1_3 then (some true) else (o3 x0_3 x1_3 (w64 (x2_3 + 1))))) else (some false))
def spec_l1Stands.l3 : Nat → ByteArray → Int → Int → Option (Bool)
  | 0, _, _, _ => none
  | k + 1, x0_3, x1_3, x2_3 => spec_l1Stands.b3 (spec_l1Stands.l3 k) k x0_3 x1_3 x2_3
def spec_l1Stands.m (o3 : ByteArray → Int → Int → Option (Bool)) (k : Nat) (a0 : ByteArray) (a1 : Int) : Option (Bool) := (o3 a0 a1 0)
def spec_l1Stands.f (k : Nat) (a0 : ByteArray) (a1 : Int) : Option (Bool) := spec_l1Stands.m (spec_l1Stands.l3 k) k a0 a1
noncomputable def spec_l1Stands.spec (k : Nat) : FnSpec := ⟨[.d .str none, .d (.int .u8) none], [.d .bool none], fun x => spec_l1Stands.f k x.1 x.2⟩
def spec_l1Stands.S3 (x0_3 : ByteArray) (x1_3 : Int) (x2_3 : Int) : St := ⟨[(0, .val .str x0_3), (1, .val (.int .u8) x1_3), (5, .val (.int .i64) x2_3)], [], 1000⟩
noncomputable def spec_l1Stands.T : FnText := ⟨(conv [] (bodyOf Go.Proofs.Tryd.f64) 0).1, Go.Proofs.Tryd.f64.results.toList, 17, [(3, [(0, .rd .str), (1, .rd (.int .u8)), (5, .rd (.int .i64))])], [.d .str none, .d (.int .u8) none], [.d .bool none]⟩
noncomputable def spec_l1Stands.tbl (k : Nat) : Tbl := []
theorem spec_l1Stands.e3 (k : Nat) (o : Nat → St → Option (Bool)) (x0_3 : ByteArray) (x1_3 : Int) (x2_3 : Int) : spec_l1Stands.T.step tyt (spec_l1Stands.tbl k) o 3 (spec_l1Stands.S3 x0_3 x1_3 x2_3) = spec_l1Stands.b3 (fun x0_3 x1_3 x2_3 => o 3 (spec_l1Stands.S3 x0_3 x1_3 x2_3)) k x0_3 x1_3 x2_3 := by kernel_rfl
theorem spec_l1Stands.e (k : Nat) (o : Nat → St → Option (Bool)) (a0 : ByteArray) (a1 : Int) : spec_l1Stands.T.main tyt (spec_l1Stands.tbl k) o (a0, a1) = spec_l1Stands.m (fun x0_3 x1_3 x2_3 => o 3 (spec_l1Stands.S3 x0_3 x1_3 x2_3)) k a0 a1 := by kernel_rfl
theorem spec_l1Stands.ok : spec_l1Stands.T.ok = true := by kernel_rfl
theorem spec_l1Stands.run (k : Nat) : (∀ (x0_3 : ByteArray) (x1_3 : Int) (x2_3 : Int), spec_l1Stands.T.run tyt spec_l1Stands.tbl k 3 (spec_l1Stands.S3 x0_3 x1_3 x2_3) = spec_l1Stands.l3 k x0_3 x1_3 x2_3) := by
  induction k with
  | zero => exact fun x0_3 x1_3 x2_3 => rfl
  | succ k ih =>
    exact fun x0_3 x1_3 x2_3 => by
      have q3 : (fun x0_3 x1_3 x2_3 => spec_l1Stands.T.run tyt spec_l1Stands.tbl k 3 (spec_l1Stands.S3 x0_3 x1_3 x2_3)) = spec_l1Stands.l3 k := by funext x0_3 x1_3 x2_3; exact ih x0_3 x1_3 x2_3
      exact (spec_l1Stands.e3 k (spec_l1Stands.T.run tyt spec_l1Stands.tbl k) x0_3 x1_3 x2_3).trans (by rw [q3]; rfl)
theorem spec_l1Stands.tblok (k : Nat) : TblOk Go.Proofs.Tryd.prog (spec_l1Stands.tbl k) := TblOk.nil _
theorem spec_l1Stands.sound (k : Nat) : Sound Go.Proofs.Tryd.prog 64 (spec_l1Stands.spec k) := by
  have h := fn_ok (F := spec_l1Stands.T) (tbl := spec_l1Stands.tbl) mixed tyok Go.Proofs.Tryd.func64 (by kernel_rfl) (c0 := bodyOf Go.Proofs.Tryd.f64) rfl (conv_code _ _ _) rfl rfl spec_l1Stands.ok k (fun j _ => spec_l1Stands.tblok j)
  have q3 : (fun x0_3 x1_3 x2_3 => spec_l1Stands.T.run tyt spec_l1Stands.tbl k 3 (spec_l1Stands.S3 x0_3 x1_3 x2_3)) = spec_l1Stands.l3 k := by funext x0_3 x1_3 x2_3; exact (spec_l1Stands.run k) x0_3 x1_3 x2_3
  have e : spec_l1Stands.spec k = ⟨spec_l1Stands.T.ps, spec_l1Stands.T.rs, spec_l1Stands.T.ev tyt spec_l1Stands.tbl k⟩ := congrArg (FnSpec.mk _ _) (funext fun x => ((spec_l1Stands.e k (spec_l1Stands.T.run tyt spec_l1Stands.tbl k) x.1 x.2).trans (by rw [q3]; rfl)).symm)
  rw [e]
  exact h
/-! ### spec_l27Good: function 43 -/
def spec_l27Good.m (k : Nat) (a0_0 : ByteArray) (a0_1 : ByteArray) : Option (Bool) := (if ¬ a0_0 = (⟨#[]⟩ : ByteArray) then ((spec_l27Plain.f k a0_0 160).bind fun r1 => (cond r1 ((spec_l1Stands.f k a0_0 64).bind fun r2 => (cond (!r2) ((spec_l27Plain.f k a0_1 200).bind fun r3 => (some r3)) (some false))) (some false))) else (some false))
def spec_l27Good.f (k : Nat) (a0_0 : ByteArray) (a0_1 : ByteArray) : Option (Bool) := spec_l27Good.m k a0_0 a0_1
noncomputable def spec_l27Good.spec (k : Nat) : FnSpec := ⟨[.ag [.d .str none, .d .str none]], [.d .bool none], fun x => spec_l27Good.f k x.1 x.2⟩
noncomputable def spec_l27Good.T : FnText := ⟨(conv [] (bodyOf Go.Proofs.Tryd.f43) 0).1, Go.Proofs.Tryd.f43.results.toList, 22, [], [.ag [.d .str none, .d .str none]], [.d .bool none]⟩
noncomputable def spec_l27Good.tbl (k : Nat) : Tbl := [(63, spec_l27Plain.spec k), (64, spec_l1Stands.spec k)]
theorem spec_l27Good.e (k : Nat) (o : Nat → St → Option (Bool)) (a0_0 : ByteArray) (a0_1 : ByteArray) : spec_l27Good.T.main tyt (spec_l27Good.tbl k) o (a0_0, a0_1) = spec_l27Good.m k a0_0 a0_1 := by kernel_rfl
theorem spec_l27Good.ok : spec_l27Good.T.ok = true := by kernel_rfl
theorem spec_l27Good.tblok (k : Nat) : TblOk Go.Proofs.Tryd.prog (spec_l27Good.tbl k) := TblOk.cons (spec_l27Plain.sound k) (TblOk.cons (spec_l1Stands.sound k) (TblOk.nil _))
theorem spec_l27Good.sound (k : Nat) : Sound Go.Proofs.Tryd.prog 43 (spec_l27Good.spec k) := by
  have h := fn_ok (F := spec_l27Good.T) (tbl := spec_l27Good.tbl) mixed tyok Go.Proofs.Tryd.func43 (by kernel_rfl) (c0 := bodyOf Go.Proofs.Tryd.f43) rfl (conv_code _ _ _) rfl rfl spec_l27Good.ok k (fun j _ => spec_l27Good.tblok j)
  have e : spec_l27Good.spec k = ⟨spec_l27Good.T.ps, spec_l27Good.T.rs, spec_l27Good.T.ev tyt spec_l27Good.tbl k⟩ := congrArg (FnSpec.mk _ _) (funext fun x => ((spec_l27Good.e k (spec_l27Good.T.run tyt spec_l27Good.tbl k) x.1 x.2).trans (by rfl)).symm)
  rw [e]
  exact h
/-! ### spec_l1Sum: function 77 -/
def spec_l1Sum.b4 (o4 : ByteArray → Int → Int → Option (Int)) (k : Nat) (x0_4 : ByteArray) (x1_4 : Int) (x2_4 : Int) : Option (Int) := (if x2_4 < (x0_4.size : Int) then ((chk x0_4.size x2_4).bind fun i1 => ((rem (w64 ((w64 ((w64 (41 * x1_4)) + (w64 ((byteAt x0_4 i1))))) + 1)) 999979).bind fun q2 => (o4 x0_4 q2 (w64 (x2_4 + 1))))) else (some x1_4))
def spec_l1Sum.l4 : Nat → ByteArray → Int → Int → Option (Int)
  | 0, _, _, _ => none
  | k + 1, x0_4, x1_4, x2_4 => spec_l1Sum.b4 (spec_l1Sum.l4 k) k x0_4 x1_4 x2_4
def spec_l1Sum.m (o4 : ByteArray → Int → Int → Option (Int)) (k : Nat) (a0 : ByteArray) : Option (Int) := (o4 a0 7 0)
def spec_l1Sum.f (k : Nat) (a0 : ByteArray) : Option (Int) := spec_l1Sum.m (spec_l1Sum.l4 k) k a0
noncomputable def spec_l1Sum.spec (k : Nat) : FnSpec := ⟨[.d .str none], [.d (.int .i64) none], fun x => spec_l1Sum.f k x⟩
def spec_l1Sum.S4 (x0_4 : ByteArray) (x1_4 : Int) (x2_4 : Int) : St := ⟨[(0, .val .str x0_4), (3, .val (.int .i64) x1_4), (4, .val (.int .i64) x2_4)], [], 1000⟩
noncomputable def spec_l1Sum.T : FnText := ⟨(conv [] (bodyOf Go.Proofs.Tryd.f77) 0).1, Go.Proofs.Tryd.f77.results.toList, 21, [(4, [(0, .rd .str), (3, .rd (.int .i64)), (4, .rd (.int .i64))])], [.d .str none], [.d (.int .i64) none]⟩
noncomputable def spec_l1Sum.tbl (k : Nat) : Tbl := []
theorem spec_l1Sum.e4 (k : Nat) (o : Nat → St → Option (Int)) (x0_4 : ByteArray) (x1_4 : Int) (x2_4 : Int) : spec_l1Sum.T.step tyt (spec_l1Sum.tbl k) o 4 (spec_l1Sum.S4 x0_4 x1_4 x2_4) = spec_l1Sum.b4 (fun x0_4 x1_4 x2_4 => o 4 (spec_l1Sum.S4 x0_4 x1_4 x2_4)) k x0_4 x1_4 x2_4 := by kernel_rfl
theorem spec_l1Sum.e (k : Nat) (o : Nat → St → Option (Int)) (a0 : ByteArray) : spec_l1Sum.T.main tyt (spec_l1Sum.tbl k) o a0 = spec_l1Sum.m (fun x0_4 x1_4 x2_4 => o 4 (spec_l1Sum.S4 x0_4 x1_4 x2_4)) k a0 := by kernel_rfl
theorem spec_l1Sum.ok : spec_l1Sum.T.ok = true := by kernel_rfl
theorem spec_l1Sum.run (k : Nat) : (∀ (x0_4 : ByteArray) (x1_4 : Int) (x2_4 : Int), spec_l1Sum.T.run tyt spec_l1Sum.tbl k 4 (spec_l1Sum.S4 x0_4 x1_4 x2_4) = spec_l1Sum.l4 k x0_4 x1_4 x2_4) := by
  induction k with
  | zero => exact fun x0_4 x1_4 x2_4 => rfl
  | succ k ih =>
    exact fun x0_4 x1_4 x2_4 => by
      have q4 : (fun x0_4 x1_4 x2_4 => spec_l1Sum.T.run tyt spec_l1Sum.tbl k 4 (spec_l1Sum.S4 x0_4 x1_4 x2_4)) = spec_l1Sum.l4 k := by funext x0_4 x1_4 x2_4; exact ih x0_4 x1_4 x2_4
      exact (spec_l1Sum.e4 k (spec_l1Sum.T.run tyt spec_l1Sum.tbl k) x0_4 x1_4 x2_4).trans (by rw [q4]; rfl)
theorem spec_l1Sum.tblok (k : Nat) : TblOk Go.Proofs.Tryd.prog (spec_l1Sum.tbl k) := TblOk.nil _
theorem spec_l1Sum.sound (k : Nat) : Sound Go.Proofs.Tryd.prog 77 (spec_l1Sum.spec k) := by
  have h := fn_ok (F := spec_l1Sum.T) (tbl := spec_l1Sum.tbl) mixed tyok Go.Proofs.Tryd.func77 (by kernel_rfl) (c0 := bodyOf Go.Proofs.Tryd.f77) rfl (conv_code _ _ _) rfl rfl spec_l1Sum.ok k (fun j _ => spec_l1Sum.tblok j)
  have q4 : (fun x0_4 x1_4 x2_4 => spec_l1Sum.T.run tyt spec_l1Sum.tbl k 4 (spec_l1Sum.S4 x0_4 x1_4 x2_4)) = spec_l1Sum.l4 k := by funext x0_4 x1_4 x2_4; exact (spec_l1Sum.run k) x0_4 x1_4 x2_4
  have e : spec_l1Sum.spec k = ⟨spec_l1Sum.T.ps, spec_l1Sum.T.rs, spec_l1Sum.T.ev tyt spec_l1Sum.tbl k⟩ := congrArg (FnSpec.mk _ _) (funext fun x => ((spec_l1Sum.e k (spec_l1Sum.T.run tyt spec_l1Sum.tbl k) x).trans (by rw [q4]; rfl)).symm)
  rw [e]
  exact h
/-! ### spec_l1Seal: function 65 -/
def spec_l1Seal.m (k : Nat) (a0 : ByteArray) : Option (ByteArray) := ((catS a0 (⟨#[35]⟩ : ByteArray)).bind fun s1 => ((spec_l1Sum.f k a0).bind fun r2 => ((spec_l1Num.f k r2).bind fun r3 => ((catS s1 r3).bind fun s4 => (some s4)))))
def spec_l1Seal.f (k : Nat) (a0 : ByteArray) : Option (ByteArray) := spec_l1Seal.m k a0
noncomputable def spec_l1Seal.spec (k : Nat) : FnSpec := ⟨[.d .str none], [.d .str none], fun x => spec_l1Seal.f k x⟩
noncomputable def spec_l1Seal.T : FnText := ⟨(conv [] (bodyOf Go.Proofs.Tryd.f65) 0).1, Go.Proofs.Tryd.f65.results.toList, 9, [], [.d .str none], [.d .str none]⟩
noncomputable def spec_l1Seal.tbl (k : Nat) : Tbl := [(77, spec_l1Sum.spec k), (66, spec_l1Num.spec k)]
theorem spec_l1Seal.e (k : Nat) (o : Nat → St → Option (ByteArray)) (a0 : ByteArray) : spec_l1Seal.T.main tyt (spec_l1Seal.tbl k) o a0 = spec_l1Seal.m k a0 := by kernel_rfl
theorem spec_l1Seal.ok : spec_l1Seal.T.ok = true := by kernel_rfl
theorem spec_l1Seal.tblok (k : Nat) : TblOk Go.Proofs.Tryd.prog (spec_l1Seal.tbl k) := TblOk.cons (spec_l1Sum.sound k) (TblOk.cons (spec_l1Num.sound k) (TblOk.nil _))
theorem spec_l1Seal.sound (k : Nat) : Sound Go.Proofs.Tryd.prog 65 (spec_l1Seal.spec k) := by
  have h := fn_ok (F := spec_l1Seal.T) (tbl := spec_l1Seal.tbl) mixed tyok Go.Proofs.Tryd.func65 (by kernel_rfl) (c0 := bodyOf Go.Proofs.Tryd.f65) rfl (conv_code _ _ _) rfl rfl spec_l1Seal.ok k (fun j _ => spec_l1Seal.tblok j)
  have e : spec_l1Seal.spec k = ⟨spec_l1Seal.T.ps, spec_l1Seal.T.rs, spec_l1Seal.T.ev tyt spec_l1Seal.tbl k⟩ := congrArg (FnSpec.mk _ _) (funext fun x => ((spec_l1Seal.e k (spec_l1Seal.T.run tyt spec_l1Seal.tbl k) x).trans (by rfl)).symm)
  rw [e]
  exact h
/-! ### spec_l27Line: function 44 -/
def spec_l27Line.m (k : Nat) (a0 : Int) (a1_0 : ByteArray) (a1_1 : ByteArray) : Option (ByteArray) := ((spec_l1Num.f k a0).bind fun r1 => ((catS r1 (⟨#[32]⟩ : ByteArray)).bind fun s2 => ((catS s2 a1_0).bind fun s3 => ((catS s3 (⟨#[64]⟩ : ByteArray)).bind fun s4 => ((catS s4 a1_1).bind fun s5 => ((spec_l1Seal.f k s5).bind fun r6 => ((catS r6 (⟨#[10]⟩ : ByteArray)).bind fun s7 => (some s7))))))))
def spec_l27Line.f (k : Nat) (a0 : Int) (a1_0 : ByteArray) (a1_1 : ByteArray) : Option (ByteArray) := spec_l27Line.m k a0 a1_0 a1_1
noncomputable def spec_l27Line.spec (k : Nat) : FnSpec := ⟨[.d (.int .i64) none, .ag [.d .str none, .d .str none]], [.d .str none], fun x => spec_l27Line.f k x.1 x.2.1 x.2.2⟩
noncomputable def spec_l27Line.T : FnText := ⟨(conv [] (bodyOf Go.Proofs.Tryd.f44) 0).1, Go.Proofs.Tryd.f44.results.toList, 17, [], [.d (.int .i64) none, .ag [.d .str none, .d .str none]], [.d .str none]⟩
noncomputable def spec_l27Line.tbl (k : Nat) : Tbl := [(66, spec_l1Num.spec k), (65, spec_l1Seal.spec k)]
theorem spec_l27Line.e (k : Nat) (o : Nat → St → Option (ByteArray)) (a0 : Int) (a1_0 : ByteArray) (a1_1 : ByteArray) : spec_l27Line.T.main tyt (spec_l27Line.tbl k) o (a0, a1_0, a1_1) = spec_l27Line.m k a0 a1_0 a1_1 := by kernel_rfl
theorem spec_l27Line.ok : spec_l27Line.T.ok = true := by kernel_rfl
theorem spec_l27Line.tblok (k : Nat) : TblOk Go.Proofs.Tryd.prog (spec_l27Line.tbl k) := TblOk.cons (spec_l1Num.sound k) (TblOk.cons (spec_l1Seal.sound k) (TblOk.nil _))
theorem spec_l27Line.sound (k : Nat) : Sound Go.Proofs.Tryd.prog 44 (spec_l27Line.spec k) := by
  have h := fn_ok (F := spec_l27Line.T) (tbl := spec_l27Line.tbl) mixed tyok Go.Proofs.Tryd.func44 (by kernel_rfl) (c0 := bodyOf Go.Proofs.Tryd.f44) rfl (conv_code _ _ _) rfl rfl spec_l27Line.ok k (fun j _ => spec_l27Line.tblok j)
  have e : spec_l27Line.spec k = ⟨spec_l27Line.T.ps, spec_l27Line.T.rs, spec_l27Line.T.ev tyt spec_l27Line.tbl k⟩ := congrArg (FnSpec.mk _ _) (funext fun x => ((spec_l27Line.e k (spec_l27Line.T.run tyt spec_l27Line.tbl k) x.1 x.2.1 x.2.2).trans (by rfl)).symm)
  rw [e]
  exact h
/-! ### spec_l27Read: function 70 -/
def spec_l27Read.m (k : Nat) (a0 : ByteArray) (a1 : Int) : Option (ByteArray × ByteArray × Bool) := ((spec_l1Num.f k a1).bind fun r1 => ((catS r1 (⟨#[32]⟩ : ByteArray)).bind fun s2 => ((spec_l1Split.f k a0 35).bind fun r3 => ((chk r3.length 0).bind fun i4 => (if ((r3.getD i4 ByteArray.empty).size : Int) < (s2.size : Int) then (some (ByteArray.empty, ByteArray.empty, false)) else ((cutTo ((r3.getD i4 ByteArray.empty).size) (s2.size : Int)).bind fun m6 => (if ¬ ((r3.getD i4 ByteArray.empty).extract 0 m6) = s2 then (some (ByteArray.empty, ByteArray.empty, false)) else ((cut ((r3.getD i4 ByteArray.empty).size) (s2.size : Int) ((r3.getD i4 ByteArray.empty).size : Int)).bind fun c7 => ((spec_l1Split.f k ((r3.getD i4 ByteArray.empty).extract c7.1 (c7.1 + c7.2)) 64).bind fun r8 => ((chk r8.length 0).bind fun i9 => (if ((r8.getD i9 ByteArray.empty).size : Int) = (((r3.getD i4 ByteArray.empty).extract c7.1 (c7.1 + c7.2)).size : Int) then (some (ByteArray.empty, ByteArray.empty, false)) else ((cut (((r3.getD i4 ByteArray.empty).extract c7.1 (c7.1 + c7.2)).size) (w64 (((r8.getD i9 ByteArray.empty).size : Int) + 1)) (((r3.getD i4 ByteArray.empty).extract c7.1 (c7.1 + c7.2)).size : Int)).bind fun c10 => ((spec_l27Good.f k (r8.getD i9 ByteArray.empty) (((r3.getD i4 ByteArray.empty).extract c7.1 (c7.1 + c7.2)).extract c10.1 (c10.1 + c10.2))).bind fun r11 => (cond r11 ((spec_l27Line.f k a1 (r8.getD i9 ByteArray.empty) (((r3.getD i4 ByteArray.empty).extract c7.1 (c7.1 + c7.2)).extract c10.1 (c10.1 + c10.2))).bind fun r12 => ((catS a0 (⟨#[10]⟩ : ByteArray)).bind fun s13 => (some ((r8.getD i9 ByteArray.empty), (((r3.getD i4 ByteArray.empty).extract c7.1 (c7.1 + c7.2)).extract c10.1 (c10.1 + c10.2)), (decide (r12 = s13)))))) (some ((r8.getD i9 ByteArray.empty), (((r3.getD i4 ByteArray.empty).extract c7.1 (c7.1 + c7.2)).extract c10.1 (c10.1 + c10.2)), false))))))))))))))))
def spec_l27Read.f (k : Nat) (a0 : ByteArray) (a1 : Int) : Option (ByteArray × ByteArray × Bool) := spec_l27Read.m k a0 a1
noncomputable def spec_l27Read.spec (k : Nat) : FnSpec := ⟨[.d .str none, .d (.int .i64) none], [.ag [.d .str none, .d .str none], .d .bool none], fun x => spec_l27Read.f k x.1 x.2⟩
noncomputable def spec_l27Read.T : FnText := ⟨(conv [] (bodyOf Go.Proofs.Tryd.f70) 0).1, Go.Proofs.Tryd.f70.results.toList, 64, [], [.d .str none, .d (.int .i64) none], [.ag [.d .str none, .d .str none], .d .bool none]⟩
noncomputable def spec_l27Read.tbl (k : Nat) : Tbl := [(66, spec_l1Num.spec k), (69, spec_l1Split.spec k), (43, spec_l27Good.spec k), (44, spec_l27Line.spec k)]
theorem spec_l27Read.e (k : Nat) (o : Nat → St → Option (ByteArray × ByteArray × Bool)) (a0 : ByteArray) (a1 : Int) : spec_l27Read.T.main tyt (spec_l27Read.tbl k) o (a0, a1) = spec_l27Read.m k a0 a1 := by kernel_rfl
theorem spec_l27Read.ok : spec_l27Read.T.ok = true := by kernel_rfl
theorem spec_l27Read.tblok (k : Nat) : TblOk Go.Proofs.Tryd.prog (spec_l27Read.tbl k) := TblOk.cons (spec_l1Num.sound k) (TblOk.cons (spec_l1Split.sound k) (TblOk.cons (spec_l27Good.sound k) (TblOk.cons (spec_l27Line.sound k) (TblOk.nil _))))
theorem spec_l27Read.sound (k : Nat) : Sound Go.Proofs.Tryd.prog 70 (spec_l27Read.spec k) := by
  have h := fn_ok (F := spec_l27Read.T) (tbl := spec_l27Read.tbl) mixed tyok Go.Proofs.Tryd.func70 (by kernel_rfl) (c0 := bodyOf Go.Proofs.Tryd.f70) rfl (conv_code _ _ _) rfl rfl spec_l27Read.ok k (fun j _ => spec_l27Read.tblok j)
  have e : spec_l27Read.spec k = ⟨spec_l27Read.T.ps, spec_l27Read.T.rs, spec_l27Read.T.ev tyt spec_l27Read.tbl k⟩ := congrArg (FnSpec.mk _ _) (funext fun x => ((spec_l27Read.e k (spec_l27Read.T.run tyt spec_l27Read.tbl k) x.1 x.2).trans (by rfl)).symm)
  rw [e]
  exact h
/-! ### spec_l27Open: function 48 -/
def spec_l27Open.b4 (o4 : ByteArray → (List (ByteArray × ByteArray)) → Int → Option (List (ByteArray × ByteArray) × Int)) (k : Nat) (x0_4 : ByteArray) (l1_4 : List (ByteArray × ByteArray)) (x2_4 : Int) : Option (List (ByteArray × ByteArray) × Int) := (if x2_4 < (x0_4.size : Int) then (if (l1_4.length : Int) < 60 then ((cut x0_4.size x2_4 (x0_4.size : Int)).bind fun c1 => ((spec_l1Split.f k (x0_4.extract c1.1 (c1.1 + c1.2)) 10).bind fun r2 => ((chk r2.length 0).bind fun i3 => ((spec_l27Read.f k (r2.getD i3 ByteArray.empty) (l1_4.length : Int)).bind fun r4 => (if (r2.length : Int) < 2 then (some (l1_4, x2_4)) else (cond (!r4.2.2) (some (l1_4, x2_4)) ((app 4398046511104 l1_4 [(r4.1, r4.2.1)]).bind fun l5 => ((chk r2.length 0).bind fun i6 => (o4 x0_4 l5 (w64 ((w64 (x2_4 + ((r2.getD i6 ByteArray.empty).size : Int))) + 1))))))))))) else (some (l1_4, x2_4))) else (some (l1_4, x2_4)))
def spec_l27Open.l4 : Nat → ByteArray → (List (ByteArray × ByteArray)) → Int → Option (List (ByteArray × ByteArray) × Int)
  | 0, _, _, _ => none
  | k + 1, x0_4, l1_4, x2_4 => spec_l27Open.b4 (spec_l27Open.l4 k) k x0_4 l1_4 x2_4
def spec_l27Open.m (o4 : ByteArray → (List (ByteArray × ByteArray)) → Int → Option (List (ByteArray × ByteArray) × Int)) (k : Nat) (a0 : ByteArray) : Option (List (ByteArray × ByteArray) × Int) := (o4 a0 ([] : List (ByteArray × ByteArray)) 0)
def spec_l27Open.f (k : Nat) (a0 : ByteArray) : Option (List (ByteArray × ByteArray) × Int) := spec_l27Open.m (spec_l27Open.l4 k) k a0
noncomputable def spec_l27Open.spec (k : Nat) : FnSpec := ⟨[.d .str none], [.d (.sl (.pair .str .str)) (some 27), .d (.int .i64) none], fun x => spec_l27Open.f k x⟩
def spec_l27Open.S4 (x0_4 : ByteArray) (l1_4 : List (ByteArray × ByteArray)) (x2_4 : Int) : St := ⟨[(0, .val .str x0_4), (4, .ref 100), (5, .val (.int .i64) x2_4)], [(100, some (.row 27 (.pair .str .str) l1_4))], 1000⟩
noncomputable def spec_l27Open.T : FnText := ⟨(conv [] (bodyOf Go.Proofs.Tryd.f48) 0).1, Go.Proofs.Tryd.f48.results.toList, 52, [(4, [(0, .rd .str), (4, .own 27 (.pair .str .str) 100), (5, .rd (.int .i64))])], [.d .str none], [.d (.sl (.pair .str .str)) (some 27), .d (.int .i64) none]⟩
noncomputable def spec_l27Open.tbl (k : Nat) : Tbl := [(69, spec_l1Split.spec k), (70, spec_l27Read.spec k)]
theorem spec_l27Open.e4 (k : Nat) (o : Nat → St → Option (List (ByteArray × ByteArray) × Int)) (x0_4 : ByteArray) (l1_4 : List (ByteArray × ByteArray)) (x2_4 : Int) : spec_l27Open.T.step tyt (spec_l27Open.tbl k) o 4 (spec_l27Open.S4 x0_4 l1_4 x2_4) = spec_l27Open.b4 (fun x0_4 l1_4 x2_4 => o 4 (spec_l27Open.S4 x0_4 l1_4 x2_4)) k x0_4 l1_4 x2_4 := by kernel_rfl
theorem spec_l27Open.e (k : Nat) (o : Nat → St → Option (List (ByteArray × ByteArray) × Int)) (a0 : ByteArray) : spec_l27Open.T.main tyt (spec_l27Open.tbl k) o a0 = spec_l27Open.m (fun x0_4 l1_4 x2_4 => o 4 (spec_l27Open.S4 x0_4 l1_4 x2_4)) k a0 := by kernel_rfl
theorem spec_l27Open.ok : spec_l27Open.T.ok = true := by kernel_rfl
theorem spec_l27Open.run (k : Nat) : (∀ (x0_4 : ByteArray) (l1_4 : List (ByteArray × ByteArray)) (x2_4 : Int), spec_l27Open.T.run tyt spec_l27Open.tbl k 4 (spec_l27Open.S4 x0_4 l1_4 x2_4) = spec_l27Open.l4 k x0_4 l1_4 x2_4) := by
  induction k with
  | zero => exact fun x0_4 l1_4 x2_4 => rfl
  | succ k ih =>
    exact fun x0_4 l1_4 x2_4 => by
      have q4 : (fun x0_4 l1_4 x2_4 => spec_l27Open.T.run tyt spec_l27Open.tbl k 4 (spec_l27Open.S4 x0_4 l1_4 x2_4)) = spec_l27Open.l4 k := by funext x0_4 l1_4 x2_4; exact ih x0_4 l1_4 x2_4
      exact (spec_l27Open.e4 k (spec_l27Open.T.run tyt spec_l27Open.tbl k) x0_4 l1_4 x2_4).trans (by rw [q4]; rfl)
theorem spec_l27Open.tblok (k : Nat) : TblOk Go.Proofs.Tryd.prog (spec_l27Open.tbl k) := TblOk.cons (spec_l1Split.sound k) (TblOk.cons (spec_l27Read.sound k) (TblOk.nil _))
theorem spec_l27Open.sound (k : Nat) : Sound Go.Proofs.Tryd.prog 48 (spec_l27Open.spec k) := by
  have h := fn_ok (F := spec_l27Open.T) (tbl := spec_l27Open.tbl) mixed tyok Go.Proofs.Tryd.func48 (by kernel_rfl) (c0 := bodyOf Go.Proofs.Tryd.f48) rfl (conv_code _ _ _) rfl rfl spec_l27Open.ok k (fun j _ => spec_l27Open.tblok j)
  have q4 : (fun x0_4 l1_4 x2_4 => spec_l27Open.T.run tyt spec_l27Open.tbl k 4 (spec_l27Open.S4 x0_4 l1_4 x2_4)) = spec_l27Open.l4 k := by funext x0_4 l1_4 x2_4; exact (spec_l27Open.run k) x0_4 l1_4 x2_4
  have e : spec_l27Open.spec k = ⟨spec_l27Open.T.ps, spec_l27Open.T.rs, spec_l27Open.T.ev tyt spec_l27Open.tbl k⟩ := congrArg (FnSpec.mk _ _) (funext fun x => ((spec_l27Open.e k (spec_l27Open.T.run tyt spec_l27Open.tbl k) x).trans (by rw [q4]; rfl)).symm)
  rw [e]
  exact h
/-! ### spec_l27Log: function 50 -/
def spec_l27Log.m (k : Nat) (a0_0 : ByteArray) (a0_1 : ByteArray) (a0_2 : Int) : Option (Bool) := (if 30000 < (w64 ((a0_0.size : Int) + (a0_1.size : Int))) then (some false) else ((catS a0_0 a0_1).bind fun s1 => ((spec_l27Open.f k s1).bind fun r2 => ((spec_l27Open.f k a0_0).bind fun r3 => (if r2.2 = (w64 ((a0_0.size : Int) + (a0_1.size : Int))) then (if r3.2 = (a0_0.size : Int) then (some (decide ((r2.1.length : Int) = a0_2))) else (some false)) else (some false))))))
def spec_l27Log.f (k : Nat) (a0_0 : ByteArray) (a0_1 : ByteArray) (a0_2 : Int) : Option (Bool) := spec_l27Log.m k a0_0 a0_1 a0_2
noncomputable def spec_l27Log.spec (k : Nat) : FnSpec := ⟨[.ag [.d .str none, .d .str none, .d (.int .i64) none]], [.d .bool none], fun x => spec_l27Log.f k x.1 x.2.1 x.2.2⟩
noncomputable def spec_l27Log.T : FnText := ⟨(conv [] (bodyOf Go.Proofs.Tryd.f50) 0).1, Go.Proofs.Tryd.f50.results.toList, 53, [], [.ag [.d .str none, .d .str none, .d (.int .i64) none]], [.d .bool none]⟩
noncomputable def spec_l27Log.tbl (k : Nat) : Tbl := [(48, spec_l27Open.spec k)]
theorem spec_l27Log.e (k : Nat) (o : Nat → St → Option (Bool)) (a0_0 : ByteArray) (a0_1 : ByteArray) (a0_2 : Int) : spec_l27Log.T.main tyt (spec_l27Log.tbl k) o (a0_0, a0_1, a0_2) = spec_l27Log.m k a0_0 a0_1 a0_2 := by kernel_rfl
theorem spec_l27Log.ok : spec_l27Log.T.ok = true := by kernel_rfl
theorem spec_l27Log.tblok (k : Nat) : TblOk Go.Proofs.Tryd.prog (spec_l27Log.tbl k) := TblOk.cons (spec_l27Open.sound k) (TblOk.nil _)
theorem spec_l27Log.sound (k : Nat) : Sound Go.Proofs.Tryd.prog 50 (spec_l27Log.spec k) := by
  have h := fn_ok (F := spec_l27Log.T) (tbl := spec_l27Log.tbl) mixed tyok Go.Proofs.Tryd.func50 (by kernel_rfl) (c0 := bodyOf Go.Proofs.Tryd.f50) rfl (conv_code _ _ _) rfl rfl spec_l27Log.ok k (fun j _ => spec_l27Log.tblok j)
  have e : spec_l27Log.spec k = ⟨spec_l27Log.T.ps, spec_l27Log.T.rs, spec_l27Log.T.ev tyt spec_l27Log.tbl k⟩ := congrArg (FnSpec.mk _ _) (funext fun x => ((spec_l27Log.e k (spec_l27Log.T.run tyt spec_l27Log.tbl k) x.1 x.2.1 x.2.2).trans (by rfl)).symm)
  rw [e]
  exact h
/-! ### spec_AppendRecord: function 28 -/
def spec_AppendRecord.m (k : Nat) (a0_0 : ByteArray) (a0_1 : ByteArray) (a0_2 : Int) (a1_0 : ByteArray) (a1_1 : ByteArray) : Option (ByteArray × ByteArray × Int × Int) := ((spec_l27Log.f k a0_0 a0_1 a0_2).bind fun r1 => (cond (!r1) (some (a0_0, a0_1, a0_2, 1)) ((spec_l27Good.f k a1_0 a1_1).bind fun r2 => (cond (!r2) (some (a0_0, a0_1, a0_2, 1)) (if a0_2 = 60 then (some (a0_0, a0_1, a0_2, 2)) else ((spec_l27Line.f k a0_2 a1_0 a1_1).bind fun r3 => ((catS a0_1 r3).bind fun s4 => (some (a0_0, s4, (w64 (a0_2 + 1)), 0)))))))))
def spec_AppendRecord.f (k : Nat) (a0_0 : ByteArray) (a0_1 : ByteArray) (a0_2 : Int) (a1_0 : ByteArray) (a1_1 : ByteArray) : Option (ByteArray × ByteArray × Int × Int) := spec_AppendRecord.m k a0_0 a0_1 a0_2 a1_0 a1_1
noncomputable def spec_AppendRecord.spec (k : Nat) : FnSpec := ⟨[.ag [.d .str none, .d .str none, .d (.int .i64) none], .ag [.d .str none, .d .str none]], [.ag [.d .str none, .d .str none, .d (.int .i64) none], .d (.int .i64) none], fun x => spec_AppendRecord.f k x.1 x.2.1 x.2.2.1 x.2.2.2.1 x.2.2.2.2⟩
noncomputable def spec_AppendRecord.T : FnText := ⟨(conv [] (bodyOf Go.Proofs.Tryd.f28) 0).1, Go.Proofs.Tryd.f28.results.toList, 32, [], [.ag [.d .str none, .d .str none, .d (.int .i64) none], .ag [.d .str none, .d .str none]], [.ag [.d .str none, .d .str none, .d (.int .i64) none], .d (.int .i64) none]⟩
noncomputable def spec_AppendRecord.tbl (k : Nat) : Tbl := [(50, spec_l27Log.spec k), (43, spec_l27Good.spec k), (44, spec_l27Line.spec k)]
theorem spec_AppendRecord.e (k : Nat) (o : Nat → St → Option (ByteArray × ByteArray × Int × Int)) (a0_0 : ByteArray) (a0_1 : ByteArray) (a0_2 : Int) (a1_0 : ByteArray) (a1_1 : ByteArray) : spec_AppendRecord.T.main tyt (spec_AppendRecord.tbl k) o (a0_0, a0_1, a0_2, a1_0, a1_1) = spec_AppendRecord.m k a0_0 a0_1 a0_2 a1_0 a1_1 := by kernel_rfl
theorem spec_AppendRecord.ok : spec_AppendRecord.T.ok = true := by kernel_rfl
theorem spec_AppendRecord.tblok (k : Nat) : TblOk Go.Proofs.Tryd.prog (spec_AppendRecord.tbl k) := TblOk.cons (spec_l27Log.sound k) (TblOk.cons (spec_l27Good.sound k) (TblOk.cons (spec_l27Line.sound k) (TblOk.nil _)))
theorem spec_AppendRecord.sound (k : Nat) : Sound Go.Proofs.Tryd.prog 28 (spec_AppendRecord.spec k) := by
  have h := fn_ok (F := spec_AppendRecord.T) (tbl := spec_AppendRecord.tbl) mixed tyok Go.Proofs.Tryd.func28 (by kernel_rfl) (c0 := bodyOf Go.Proofs.Tryd.f28) rfl (conv_code _ _ _) rfl rfl spec_AppendRecord.ok k (fun j _ => spec_AppendRecord.tblok j)
  have e : spec_AppendRecord.spec k = ⟨spec_AppendRecord.T.ps, spec_AppendRecord.T.rs, spec_AppendRecord.T.ev tyt spec_AppendRecord.tbl k⟩ := congrArg (FnSpec.mk _ _) (funext fun x => ((spec_AppendRecord.e k (spec_AppendRecord.T.run tyt spec_AppendRecord.tbl k) x.1 x.2.1 x.2.2.1 x.2.2.2.1 x.2.2.2.2).trans (by rfl)).symm)
  rw [e]
  exact h
/-! ### spec_l1Cur_one: function 59 -/
def spec_l1Cur_one.m (k : Nat) (l0_0 : List Int) (a0_1 : Int) (a0_2 : Int) (a1 : Int) : Option (Bool × List Int × Int × Int) := ((spec_l1Cur_pick.f k l0_0 a0_1 a0_2 a1).bind fun r1 => (some ((decide (r1.1 = 0)), r1.2.1, r1.2.2.1, r1.2.2.2)))
def spec_l1Cur_one.f (k : Nat) (l0_0 : List Int) (a0_1 : Int) (a0_2 : Int) (a1 : Int) : Option (Bool × List Int × Int × Int) := spec_l1Cur_one.m k l0_0 a0_1 a0_2 a1
noncomputable def spec_l1Cur_one.spec (k : Nat) : FnSpec := ⟨[.bx [.d (.sl (.int .u8)) none, .d (.int .i64) none, .d (.int .u64) none], .d (.int .i64) none], [.d .bool none], fun x => spec_l1Cur_one.f k x.1 x.2.1 x.2.2.1 x.2.2.2⟩
noncomputable def spec_l1Cur_one.T : FnText := ⟨(conv [] (bodyOf Go.Proofs.Tryd.f59) 0).1, Go.Proofs.Tryd.f59.results.toList, 9, [], [.bx [.d (.sl (.int .u8)) none, .d (.int .i64) none, .d (.int .u64) none], .d (.int .i64) none], [.d .bool none]⟩
noncomputable def spec_l1Cur_one.tbl (k : Nat) : Tbl := [(57, spec_l1Cur_pick.spec k)]
theorem spec_l1Cur_one.e (k : Nat) (o : Nat → St → Option (Bool × List Int × Int × Int)) (l0_0 : List Int) (a0_1 : Int) (a0_2 : Int) (a1 : Int) : spec_l1Cur_one.T.main tyt (spec_l1Cur_one.tbl k) o (l0_0, a0_1, a0_2, a1) = spec_l1Cur_one.m k l0_0 a0_1 a0_2 a1 := by kernel_rfl
theorem spec_l1Cur_one.ok : spec_l1Cur_one.T.ok = true := by kernel_rfl
theorem spec_l1Cur_one.tblok (k : Nat) : TblOk Go.Proofs.Tryd.prog (spec_l1Cur_one.tbl k) := TblOk.cons (spec_l1Cur_pick.sound k) (TblOk.nil _)
theorem spec_l1Cur_one.sound (k : Nat) : Sound Go.Proofs.Tryd.prog 59 (spec_l1Cur_one.spec k) := by
  have h := fn_ok (F := spec_l1Cur_one.T) (tbl := spec_l1Cur_one.tbl) mixed tyok Go.Proofs.Tryd.func59 (by kernel_rfl) (c0 := bodyOf Go.Proofs.Tryd.f59) rfl (conv_code _ _ _) rfl rfl spec_l1Cur_one.ok k (fun j _ => spec_l1Cur_one.tblok j)
  have e : spec_l1Cur_one.spec k = ⟨spec_l1Cur_one.T.ps, spec_l1Cur_one.T.rs, spec_l1Cur_one.T.ev tyt spec_l1Cur_one.tbl k⟩ := congrArg (FnSpec.mk _ _) (funext fun x => ((spec_l1Cur_one.e k (spec_l1Cur_one.T.run tyt spec_l1Cur_one.tbl k) x.1 x.2.1 x.2.2.1 x.2.2.2).trans (by rfl)).symm)
  rw [e]
  exact h
/-! ### spec_SyncLog: function 26 -/
def spec_SyncLog.m (k : Nat) (a0_0 : ByteArray) (a0_1 : ByteArray) (a0_2 : Int) : Option (ByteArray × ByteArray × Int × Bool) := ((spec_l27Log.f k a0_0 a0_1 a0_2).bind fun r1 => (cond (!r1) (some (ByteArray.empty, ByteArray.empty, 0, false)) ((catS a0_0 a0_1).bind fun s2 => (some (s2, ByteArray.empty, a0_2, true)))))
def spec_SyncLog.f (k : Nat) (a0_0 : ByteArray) (a0_1 : ByteArray) (a0_2 : Int) : Option (ByteArray × ByteArray × Int × Bool) := spec_SyncLog.m k a0_0 a0_1 a0_2
noncomputable def spec_SyncLog.spec (k : Nat) : FnSpec := ⟨[.ag [.d .str none, .d .str none, .d (.int .i64) none]], [.ag [.d .str none, .d .str none, .d (.int .i64) none], .d .bool none], fun x => spec_SyncLog.f k x.1 x.2.1 x.2.2⟩
noncomputable def spec_SyncLog.T : FnText := ⟨(conv [] (bodyOf Go.Proofs.Tryd.f26) 0).1, Go.Proofs.Tryd.f26.results.toList, 16, [], [.ag [.d .str none, .d .str none, .d (.int .i64) none]], [.ag [.d .str none, .d .str none, .d (.int .i64) none], .d .bool none]⟩
noncomputable def spec_SyncLog.tbl (k : Nat) : Tbl := [(50, spec_l27Log.spec k)]
theorem spec_SyncLog.e (k : Nat) (o : Nat → St → Option (ByteArray × ByteArray × Int × Bool)) (a0_0 : ByteArray) (a0_1 : ByteArray) (a0_2 : Int) : spec_SyncLog.T.main tyt (spec_SyncLog.tbl k) o (a0_0, a0_1, a0_2) = spec_SyncLog.m k a0_0 a0_1 a0_2 := by kernel_rfl
theorem spec_SyncLog.ok : spec_SyncLog.T.ok = true := by kernel_rfl
theorem spec_SyncLog.tblok (k : Nat) : TblOk Go.Proofs.Tryd.prog (spec_SyncLog.tbl k) := TblOk.cons (spec_l27Log.sound k) (TblOk.nil _)
theorem spec_SyncLog.sound (k : Nat) : Sound Go.Proofs.Tryd.prog 26 (spec_SyncLog.spec k) := by
  have h := fn_ok (F := spec_SyncLog.T) (tbl := spec_SyncLog.tbl) mixed tyok Go.Proofs.Tryd.func26 (by kernel_rfl) (c0 := bodyOf Go.Proofs.Tryd.f26) rfl (conv_code _ _ _) rfl rfl spec_SyncLog.ok k (fun j _ => spec_SyncLog.tblok j)
  have e : spec_SyncLog.spec k = ⟨spec_SyncLog.T.ps, spec_SyncLog.T.rs, spec_SyncLog.T.ev tyt spec_SyncLog.tbl k⟩ := congrArg (FnSpec.mk _ _) (funext fun x => ((spec_SyncLog.e k (spec_SyncLog.T.run tyt spec_SyncLog.tbl k) x.1 x.2.1 x.2.2).trans (by rfl)).symm)
  rw [e]
  exact h
/-! ### spec_l1Cur_log: function 56 -/
def spec_l1Cur_log.b4 (o4 : List Int → Int → Int → ByteArray → ByteArray → Int → ByteArray → ByteArray → Int → Int → Option (ByteArray × ByteArray × Int × List Int × Int × Int)) (k : Nat) (l0_4 : List Int) (x1_4 : Int) (x2_4 : Int) (x3_4 : ByteArray) (x4_4 : ByteArray) (x5_4 : Int) (x6_4 : ByteArray) (x7_4 : ByteArray) (x8_4 : Int) (x9_4 : Int) : Option (ByteArray × ByteArray × Int × List Int × Int × Int) := (if 0 < x9_4 then ((spec_l1Cur_logRecord.f k l0_4 x1_4 x2_4).bind fun r2 => ((spec_AppendRecord.f k x6_4 x7_4 x8_4 r2.1 r2.2.1).bind fun r3 => ((spec_l1Cur_one.f k r2.2.2.1 r2.2.2.2.1 r2.2.2.2.2 4).bind fun r4 => (cond r4.1 ((spec_SyncLog.f k r3.1 r3.2.1 r3.2.2.1).bind fun r5 => (o4 r4.2.1 r4.2.2.1 r4.2.2.2 x3_4 x4_4 x5_4 r5.1 r5.2.1 r5.2.2.1 (w64 (x9_4 - 1)))) (o4 r4.2.1 r4.2.2.1 r4.2.2.2 x3_4 x4_4 x5_4 r3.1 r3.2.1 r3.2.2.1 (w64 (x9_4 - 1))))))) else (some (x6_4, x7_4, x8_4, l0_4, x1_4, x2_4)))
def spec_l1Cur_log.l4 : Nat → List Int → Int → Int → ByteArray → ByteArray → Int → ByteArray → ByteArray → Int → Int → Option (ByteArray × ByteArray × Int × List Int × Int × Int)
  | 0, _, _, _, _, _, _, _, _, _, _ => none
  | k + 1, l0_4, x1_4, x2_4, x3_4, x4_4, x5_4, x6_4, x7_4, x8_4, x9_4 => spec_l1Cur_log.b4 (spec_l1Cur_log.l4 k) k l0_4 x1_4 x2_4 x3_4 x4_4 x5_4 x6_4 x7_4 x8_4 x9_4
def spec_l1Cur_log.m (o4 : List Int → Int → Int → ByteArray → ByteArray → Int → ByteArray → ByteArray → Int → Int → Option (ByteArray × ByteArray × Int × List Int × Int × Int)) (k : Nat) (l0_0 : List Int) (a0_1 : Int) (a0_2 : Int) : Option (ByteArray × ByteArray × Int × List Int × Int × Int) := ((spec_l1Cur_pick.f k l0_0 a0_1 a0_2 7).bind fun r1 => (o4 r1.2.1 r1.2.2.1 r1.2.2.2 ByteArray.empty ByteArray.empty 0 ByteArray.empty ByteArray.empty 0 r1.1))
def spec_l1Cur_log.f (k : Nat) (l0_0 : List Int) (a0_1 : Int) (a0_2 : Int) : Option (ByteArray × ByteArray × Int × List Int × Int × Int) := spec_l1Cur_log.m (spec_l1Cur_log.l4 k) k l0_0 a0_1 a0_2
noncomputable def spec_l1Cur_log.spec (k : Nat) : FnSpec := ⟨[.bx [.d (.sl (.int .u8)) none, .d (.int .i64) none, .d (.int .u64) none]], [.ag [.d .str none, .d .str none, .d (.int .i64) none]], fun x => spec_l1Cur_log.f k x.1 x.2.1 x.2.2⟩
def spec_l1Cur_log.S4 (l0_4 : List Int) (x1_4 : Int) (x2_4 : Int) (x3_4 : ByteArray) (x4_4 : ByteArray) (x5_4 : Int) (x6_4 : ByteArray) (x7_4 : ByteArray) (x8_4 : Int) (x9_4 : Int) : St := ⟨[(0, .ptr 0 0), (2, .ptr 100 0), (3, .ptr 101 0), (4, .val (.int .i64) x9_4)], [(101, some (.box [.val .str x6_4, .val .str x7_4, .val (.int .i64) x8_4])), (100, some (.box [.val .str x3_4, .val .str x4_4, .val (.int .i64) x5_4])), (0, some (.box [.val (.sl (.int .u8)) l0_4, .val (.int .i64) x1_4, .val (.int .u64) x2_4]))], 1000⟩
noncomputable def spec_l1Cur_log.T : FnText := ⟨(conv [] (bodyOf Go.Proofs.Tryd.f56) 0).1, Go.Proofs.Tryd.f56.results.toList, 27, [(4, [(0, .bx 0 [.rd (.sl (.int .u8)), .rd (.int .i64), .rd (.int .u64)]), (2, .bx 100 [.rd .str, .rd .str, .rd (.int .i64)]), (3, .bx 101 [.rd .str, .rd .str, .rd (.int .i64)]), (4, .rd (.int .i64))])], [.bx [.d (.sl (.int .u8)) none, .d (.int .i64) none, .d (.int .u64) none]], [.ag [.d .str none, .d .str none, .d (.int .i64) none]]⟩
noncomputable def spec_l1Cur_log.tbl (k : Nat) : Tbl := [(57, spec_l1Cur_pick.spec k), (55, spec_l1Cur_logRecord.spec k), (28, spec_AppendRecord.spec k), (59, spec_l1Cur_one.spec k), (26, spec_SyncLog.spec k)]
theorem spec_l1Cur_log.e4 (k : Nat) (o : Nat → St → Option (ByteArray × ByteArray × Int × List Int × Int × Int)) (l0_4 : List Int) (x1_4 : Int) (x2_4 : Int) (x3_4 : ByteArray) (x4_4 : ByteArray) (x5_4 : Int) (x6_4 : ByteArray) (x7_4 : ByteArray) (x8_4 : Int) (x9_4 : Int) : spec_l1Cur_log.T.step tyt (spec_l1Cur_log.tbl k) o 4 (spec_l1Cur_log.S4 l0_4 x1_4 x2_4 x3_4 x4_4 x5_4 x6_4 x7_4 x8_4 x9_4) = spec_l1Cur_log.b4 (fun l0_4 x1_4 x2_4 x3_4 x4_4 x5_4 x6_4 x7_4 x8_4 x9_4 => o 4 (spec_l1Cur_log.S4 l0_4 x1_4 x2_4 x3_4 x4_4 x5_4 x6_4 x7_4 x8_4 x9_4)) k l0_4 x1_4 x2_4 x3_4 x4_4 x5_4 x6_4 x7_4 x8_4 x9_4 := by kernel_rfl
theorem spec_l1Cur_log.e (k : Nat) (o : Nat → St → Option (ByteArray × ByteArray × Int × List Int × Int × Int)) (l0_0 : List Int) (a0_1 : Int) (a0_2 : Int) : spec_l1Cur_log.T.main tyt (spec_l1Cur_log.tbl k) o (l0_0, a0_1, a0_2) = spec_l1Cur_log.m (fun l0_4 x1_4 x2_4 x3_4 x4_4 x5_4 x6_4 x7_4 x8_4 x9_4 => o 4 (spec_l1Cur_log.S4 l0_4 x1_4 x2_4 x3_4 x4_4 x5_4 x6_4 x7_4 x8_4 x9_4)) k l0_0 a0_1 a0_2 := by kernel_rfl
theorem spec_l1Cur_log.ok : spec_l1Cur_log.T.ok = true := by kernel_rfl
theorem spec_l1Cur_log.run (k : Nat) : (∀ (l0_4 : List Int) (x1_4 : Int) (x2_4 : Int) (x3_4 : ByteArray) (x4_4 : ByteArray) (x5_4 : Int) (x6_4 : ByteArray) (x7_4 : ByteArray) (x8_4 : Int) (x9_4 : Int), spec_l1Cur_log.T.run tyt spec_l1Cur_log.tbl k 4 (spec_l1Cur_log.S4 l0_4 x1_4 x2_4 x3_4 x4_4 x5_4 x6_4 x7_4 x8_4 x9_4) = spec_l1Cur_log.l4 k l0_4 x1_4 x2_4 x3_4 x4_4 x5_4 x6_4 x7_4 x8_4 x9_4) := by
  induction k with
  | zero => exact fun l0_4 x1_4 x2_4 x3_4 x4_4 x5_4 x6_4 x7_4 x8_4 x9_4 => rfl
  | succ k ih =>
    exact fun l0_4 x1_4 x2_4 x3_4 x4_4 x5_4 x6_4 x7_4 x8_4 x9_4 => by
      have q4 : (fun l0_4 x1_4 x2_4 x3_4 x4_4 x5_4 x6_4 x7_4 x8_4 x9_4 => spec_l1Cur_log.T.run tyt spec_l1Cur_log.tbl k 4 (spec_l1Cur_log.S4 l0_4 x1_4 x2_4 x3_4 x4_4 x5_4 x6_4 x7_4 x8_4 x9_4)) = spec_l1Cur_log.l4 k := by funext l0_4 x1_4 x2_4 x3_4 x4_4 x5_4 x6_4 x7_4 x8_4 x9_4; exact ih l0_4 x1_4 x2_4 x3_4 x4_4 x5_4 x6_4 x7_4 x8_4 x9_4
      exact (spec_l1Cur_log.e4 k (spec_l1Cur_log.T.run tyt spec_l1Cur_log.tbl k) l0_4 x1_4 x2_4 x3_4 x4_4 x5_4 x6_4 x7_4 x8_4 x9_4).trans (by rw [q4]; rfl)
theorem spec_l1Cur_log.tblok (k : Nat) : TblOk Go.Proofs.Tryd.prog (spec_l1Cur_log.tbl k) := TblOk.cons (spec_l1Cur_pick.sound k) (TblOk.cons (spec_l1Cur_logRecord.sound k) (TblOk.cons (spec_AppendRecord.sound k) (TblOk.cons (spec_l1Cur_one.sound k) (TblOk.cons (spec_SyncLog.sound k) (TblOk.nil _)))))
theorem spec_l1Cur_log.sound (k : Nat) : Sound Go.Proofs.Tryd.prog 56 (spec_l1Cur_log.spec k) := by
  have h := fn_ok (F := spec_l1Cur_log.T) (tbl := spec_l1Cur_log.tbl) mixed tyok Go.Proofs.Tryd.func56 (by kernel_rfl) (c0 := bodyOf Go.Proofs.Tryd.f56) rfl (conv_code _ _ _) rfl rfl spec_l1Cur_log.ok k (fun j _ => spec_l1Cur_log.tblok j)
  have q4 : (fun l0_4 x1_4 x2_4 x3_4 x4_4 x5_4 x6_4 x7_4 x8_4 x9_4 => spec_l1Cur_log.T.run tyt spec_l1Cur_log.tbl k 4 (spec_l1Cur_log.S4 l0_4 x1_4 x2_4 x3_4 x4_4 x5_4 x6_4 x7_4 x8_4 x9_4)) = spec_l1Cur_log.l4 k := by funext l0_4 x1_4 x2_4 x3_4 x4_4 x5_4 x6_4 x7_4 x8_4 x9_4; exact (spec_l1Cur_log.run k) l0_4 x1_4 x2_4 x3_4 x4_4 x5_4 x6_4 x7_4 x8_4 x9_4
  have e : spec_l1Cur_log.spec k = ⟨spec_l1Cur_log.T.ps, spec_l1Cur_log.T.rs, spec_l1Cur_log.T.ev tyt spec_l1Cur_log.tbl k⟩ := congrArg (FnSpec.mk _ _) (funext fun x => ((spec_l1Cur_log.e k (spec_l1Cur_log.T.run tyt spec_l1Cur_log.tbl k) x.1 x.2.1 x.2.2).trans (by rw [q4]; rfl)).symm)
  rw [e]
  exact h
/-! ### spec_l1Cur_spoilt: function 58 -/
def spec_l1Cur_spoilt.m (k : Nat) (l0_0 : List Int) (a0_1 : Int) (a0_2 : Int) (a1 : ByteArray) (a2 : ByteArray) : Option (ByteArray × List Int × Int × Int) := (if a1 = (⟨#[]⟩ : ByteArray) then ((cutTo a2.size 1).bind fun m2 => (some ((a2.extract 0 m2), l0_0, a0_1, a0_2))) else ((spec_l1Cur_pick.f k l0_0 a0_1 a0_2 (a1.size : Int)).bind fun r3 => ((spec_l1Cur_pick.f k r3.2.1 r3.2.2.1 r3.2.2.2 (a2.size : Int)).bind fun r4 => ((cut a2.size r4.1 (a2.size : Int)).bind fun c5 => ((cutTo ((a2.extract c5.1 (c5.1 + c5.2)).size) 1).bind fun m7 => ((spec_l1Cur_pick.f k r4.2.1 r4.2.2.1 r4.2.2.2 3).bind fun r8 => (if r8.1 = 0 then ((cutTo a1.size r3.1).bind fun m10 => ((catS (a1.extract 0 m10) ((a2.extract c5.1 (c5.1 + c5.2)).extract 0 m7)).bind fun s11 => ((cut a1.size r3.1 (a1.size : Int)).bind fun c12 => ((catS s11 (a1.extract c12.1 (c12.1 + c12.2))).bind fun s13 => (some (s13, r8.2.1, r8.2.2.1, r8.2.2.2)))))) else (if r8.1 = 1 then ((cutTo a1.size r3.1).bind fun m15 => ((catS (a1.extract 0 m15) ((a2.extract c5.1 (c5.1 + c5.2)).extract 0 m7)).bind fun s16 => ((cut a1.size (w64 (r3.1 + 1)) (a1.size : Int)).bind fun c17 => ((catS s16 (a1.extract c17.1 (c17.1 + c17.2))).bind fun s18 => (some (s18, r8.2.1, r8.2.2.1, r8.2.2.2)))))) else ((cutTo a1.size r3.1).bind fun m20 => ((cut a1.size (w64 (r3.1 + 1)) (a1.size : Int)).bind fun c21 => ((catS (a1.extract 0 m20) (a1.extract c21.1 (c21.1 + c21.2))).bind fun s22 => (some (s22, r8.2.1, r8.2.2.1, r8.2.2.2)))))))))))))
def spec_l1Cur_spoilt.f (k : Nat) (l0_0 : List Int) (a0_1 : Int) (a0_2 : Int) (a1 : ByteArray) (a2 : ByteArray) : Option (ByteArray × List Int × Int × Int) := spec_l1Cur_spoilt.m k l0_0 a0_1 a0_2 a1 a2
noncomputable def spec_l1Cur_spoilt.spec (k : Nat) : FnSpec := ⟨[.bx [.d (.sl (.int .u8)) none, .d (.int .i64) none, .d (.int .u64) none], .d .str none, .d .str none], [.d .str none], fun x => spec_l1Cur_spoilt.f k x.1 x.2.1 x.2.2.1 x.2.2.2.1 x.2.2.2.2⟩
noncomputable def spec_l1Cur_spoilt.T : FnText := ⟨(conv [] (bodyOf Go.Proofs.Tryd.f58) 0).1, Go.Proofs.Tryd.f58.results.toList, 57, [], [.bx [.d (.sl (.int .u8)) none, .d (.int .i64) none, .d (.int .u64) none], .d .str none, .d .str none], [.d .str none]⟩
noncomputable def spec_l1Cur_spoilt.tbl (k : Nat) : Tbl := [(57, spec_l1Cur_pick.spec k)]
theorem spec_l1Cur_spoilt.e (k : Nat) (o : Nat → St → Option (ByteArray × List Int × Int × Int)) (l0_0 : List Int) (a0_1 : Int) (a0_2 : Int) (a1 : ByteArray) (a2 : ByteArray) : spec_l1Cur_spoilt.T.main tyt (spec_l1Cur_spoilt.tbl k) o (l0_0, a0_1, a0_2, a1, a2) = spec_l1Cur_spoilt.m k l0_0 a0_1 a0_2 a1 a2 := by kernel_rfl
theorem spec_l1Cur_spoilt.ok : spec_l1Cur_spoilt.T.ok = true := by kernel_rfl
theorem spec_l1Cur_spoilt.tblok (k : Nat) : TblOk Go.Proofs.Tryd.prog (spec_l1Cur_spoilt.tbl k) := TblOk.cons (spec_l1Cur_pick.sound k) (TblOk.nil _)
theorem spec_l1Cur_spoilt.sound (k : Nat) : Sound Go.Proofs.Tryd.prog 58 (spec_l1Cur_spoilt.spec k) := by
  have h := fn_ok (F := spec_l1Cur_spoilt.T) (tbl := spec_l1Cur_spoilt.tbl) mixed tyok Go.Proofs.Tryd.func58 (by kernel_rfl) (c0 := bodyOf Go.Proofs.Tryd.f58) rfl (conv_code _ _ _) rfl rfl spec_l1Cur_spoilt.ok k (fun j _ => spec_l1Cur_spoilt.tblok j)
  have e : spec_l1Cur_spoilt.spec k = ⟨spec_l1Cur_spoilt.T.ps, spec_l1Cur_spoilt.T.rs, spec_l1Cur_spoilt.T.ev tyt spec_l1Cur_spoilt.tbl k⟩ := congrArg (FnSpec.mk _ _) (funext fun x => ((spec_l1Cur_spoilt.e k (spec_l1Cur_spoilt.T.run tyt spec_l1Cur_spoilt.tbl k) x.1 x.2.1 x.2.2.1 x.2.2.2.1 x.2.2.2.2).trans (by rfl)).symm)
  rw [e]
  exact h
/-! ### spec_l1Cur_anyLog: function 60 -/
def spec_l1Cur_anyLog.m (k : Nat) (l0_0 : List Int) (a0_1 : Int) (a0_2 : Int) : Option (ByteArray × ByteArray × Int × List Int × Int × Int) := ((spec_l1Cur_log.f k l0_0 a0_1 a0_2).bind fun r1 => ((spec_l1Cur_pick.f k r1.2.2.2.1 r1.2.2.2.2.1 r1.2.2.2.2.2 24).bind fun r2 => (if r2.1 = 0 then (some (r1.1, r1.2.1, (w64 (r1.2.2.1 + 1)), r2.2.1, r2.2.2.1, r2.2.2.2)) else (if r2.1 = 1 then ((spec_l1Cur_spoilt.f k r2.2.1 r2.2.2.1 r2.2.2.2 r1.2.1 (⟨#[35, 64, 10, 48, 49]⟩ : ByteArray)).bind fun r3 => (some (r1.1, r3.1, r1.2.2.1, r3.2.1, r3.2.2.1, r3.2.2.2))) else (if r2.1 = 2 then ((catS r1.1 r1.2.1).bind fun s4 => (some (s4, r1.2.1, r1.2.2.1, r2.2.1, r2.2.2.1, r2.2.2.2))) else (some (r1.1, r1.2.1, r1.2.2.1, r2.2.1, r2.2.2.1, r2.2.2.2)))))))
def spec_l1Cur_anyLog.f (k : Nat) (l0_0 : List Int) (a0_1 : Int) (a0_2 : Int) : Option (ByteArray × ByteArray × Int × List Int × Int × Int) := spec_l1Cur_anyLog.m k l0_0 a0_1 a0_2
noncomputable def spec_l1Cur_anyLog.spec (k : Nat) : FnSpec := ⟨[.bx [.d (.sl (.int .u8)) none, .d (.int .i64) none, .d (.int .u64) none]], [.ag [.d .str none, .d .str none, .d (.int .i64) none]], fun x => spec_l1Cur_anyLog.f k x.1 x.2.1 x.2.2⟩
noncomputable def spec_l1Cur_anyLog.T : FnText := ⟨(conv [] (bodyOf Go.Proofs.Tryd.f60) 0).1, Go.Proofs.Tryd.f60.results.toList, 30, [], [.bx [.d (.sl (.int .u8)) none, .d (.int .i64) none, .d (.int .u64) none]], [.ag [.d .str none, .d .str none, .d (.int .i64) none]]⟩
noncomputable def spec_l1Cur_anyLog.tbl (k : Nat) : Tbl := [(56, spec_l1Cur_log.spec k), (57, spec_l1Cur_pick.spec k), (58, spec_l1Cur_spoilt.spec k)]
theorem spec_l1Cur_anyLog.e (k : Nat) (o : Nat → St → Option (ByteArray × ByteArray × Int × List Int × Int × Int)) (l0_0 : List Int) (a0_1 : Int) (a0_2 : Int) : spec_l1Cur_anyLog.T.main tyt (spec_l1Cur_anyLog.tbl k) o (l0_0, a0_1, a0_2) = spec_l1Cur_anyLog.m k l0_0 a0_1 a0_2 := by kernel_rfl
theorem spec_l1Cur_anyLog.ok : spec_l1Cur_anyLog.T.ok = true := by kernel_rfl
theorem spec_l1Cur_anyLog.tblok (k : Nat) : TblOk Go.Proofs.Tryd.prog (spec_l1Cur_anyLog.tbl k) := TblOk.cons (spec_l1Cur_log.sound k) (TblOk.cons (spec_l1Cur_pick.sound k) (TblOk.cons (spec_l1Cur_spoilt.sound k) (TblOk.nil _)))
theorem spec_l1Cur_anyLog.sound (k : Nat) : Sound Go.Proofs.Tryd.prog 60 (spec_l1Cur_anyLog.spec k) := by
  have h := fn_ok (F := spec_l1Cur_anyLog.T) (tbl := spec_l1Cur_anyLog.tbl) mixed tyok Go.Proofs.Tryd.func60 (by kernel_rfl) (c0 := bodyOf Go.Proofs.Tryd.f60) rfl (conv_code _ _ _) rfl rfl spec_l1Cur_anyLog.ok k (fun j _ => spec_l1Cur_anyLog.tblok j)
  have e : spec_l1Cur_anyLog.spec k = ⟨spec_l1Cur_anyLog.T.ps, spec_l1Cur_anyLog.T.rs, spec_l1Cur_anyLog.T.ev tyt spec_l1Cur_anyLog.tbl k⟩ := congrArg (FnSpec.mk _ _) (funext fun x => ((spec_l1Cur_anyLog.e k (spec_l1Cur_anyLog.T.run tyt spec_l1Cur_anyLog.tbl k) x.1 x.2.1 x.2.2).trans (by rfl)).symm)
  rw [e]
  exact h
/-! ### spec_DrawCrashLog: function 41 -/
def spec_DrawCrashLog.m (k : Nat) (l0 : List Int) : Option (ByteArray × ByteArray × Int × Int × Bool) := ((spec_l1Cur_anyLog.f k l0 0 0).bind fun r1 => ((spec_l1Cur_pick.f k r1.2.2.2.1 r1.2.2.2.2.1 r1.2.2.2.2.2 (w64 ((r1.2.1.size : Int) + 3))).bind fun r2 => ((spec_l1Cur_one.f k r2.2.1 r2.2.2.1 r2.2.2.2 2).bind fun r3 => (some (r1.1, r1.2.1, r1.2.2.1, (w64 (r2.1 - 1)), r3.1)))))
def spec_DrawCrashLog.f (k : Nat) (l0 : List Int) : Option (ByteArray × ByteArray × Int × Int × Bool) := spec_DrawCrashLog.m k l0
noncomputable def spec_DrawCrashLog.spec (k : Nat) : FnSpec := ⟨[.d (.sl (.int .u8)) none], [.ag [.d .str none, .d .str none, .d (.int .i64) none], .d (.int .i64) none, .d .bool none], fun x => spec_DrawCrashLog.f k x⟩
noncomputable def spec_DrawCrashLog.T : FnText := ⟨(conv [] (bodyOf Go.Proofs.Tryd.f41) 0).1, Go.Proofs.Tryd.f41.results.toList, 24, [], [.d (.sl (.int .u8)) none], [.ag [.d .str none, .d .str none, .d (.int .i64) none], .d (.int .i64) none, .d .bool none]⟩
noncomputable def spec_DrawCrashLog.tbl (k : Nat) : Tbl := [(60, spec_l1Cur_anyLog.spec k), (57, spec_l1Cur_pick.spec k), (59, spec_l1Cur_one.spec k)]
theorem spec_DrawCrashLog.e (k : Nat) (o : Nat → St → Option (ByteArray × ByteArray × Int × Int × Bool)) (l0 : List Int) : spec_DrawCrashLog.T.main tyt (spec_DrawCrashLog.tbl k) o l0 = spec_DrawCrashLog.m k l0 := by kernel_rfl
theorem spec_DrawCrashLog.ok : spec_DrawCrashLog.T.ok = true := by kernel_rfl
theorem spec_DrawCrashLog.tblok (k : Nat) : TblOk Go.Proofs.Tryd.prog (spec_DrawCrashLog.tbl k) := TblOk.cons (spec_l1Cur_anyLog.sound k) (TblOk.cons (spec_l1Cur_pick.sound k) (TblOk.cons (spec_l1Cur_one.sound k) (TblOk.nil _)))
theorem spec_DrawCrashLog.sound (k : Nat) : Sound Go.Proofs.Tryd.prog 41 (spec_DrawCrashLog.spec k) := by
  have h := fn_ok (F := spec_DrawCrashLog.T) (tbl := spec_DrawCrashLog.tbl) mixed tyok Go.Proofs.Tryd.func41 (by kernel_rfl) (c0 := bodyOf Go.Proofs.Tryd.f41) rfl (conv_code _ _ _) rfl rfl spec_DrawCrashLog.ok k (fun j _ => spec_DrawCrashLog.tblok j)
  have e : spec_DrawCrashLog.spec k = ⟨spec_DrawCrashLog.T.ps, spec_DrawCrashLog.T.rs, spec_DrawCrashLog.T.ev tyt spec_DrawCrashLog.tbl k⟩ := congrArg (FnSpec.mk _ _) (funext fun x => ((spec_DrawCrashLog.e k (spec_DrawCrashLog.T.run tyt spec_DrawCrashLog.tbl k) x).trans (by rfl)).symm)
  rw [e]
  exact h
/-! ### strings_Cut: function 79, by its contract -/
def strings_Cut.f (k : Nat) (a0 : ByteArray) (a1 : ByteArray) : Option (ByteArray × ByteArray × Bool) := cutF a0 a1
noncomputable def strings_Cut.spec (k : Nat) : FnSpec := ⟨[.d .str none, .d .str none], [.d .str none, .d .str none, .d .bool none], fun x => strings_Cut.f k x.1 x.2⟩
theorem strings_Cut.sound (k : Nat) : Sound Go.Proofs.Tryd.prog 79 (strings_Cut.spec k) := strCut_ok

/-! ### impl_Checksum: function 67 -/
def impl_Checksum.b7 (o7 : ByteArray → Int → Int → Int → Option (Int × Bool)) (k : Nat) (x0_7 : ByteArray) (x1_7 : Int) (x2_7 : Int) (x3_7 : Int) : Option (Int × Bool) := (if x3_7 < x2_7 then ((chk x0_7.size x3_7).bind fun i1 => ((rem (w64 ((w64 ((w64 (41 * x1_7)) + (w64 ((byteAt x0_7 i1))))) + 1)) 999979).bind fun q2 => (o7 x0_7 q2 x2_7 (w64 (x3_7 + 1))))) else (some (x1_7, true)))
def impl_Checksum.l7 : Nat → ByteArray → Int → Int → Int → Option (Int × Bool)
  | 0, _, _, _, _ => none
  | k + 1, x0_7, x1_7, x2_7, x3_7 => impl_Checksum.b7 (impl_Checksum.l7 k) k x0_7 x1_7 x2_7 x3_7
def impl_Checksum.m (o7 : ByteArray → Int → Int → Int → Option (Int × Bool)) (k : Nat) (a0 : ByteArray) : Option (Int × Bool) := (if 4000 < (a0.size : Int) then (some (0, false)) else (o7 a0 7 (a0.size : Int) 0))
def impl_Checksum.f (k : Nat) (a0 : ByteArray) : Option (Int × Bool) := impl_Checksum.m (impl_Checksum.l7 k) k a0
noncomputable def impl_Checksum.spec (k : Nat) : FnSpec := ⟨[.d .str none], [.d (.int .i64) none, .d .bool none], fun x => impl_Checksum.f k x⟩
def impl_Checksum.S7 (x0_7 : ByteArray) (x1_7 : Int) (x2_7 : Int) (x3_7 : Int) : St := ⟨[(0, .val .str x0_7), (4, .val (.int .i64) x1_7), (10, .val (.int .i64) x2_7), (11, .val (.int .i64) x3_7)], [], 1000⟩
noncomputable def impl_Checksum.T : FnText := ⟨(conv [] (bodyOf Go.Proofs.Tryd.f67) 0).1, Go.Proofs.Tryd.f67.results.toList, 25, [(7, [(0, .rd .str), (4, .rd (.int .i64)), (10, .rd (.int .i64)), (11, .rd (.int .i64))])], [.d .str none], [.d (.int .i64) none, .d .bool none]⟩
noncomputable def impl_Checksum.tbl (k : Nat) : Tbl := []
theorem impl_Checksum.e7 (k : Nat) (o : Nat → St → Option (Int × Bool)) (x0_7 : ByteArray) (x1_7 : Int) (x2_7 : Int) (x3_7 : Int) : impl_Checksum.T.step tyt (impl_Checksum.tbl k) o 7 (impl_Checksum.S7 x0_7 x1_7 x2_7 x3_7) = impl_Checksum.b7 (fun x0_7 x1_7 x2_7 x3_7 => o 7 (impl_Checksum.S7 x0_7 x1_7 x2_7 x3_7)) k x0_7 x1_7 x2_7 x3_7 := by kernel_rfl
theorem impl_Checksum.e (k : Nat) (o : Nat → St → Option (Int × Bool)) (a0 : ByteArray) : impl_Checksum.T.main tyt (impl_Checksum.tbl k) o a0 = impl_Checksum.m (fun x0_7 x1_7 x2_7 x3_7 => o 7 (impl_Checksum.S7 x0_7 x1_7 x2_7 x3_7)) k a0 := by kernel_rfl
theorem impl_Checksum.ok : impl_Checksum.T.ok = true := by kernel_rfl
theorem impl_Checksum.run (k : Nat) : (∀ (x0_7 : ByteArray) (x1_7 : Int) (x2_7 : Int) (x3_7 : Int), impl_Checksum.T.run tyt impl_Checksum.tbl k 7 (impl_Checksum.S7 x0_7 x1_7 x2_7 x3_7) = impl_Checksum.l7 k x0_7 x1_7 x2_7 x3_7) := by
  induction k with
  | zero => exact fun x0_7 x1_7 x2_7 x3_7 => rfl
  | succ k ih =>
    exact fun x0_7 x1_7 x2_7 x3_7 => by
      have q7 : (fun x0_7 x1_7 x2_7 x3_7 => impl_Checksum.T.run tyt impl_Checksum.tbl k 7 (impl_Checksum.S7 x0_7 x1_7 x2_7 x3_7)) = impl_Checksum.l7 k := by funext x0_7 x1_7 x2_7 x3_7; exact ih x0_7 x1_7 x2_7 x3_7
      exact (impl_Checksum.e7 k (impl_Checksum.T.run tyt impl_Checksum.tbl k) x0_7 x1_7 x2_7 x3_7).trans (by rw [q7]; rfl)
theorem impl_Checksum.tblok (k : Nat) : TblOk Go.Proofs.Tryd.prog (impl_Checksum.tbl k) := TblOk.nil _
theorem impl_Checksum.sound (k : Nat) : Sound Go.Proofs.Tryd.prog 67 (impl_Checksum.spec k) := by
  have h := fn_ok (F := impl_Checksum.T) (tbl := impl_Checksum.tbl) mixed tyok Go.Proofs.Tryd.func67 (by kernel_rfl) (c0 := bodyOf Go.Proofs.Tryd.f67) rfl (conv_code _ _ _) rfl rfl impl_Checksum.ok k (fun j _ => impl_Checksum.tblok j)
  have q7 : (fun x0_7 x1_7 x2_7 x3_7 => impl_Checksum.T.run tyt impl_Checksum.tbl k 7 (impl_Checksum.S7 x0_7 x1_7 x2_7 x3_7)) = impl_Checksum.l7 k := by funext x0_7 x1_7 x2_7 x3_7; exact (impl_Checksum.run k) x0_7 x1_7 x2_7 x3_7
  have e : impl_Checksum.spec k = ⟨impl_Checksum.T.ps, impl_Checksum.T.rs, impl_Checksum.T.ev tyt impl_Checksum.tbl k⟩ := congrArg (FnSpec.mk _ _) (funext fun x => ((impl_Checksum.e k (impl_Checksum.T.run tyt impl_Checksum.tbl k) x).trans (by rw [q7]; rfl)).symm)
  rw [e]
  exact h
/-! ### strconv_Itoa: function 68, by its contract -/
def strconv_Itoa.f (k : Nat) (a0 : Int) : Option (ByteArray) := itoaF a0
noncomputable def strconv_Itoa.spec (k : Nat) : FnSpec := ⟨[.d (.int .i64) none], [.d .str none], fun x => strconv_Itoa.f k x⟩
theorem strconv_Itoa.sound (k : Nat) : Sound Go.Proofs.Tryd.prog 68 (strconv_Itoa.spec k) := strItoa_ok

/-! ### impl_decimal: function 47 -/
def impl_decimal.m (k : Nat) (a0 : Int) : Option (ByteArray) := ((strconv_Itoa.f k a0).bind fun r1 => (some r1))
def impl_decimal.f (k : Nat) (a0 : Int) : Option (ByteArray) := impl_decimal.m k a0
noncomputable def impl_decimal.spec (k : Nat) : FnSpec := ⟨[.d (.int .i64) none], [.d .str none], fun x => impl_decimal.f k x⟩
noncomputable def impl_decimal.T : FnText := ⟨(conv [] (bodyOf Go.Proofs.Tryd.f47) 0).1, Go.Proofs.Tryd.f47.results.toList, 5, [], [.d (.int .i64) none], [.d .str none]⟩
noncomputable def impl_decimal.tbl (k : Nat) : Tbl := [(68, strconv_Itoa.spec k)]
theorem impl_decimal.e (k : Nat) (o : Nat → St → Option (ByteArray)) (a0 : Int) : impl_decimal.T.main tyt (impl_decimal.tbl k) o a0 = impl_decimal.m k a0 := by kernel_rfl
theorem impl_decimal.ok : impl_decimal.T.ok = true := by kernel_rfl
theorem impl_decimal.tblok (k : Nat) : TblOk Go.Proofs.Tryd.prog (impl_decimal.tbl k) := TblOk.cons (strconv_Itoa.sound k) (TblOk.nil _)
theorem impl_decimal.sound (k : Nat) : Sound Go.Proofs.Tryd.prog 47 (impl_decimal.spec k) := by
  have h := fn_ok (F := impl_decimal.T) (tbl := impl_decimal.tbl) mixed tyok Go.Proofs.Tryd.func47 (by kernel_rfl) (c0 := bodyOf Go.Proofs.Tryd.f47) rfl (conv_code _ _ _) rfl rfl impl_decimal.ok k (fun j _ => impl_decimal.tblok j)
  have e : impl_decimal.spec k = ⟨impl_decimal.T.ps, impl_decimal.T.rs, impl_decimal.T.ev tyt impl_decimal.tbl k⟩ := congrArg (FnSpec.mk _ _) (funext fun x => ((impl_decimal.e k (impl_decimal.T.run tyt impl_decimal.tbl k) x).trans (by rfl)).symm)
  rw [e]
  exact h
/-! ### strings_Contains: function 62, by its contract -/
def strings_Contains.f (k : Nat) (a0 : ByteArray) (a1 : ByteArray) : Option (Bool) := containsF a0 a1
noncomputable def strings_Contains.spec (k : Nat) : FnSpec := ⟨[.d .str none, .d .str none], [.d .bool none], fun x => strings_Contains.f k x.1 x.2⟩
theorem strings_Contains.sound (k : Nat) : Sound Go.Proofs.Tryd.prog 62 (strings_Contains.spec k) := strContains_ok

/-! ### impl_AppendChecksum: function 46 -/
def impl_AppendChecksum.m (k : Nat) (a0 : ByteArray) : Option (ByteArray × Bool) := ((impl_Checksum.f k a0).bind fun r1 => ((catS a0 (⟨#[35]⟩ : ByteArray)).bind fun s2 => ((impl_decimal.f k r1.1).bind fun r3 => ((catS s2 r3).bind fun s4 => (cond (!r1.2) (some ((⟨#[]⟩ : ByteArray), false)) ((strings_Contains.f k a0 (⟨#[35]⟩ : ByteArray)).bind fun r5 => (cond r5 (some ((⟨#[]⟩ : ByteArray), false)) (if 4000 < (s4.size : Int) then (some ((⟨#[]⟩ : ByteArray), false)) else (some (s4, true))))))))))
def impl_AppendChecksum.f (k : Nat) (a0 : ByteArray) : Option (ByteArray × Bool) := impl_AppendChecksum.m k a0
noncomputable def impl_AppendChecksum.spec (k : Nat) : FnSpec := ⟨[.d .str none], [.d .str none, .d .bool none], fun x => impl_AppendChecksum.f k x⟩
noncomputable def impl_AppendChecksum.T : FnText := ⟨(conv [] (bodyOf Go.Proofs.Tryd.f46) 0).1, Go.Proofs.Tryd.f46.results.toList, 29, [], [.d .str none], [.d .str none, .d .bool none]⟩
noncomputable def impl_AppendChecksum.tbl (k : Nat) : Tbl := [(67, impl_Checksum.spec k), (47, impl_decimal.spec k), (62, strings_Contains.spec k)]
theorem impl_AppendChecksum.e (k : Nat) (o : Nat → St → Option (ByteArray × Bool)) (a0 : ByteArray) : impl_AppendChecksum.T.main tyt (impl_AppendChecksum.tbl k) o a0 = impl_AppendChecksum.m k a0 := by kernel_rfl
theorem impl_AppendChecksum.ok : impl_AppendChecksum.T.ok = true := by kernel_rfl
theorem impl_AppendChecksum.tblok (k : Nat) : TblOk Go.Proofs.Tryd.prog (impl_AppendChecksum.tbl k) := TblOk.cons (impl_Checksum.sound k) (TblOk.cons (impl_decimal.sound k) (TblOk.cons (strings_Contains.sound k) (TblOk.nil _)))
theorem impl_AppendChecksum.sound (k : Nat) : Sound Go.Proofs.Tryd.prog 46 (impl_AppendChecksum.spec k) := by
  have h := fn_ok (F := impl_AppendChecksum.T) (tbl := impl_AppendChecksum.tbl) mixed tyok Go.Proofs.Tryd.func46 (by kernel_rfl) (c0 := bodyOf Go.Proofs.Tryd.f46) rfl (conv_code _ _ _) rfl rfl impl_AppendChecksum.ok k (fun j _ => impl_AppendChecksum.tblok j)
  have e : impl_AppendChecksum.spec k = ⟨impl_AppendChecksum.T.ps, impl_AppendChecksum.T.rs, impl_AppendChecksum.T.ev tyt impl_AppendChecksum.tbl k⟩ := congrArg (FnSpec.mk _ _) (funext fun x => ((impl_AppendChecksum.e k (impl_AppendChecksum.T.run tyt impl_AppendChecksum.tbl k) x).trans (by rfl)).symm)
  rw [e]
  exact h
/-! ### impl_VerifyChecksum: function 80 -/
def impl_VerifyChecksum.m (k : Nat) (a0 : ByteArray) : Option (ByteArray × Bool) := ((strings_Cut.f k a0 (⟨#[35]⟩ : ByteArray)).bind fun r1 => ((impl_AppendChecksum.f k r1.1).bind fun r2 => (cond (!r2.2) (some ((⟨#[]⟩ : ByteArray), false)) (if ¬ r2.1 = a0 then (some ((⟨#[]⟩ : ByteArray), false)) else (some (r1.1, true))))))
def impl_VerifyChecksum.f (k : Nat) (a0 : ByteArray) : Option (ByteArray × Bool) := impl_VerifyChecksum.m k a0
noncomputable def impl_VerifyChecksum.spec (k : Nat) : FnSpec := ⟨[.d .str none], [.d .str none, .d .bool none], fun x => impl_VerifyChecksum.f k x⟩
noncomputable def impl_VerifyChecksum.T : FnText := ⟨(conv [] (bodyOf Go.Proofs.Tryd.f80) 0).1, Go.Proofs.Tryd.f80.results.toList, 28, [], [.d .str none], [.d .str none, .d .bool none]⟩
noncomputable def impl_VerifyChecksum.tbl (k : Nat) : Tbl := [(79, strings_Cut.spec k), (46, impl_AppendChecksum.spec k)]
theorem impl_VerifyChecksum.e (k : Nat) (o : Nat → St → Option (ByteArray × Bool)) (a0 : ByteArray) : impl_VerifyChecksum.T.main tyt (impl_VerifyChecksum.tbl k) o a0 = impl_VerifyChecksum.m k a0 := by kernel_rfl
theorem impl_VerifyChecksum.ok : impl_VerifyChecksum.T.ok = true := by kernel_rfl
theorem impl_VerifyChecksum.tblok (k : Nat) : TblOk Go.Proofs.Tryd.prog (impl_VerifyChecksum.tbl k) := TblOk.cons (strings_Cut.sound k) (TblOk.cons (impl_AppendChecksum.sound k) (TblOk.nil _))
theorem impl_VerifyChecksum.sound (k : Nat) : Sound Go.Proofs.Tryd.prog 80 (impl_VerifyChecksum.spec k) := by
  have h := fn_ok (F := impl_VerifyChecksum.T) (tbl := impl_VerifyChecksum.tbl) mixed tyok Go.Proofs.Tryd.func80 (by kernel_rfl) (c0 := bodyOf Go.Proofs.Tryd.f80) rfl (conv_code _ _ _) rfl rfl impl_VerifyChecksum.ok k (fun j _ => impl_VerifyChecksum.tblok j)
  have e : impl_VerifyChecksum.spec k = ⟨impl_VerifyChecksum.T.ps, impl_VerifyChecksum.T.rs, impl_VerifyChecksum.T.ev tyt impl_VerifyChecksum.tbl k⟩ := congrArg (FnSpec.mk _ _) (funext fun x => ((impl_VerifyChecksum.e k (impl_VerifyChecksum.T.run tyt impl_VerifyChecksum.tbl k) x).trans (by rfl)).symm)
  rw [e]
  exact h
/-! ### impl_in: function 45 -/
def impl_in.m (k : Nat) (a0 : Int) (a1 : Int) (a2 : Int) : Option (Bool) := (if a1 ≤ a0 then (some (decide (a0 ≤ a2))) else (some false))
def impl_in.f (k : Nat) (a0 : Int) (a1 : Int) (a2 : Int) : Option (Bool) := impl_in.m k a0 a1 a2
noncomputable def impl_in.spec (k : Nat) : FnSpec := ⟨[.d (.int .i64) none, .d (.int .i64) none, .d (.int .i64) none], [.d .bool none], fun x => impl_in.f k x.1 x.2.1 x.2.2⟩
noncomputable def impl_in.T : FnText := ⟨(conv [] (bodyOf Go.Proofs.Tryd.f45) 0).1, Go.Proofs.Tryd.f45.results.toList, 15, [], [.d (.int .i64) none, .d (.int .i64) none, .d (.int .i64) none], [.d .bool none]⟩
noncomputable def impl_in.tbl (k : Nat) : Tbl := []
theorem impl_in.e (k : Nat) (o : Nat → St → Option (Bool)) (a0 : Int) (a1 : Int) (a2 : Int) : impl_in.T.main tyt (impl_in.tbl k) o (a0, a1, a2) = impl_in.m k a0 a1 a2 := by kernel_rfl
theorem impl_in.ok : impl_in.T.ok = true := by kernel_rfl
theorem impl_in.tblok (k : Nat) : TblOk Go.Proofs.Tryd.prog (impl_in.tbl k) := TblOk.nil _
theorem impl_in.sound (k : Nat) : Sound Go.Proofs.Tryd.prog 45 (impl_in.spec k) := by
  have h := fn_ok (F := impl_in.T) (tbl := impl_in.tbl) mixed tyok Go.Proofs.Tryd.func45 (by kernel_rfl) (c0 := bodyOf Go.Proofs.Tryd.f45) rfl (conv_code _ _ _) rfl rfl impl_in.ok k (fun j _ => impl_in.tblok j)
  have e : impl_in.spec k = ⟨impl_in.T.ps, impl_in.T.rs, impl_in.T.ev tyt impl_in.tbl k⟩ := congrArg (FnSpec.mk _ _) (funext fun x => ((impl_in.e k (impl_in.T.run tyt impl_in.tbl k) x.1 x.2.1 x.2.2).trans (by rfl)).symm)
  rw [e]
  exact h
/-! ### impl_isPlain_1: function 75 -/
def impl_isPlain_1.m (k : Nat) (a0 : Int) : Option (Bool) := (if 32 ≤ a0 then (if a0 ≤ 126 then (some (decide (¬ a0 = 35))) else (some false)) else (some false))
def impl_isPlain_1.f (k : Nat) (a0 : Int) : Option (Bool) := impl_isPlain_1.m k a0
noncomputable def impl_isPlain_1.spec (k : Nat) : FnSpec := ⟨[.d (.int .u8) none], [.d .bool none], fun x => impl_isPlain_1.f k x⟩
noncomputable def impl_isPlain_1.T : FnText := ⟨(conv [] (bodyOf Go.Proofs.Tryd.f75) 0).1, Go.Proofs.Tryd.f75.results.toList, 13, [], [.d (.int .u8) none], [.d .bool none]⟩
noncomputable def impl_isPlain_1.tbl (k : Nat) : Tbl := []
theorem impl_isPlain_1.e (k : Nat) (o : Nat → St → Option (Bool)) (a0 : Int) : impl_isPlain_1.T.main tyt (impl_isPlain_1.tbl k) o a0 = impl_isPlain_1.m k a0 := by kernel_rfl
theorem impl_isPlain_1.ok : impl_isPlain_1.T.ok = true := by kernel_rfl
theorem impl_isPlain_1.tblok (k : Nat) : TblOk Go.Proofs.Tryd.prog (impl_isPlain_1.tbl k) := TblOk.nil _
theorem impl_isPlain_1.sound (k : Nat) : Sound Go.Proofs.Tryd.prog 75 (impl_isPlain_1.spec k) := by
  have h := fn_ok (F := impl_isPlain_1.T) (tbl := impl_isPlain_1.tbl) mixed tyok Go.Proofs.Tryd.func75 (by kernel_rfl) (c0 := bodyOf Go.Proofs.Tryd.f75) rfl (conv_code _ _ _) rfl rfl impl_isPlain_1.ok k (fun j _ => impl_isPlain_1.tblok j)
  have e : impl_isPlain_1.spec k = ⟨impl_isPlain_1.T.ps, impl_isPlain_1.T.rs, impl_isPlain_1.T.ev tyt impl_isPlain_1.tbl k⟩ := congrArg (FnSpec.mk _ _) (funext fun x => ((impl_isPlain_1.e k (impl_isPlain_1.T.run tyt impl_isPlain_1.tbl k) x).trans (by rfl)).symm)
  rw [e]
  exact h
/-! ### impl_areAll_byte_1__impl_isPlain_1: function 83 -/
def impl_areAll_byte_1__impl_isPlain_1.m (k : Nat) (a0 : Int) : Option (Bool) := ((impl_isPlain_1.f k a0).bind fun r1 => (some (!r1)))
def impl_areAll_byte_1__impl_isPlain_1.f (k : Nat) (a0 : Int) : Option (Bool) := impl_areAll_byte_1__impl_isPlain_1.m k a0
noncomputable def impl_areAll_byte_1__impl_isPlain_1.spec (k : Nat) : FnSpec := ⟨[.d (.int .u8) none, .rb [.fv 75 [] []]], [.d .bool none], fun x => impl_areAll_byte_1__impl_isPlain_1.f k x⟩
noncomputable def impl_areAll_byte_1__impl_isPlain_1.T : FnText := ⟨(conv [] (bodyOf Go.Proofs.Tryd.f83) 0).1, Go.Proofs.Tryd.f83.results.toList, 8, [], [.d (.int .u8) none, .rb [.fv 75 [] []]], [.d .bool none]⟩
noncomputable def impl_areAll_byte_1__impl_isPlain_1.tbl (k : Nat) : Tbl := [(75, impl_isPlain_1.spec k)]
theorem impl_areAll_byte_1__impl_isPlain_1.e (k : Nat) (o : Nat → St → Option (Bool)) (a0 : Int) : impl_areAll_byte_1__impl_isPlain_1.T.main tyt (impl_areAll_byte_1__impl_isPlain_1.tbl k) o a0 = impl_areAll_byte_1__impl_isPlain_1.m k a0 := by kernel_rfl
theorem impl_areAll_byte_1__impl_isPlain_1.ok : impl_areAll_byte_1__impl_isPlain_1.T.ok = true := by kernel_rfl
theorem impl_areAll_byte_1__impl_isPlain_1.tblok (k : Nat) : TblOk Go.Proofs.Tryd.prog (impl_areAll_byte_1__impl_isPlain_1.tbl k) := TblOk.cons (impl_isPlain_1.sound k) (TblOk.nil _)
theorem impl_areAll_byte_1__impl_isPlain_1.sound (k : Nat) : Sound Go.Proofs.Tryd.prog 83 (impl_areAll_byte_1__impl_isPlain_1.spec k) := by
  have h := fn_ok (F := impl_areAll_byte_1__impl_isPlain_1.T) (tbl := impl_areAll_byte_1__impl_isPlain_1.tbl) mixed tyok Go.Proofs.Tryd.func83 (by kernel_rfl) (c0 := bodyOf Go.Proofs.Tryd.f83) rfl (conv_code _ _ _) rfl rfl impl_areAll_byte_1__impl_isPlain_1.ok k (fun j _ => impl_areAll_byte_1__impl_isPlain_1.tblok j)
  have e : impl_areAll_byte_1__impl_isPlain_1.spec k = ⟨impl_areAll_byte_1__impl_isPlain_1.T.ps, impl_areAll_byte_1__impl_isPlain_1.T.rs, impl_areAll_byte_1__impl_isPlain_1.T.ev tyt impl_areAll_byte_1__impl_isPlain_1.tbl k⟩ := congrArg (FnSpec.mk _ _) (funext fun x => ((impl_areAll_byte_1__impl_isPlain_1.e k (impl_areAll_byte_1__impl_isPlain_1.T.run tyt impl_areAll_byte_1__impl_isPlain_1.tbl k) x).trans (by rfl)).symm)
  rw [e]
  exact h
/-! ### slices_IndexFunc_byte_byte__impl_areAll_byte_1__impl_isPlain_1: function 88 -/
def slices_IndexFunc_byte_byte__impl_areAll_byte_1__impl_isPlain_1.b3 (o3 : List Int → Int → Int → Option (Int)) (k : Nat) (l0_3 : List Int) (x1_3 : Int) (x2_3 : Int) : Option (Int) := (if x2_3 < x1_3 then ((chk l0_3.length x2_3).bind fun i1 => ((impl_areAll_byte_1__impl_isPlain_1.f k (l0_3.getD i1 0)).bind fun r2 => (cond r2 (some x2_3) (o3 l0_3 x1_3 (w64 (x2_3 + 1)))))) else (some (-1)))
def slices_IndexFunc_byte_byte__impl_areAll_byte_1__impl_isPlain_1.l3 : Nat → List Int → Int → Int → Option (Int)
  | 0, _, _, _ => none
  | k + 1, l0_3, x1_3, x2_3 => slices_IndexFunc_byte_byte__impl_areAll_byte_1__impl_isPlain_1.b3 (slices_IndexFunc_byte_byte__impl_areAll_byte_1__impl_isPlain_1.l3 k) k l0_3 x1_3 x2_3
def slices_IndexFunc_byte_byte__impl_areAll_byte_1__impl_isPlain_1.m (o3 : List Int → Int → Int → Option (Int)) (k : Nat) (l0 : List Int) : Option (Int) := (o3 l0 (l0.length : Int) 0)
def slices_IndexFunc_byte_byte__impl_areAll_byte_1__impl_isPlain_1.f (k : Nat) (l0 : List Int) : Option (Int) := slices_IndexFunc_byte_byte__impl_areAll_byte_1__impl_isPlain_1.m (slices_IndexFunc_byte_byte__impl_areAll_byte_1__impl_isPlain_1.l3 k) k l0
noncomputable def slices_IndexFunc_byte_byte__impl_areAll_byte_1__impl_isPlain_1.spec (k : Nat) : FnSpec := ⟨[.d (.sl (.int .u8)) none, .fv 83 [] [.rb [.fv 75 [] []]]], [.d (.int .i64) none], fun x => slices_IndexFunc_byte_byte__impl_areAll_byte_1__impl_isPlain_1.f k x⟩
def slices_IndexFunc_byte_byte__impl_areAll_byte_1__impl_isPlain_1.S3 (l0_3 : List Int) (x1_3 : Int) (x2_3 : Int) : St := ⟨[(0, .val (.sl (.int .u8)) l0_3), (1, .fn 83 [] [.cptr [.fn 75 [] []] 0]), (7, .val (.int .i64) x1_3), (8, .val (.int .i64) x2_3)], [], 1000⟩
noncomputable def slices_IndexFunc_byte_byte__impl_areAll_byte_1__impl_isPlain_1.T : FnText := ⟨(conv [] (bodyOf Go.Proofs.Tryd.f88) 0).1, Go.Proofs.Tryd.f88.results.toList, 19, [(3, [(0, .rd (.sl (.int .u8))), (1, .as), (7, .rd (.int .i64)), (8, .rd (.int .i64))])], [.d (.sl (.int .u8)) none, .fv 83 [] [.rb [.fv 75 [] []]]], [.d (.int .i64) none]⟩
noncomputable def slices_IndexFunc_byte_byte__impl_areAll_byte_1__impl_isPlain_1.tbl (k : Nat) : Tbl := [(83, impl_areAll_byte_1__impl_isPlain_1.spec k)]
theorem slices_IndexFunc_byte_byte__impl_areAll_byte_1__impl_isPlain_1.e3 (k : Nat) (o : Nat → St → Option (Int)) (l0_3 : List Int) (x1_3 : Int) (x2_3 : Int) : slices_IndexFunc_byte_byte__impl_areAll_byte_1__impl_isPlain_1.T.step tyt (slices_IndexFunc_byte_byte__impl_areAll_byte_1__impl_isPlain_1.tbl k) o 3 (slices_IndexFunc_byte_byte__impl_areAll_byte_1__impl_isPlain_1.S3 l0_3 x1_3 x2_3) = slices_IndexFunc_byte_byte__impl_areAll_byte_1__impl_isPlain_1.b3 (fun l0_3 x1_3 x2_3 => o 3 (slices_IndexFunc_byte_byte__impl_areAll_byte_1__impl_isPlain_1.S3 l0_3 x1_3 x2_3)) k l0_3 x1_3 x2_3 := by kernel_rfl
theorem slices_IndexFunc_byte_byte__impl_areAll_byte_1__impl_isPlain_1.e (k : Nat) (o : Nat → St → Option (Int)) (l0 : List Int) : slices_IndexFunc_byte_byte__impl_areAll_byte_1__impl_isPlain_1.T.main tyt (slices_IndexFunc_byte_byte__impl_areAll_byte_1__impl_isPlain_1.tbl k) o l0 = slices_IndexFunc_byte_byte__impl_areAll_byte_1__impl_isPlain_1.m (fun l0_3 x1_3 x2_3 => o 3 (slices_IndexFunc_byte_byte__impl_areAll_byte_1__impl_isPlain_1.S3 l0_3 x1_3 x2_3)) k l0 := by kernel_rfl
theorem slices_IndexFunc_byte_byte__impl_areAll_byte_1__impl_isPlain_1.ok : slices_IndexFunc_byte_byte__impl_areAll_byte_1__impl_isPlain_1.T.ok = true := by kernel_rfl
theorem slices_IndexFunc_byte_byte__impl_areAll_byte_1__impl_isPlain_1.run (k : Nat) : (∀ (l0_3 : List Int) (x1_3 : Int) (x2_3 : Int), slices_IndexFunc_byte_byte__impl_areAll_byte_1__impl_isPlain_1.T.run tyt slices_IndexFunc_byte_byte__impl_areAll_byte_1__impl_isPlain_1.tbl k 3 (slices_IndexFunc_byte_byte__impl_areAll_byte_1__impl_isPlain_1.S3 l0_3 x1_3 x2_3) = slices_IndexFunc_byte_byte__impl_areAll_byte_1__impl_isPlain_1.l3 k l0_3 x1_3 x2_3) := by
  induction k with
  | zero => exact fun l0_3 x1_3 x2_3 => rfl
  | succ k ih =>
    exact fun l0_3 x1_3 x2_3 => by
      have q3 : (fun l0_3 x1_3 x2_3 => slices_IndexFunc_byte_byte__impl_areAll_byte_1__impl_isPlain_1.T.run tyt slices_IndexFunc_byte_byte__impl_areAll_byte_1__impl_isPlain_1.tbl k 3 (slices_IndexFunc_byte_byte__impl_areAll_byte_1__impl_isPlain_1.S3 l0_3 x1_3 x2_3)) = slices_IndexFunc_byte_byte__impl_areAll_byte_1__impl_isPlain_1.l3 k := by funext l0_3 x1_3 x2_3; exact ih l0_3 x1_3 x2_3
      exact (slices_IndexFunc_byte_byte__impl_areAll_byte_1__impl_isPlain_1.e3 k (slices_IndexFunc_byte_byte__impl_areAll_byte_1__impl_isPlain_1.T.run tyt slices_IndexFunc_byte_byte__impl_areAll_byte_1__impl_isPlain_1.tbl k) l0_3 x1_3 x2_3).trans (by rw [q3]; rfl)
theorem slices_IndexFunc_byte_byte__impl_areAll_byte_1__impl_isPlain_1.tblok (k : Nat) : TblOk Go.Proofs.Tryd.prog (slices_IndexFunc_byte_byte__impl_areAll_byte_1__impl_isPlain_1.tbl k) := TblOk.cons (impl_areAll_byte_1__impl_isPlain_1.sound k) (TblOk.nil _)
theorem slices_IndexFunc_byte_byte__impl_areAll_byte_1__impl_isPlain_1.sound (k : Nat) : Sound Go.Proofs.Tryd.prog 88 (slices_IndexFunc_byte_byte__impl_areAll_byte_1__impl_isPlain_1.spec k) := by
  have h := fn_ok (F := slices_IndexFunc_byte_byte__impl_areAll_byte_1__impl_isPlain_1.T) (tbl := slices_IndexFunc_byte_byte__impl_areAll_byte_1__impl_isPlain_1.tbl) mixed tyok Go.Proofs.Tryd.func88 (by kernel_rfl) (c0 := bodyOf Go.Proofs.Tryd.f88) rfl (conv_code _ _ _) rfl rfl slices_IndexFunc_byte_byte__impl_areAll_byte_1__impl_isPlain_1.ok k (fun j _ => slices_IndexFunc_byte_byte__impl_areAll_byte_1__impl_isPlain_1.tblok j)
  have q3 : (fun l0_3 x1_3 x2_3 => slices_IndexFunc_byte_byte__impl_areAll_byte_1__impl_isPlain_1.T.run tyt slices_IndexFunc_byte_byte__impl_areAll_byte_1__impl_isPlain_1.tbl k 3 (slices_IndexFunc_byte_byte__impl_areAll_byte_1__impl_isPlain_1.S3 l0_3 x1_3 x2_3)) = slices_IndexFunc_byte_byte__impl_areAll_byte_1__impl_isPlain_1.l3 k := by funext l0_3 x1_3 x2_3; exact (slices_IndexFunc_byte_byte__impl_areAll_byte_1__impl_isPlain_1.run k) l0_3 x1_3 x2_3
  have e : slices_IndexFunc_byte_byte__impl_areAll_byte_1__impl_isPlain_1.spec k = ⟨slices_IndexFunc_byte_byte__impl_areAll_byte_1__impl_isPlain_1.T.ps, slices_IndexFunc_byte_byte__impl_areAll_byte_1__impl_isPlain_1.T.rs, slices_IndexFunc_byte_byte__impl_areAll_byte_1__impl_isPlain_1.T.ev tyt slices_IndexFunc_byte_byte__impl_areAll_byte_1__impl_isPlain_1.tbl k⟩ := congrArg (FnSpec.mk _ _) (funext fun x => ((slices_IndexFunc_byte_byte__impl_areAll_byte_1__impl_isPlain_1.e k (slices_IndexFunc_byte_byte__impl_areAll_byte_1__impl_isPlain_1.T.run tyt slices_IndexFunc_byte_byte__impl_areAll_byte_1__impl_isPlain_1.tbl k) x).trans (by rw [q3]; rfl)).symm)
  rw [e]
  exact h
/-! ### slices_ContainsFunc_byte_byte__impl_areAll_byte_1__impl_isPlain_1: function 82 -/
def slices_ContainsFunc_byte_byte__impl_areAll_byte_1__impl_isPlain_1.m (k : Nat) (l0 : List Int) : Option (Bool) := ((slices_IndexFunc_byte_byte__impl_areAll_byte_1__impl_isPlain_1.f k l0).bind fun r1 => (some (decide (0 ≤ r1))))
def slices_ContainsFunc_byte_byte__impl_areAll_byte_1__impl_isPlain_1.f (k : Nat) (l0 : List Int) : Option (Bool) := slices_ContainsFunc_byte_byte__impl_areAll_byte_1__impl_isPlain_1.m k l0
noncomputable def slices_ContainsFunc_byte_byte__impl_areAll_byte_1__impl_isPlain_1.spec (k : Nat) : FnSpec := ⟨[.d (.sl (.int .u8)) none, .fv 83 [] [.rb [.fv 75 [] []]]], [.d .bool none], fun x => slices_ContainsFunc_byte_byte__impl_areAll_byte_1__impl_isPlain_1.f k x⟩
noncomputable def slices_ContainsFunc_byte_byte__impl_areAll_byte_1__impl_isPlain_1.T : FnText := ⟨(conv [] (bodyOf Go.Proofs.Tryd.f82) 0).1, Go.Proofs.Tryd.f82.results.toList, 9, [], [.d (.sl (.int .u8)) none, .fv 83 [] [.rb [.fv 75 [] []]]], [.d .bool none]⟩
noncomputable def slices_ContainsFunc_byte_byte__impl_areAll_byte_1__impl_isPlain_1.tbl (k : Nat) : Tbl := [(88, slices_IndexFunc_byte_byte__impl_areAll_byte_1__impl_isPlain_1.spec k)]
theorem slices_ContainsFunc_byte_byte__impl_areAll_byte_1__impl_isPlain_1.e (k : Nat) (o : Nat → St → Option (Bool)) (l0 : List Int) : slices_ContainsFunc_byte_byte__impl_areAll_byte_1__impl_isPlain_1.T.main tyt (slices_ContainsFunc_byte_byte__impl_areAll_byte_1__impl_isPlain_1.tbl k) o l0 = slices_ContainsFunc_byte_byte__impl_areAll_byte_1__impl_isPlain_1.m k l0 := by kernel_rfl
theorem slices_ContainsFunc_byte_byte__impl_areAll_byte_1__impl_isPlain_1.ok : slices_ContainsFunc_byte_byte__impl_areAll_byte_1__impl_isPlain_1.T.ok = true := by kernel_rfl
theorem slices_ContainsFunc_byte_byte__impl_areAll_byte_1__impl_isPlain_1.tblok (k : Nat) : TblOk Go.Proofs.Tryd.prog (slices_ContainsFunc_byte_byte__impl_areAll_byte_1__impl_isPlain_1.tbl k) := TblOk.cons (slices_IndexFunc_byte_byte__impl_areAll_byte_1__impl_isPlain_1.sound k) (TblOk.nil _)
theorem slices_ContainsFunc_byte_byte__impl_areAll_byte_1__impl_isPlain_1.sound (k : Nat) : Sound Go.Proofs.Tryd.prog 82 (slices_ContainsFunc_byte_byte__impl_areAll_byte_1__impl_isPlain_1.spec k) := by
  have h := fn_ok (F := slices_ContainsFunc_byte_byte__impl_areAll_byte_1__impl_isPlain_1.T) (tbl := slices_ContainsFunc_byte_byte__impl_areAll_byte_1__impl_isPlain_1.tbl) mixed tyok Go.Proofs.Tryd.func82 (by kernel_rfl) (c0 := bodyOf Go.Proofs.Tryd.f82) rfl (conv_code _ _ _) rfl rfl slices_ContainsFunc_byte_byte__impl_areAll_byte_1__impl_isPlain_1.ok k (fun j _ => slices_ContainsFunc_byte_byte__impl_areAll_byte_1__impl_isPlain_1.tblok j)
  have e : slices_ContainsFunc_byte_byte__impl_areAll_byte_1__impl_isPlain_1.spec k = ⟨slices_ContainsFunc_byte_byte__impl_areAll_byte_1__impl_isPlain_1.T.ps, slices_ContainsFunc_byte_byte__impl_areAll_byte_1__impl_isPlain_1.T.rs, slices_ContainsFunc_byte_byte__impl_areAll_byte_1__impl_isPlain_1.T.ev tyt slices_ContainsFunc_byte_byte__impl_areAll_byte_1__impl_isPlain_1.tbl k⟩ := congrArg (FnSpec.mk _ _) (funext fun x => ((slices_ContainsFunc_byte_byte__impl_areAll_byte_1__impl_isPlain_1.e k (slices_ContainsFunc_byte_byte__impl_areAll_byte_1__impl_isPlain_1.T.run tyt slices_ContainsFunc_byte_byte__impl_areAll_byte_1__impl_isPlain_1.tbl k) x).trans (by rfl)).symm)
  rw [e]
  exact h
/-! ### impl_areAll_byte__impl_isPlain_1: function 74 -/
def impl_areAll_byte__impl_isPlain_1.m (k : Nat) (l0 : List Int) : Option (Bool) := ((slices_ContainsFunc_byte_byte__impl_areAll_byte_1__impl_isPlain_1.f k l0).bind fun r1 => (some (!r1)))
def impl_areAll_byte__impl_isPlain_1.f (k : Nat) (l0 : List Int) : Option (Bool) := impl_areAll_byte__impl_isPlain_1.m k l0
noncomputable def impl_areAll_byte__impl_isPlain_1.spec (k : Nat) : FnSpec := ⟨[.d (.sl (.int .u8)) none, .fv 75 [] []], [.d .bool none], fun x => impl_areAll_byte__impl_isPlain_1.f k x⟩
noncomputable def impl_areAll_byte__impl_isPlain_1.T : FnText := ⟨(conv [] (bodyOf Go.Proofs.Tryd.f74) 0).1, Go.Proofs.Tryd.f74.results.toList, 9, [], [.d (.sl (.int .u8)) none, .fv 75 [] []], [.d .bool none]⟩
noncomputable def impl_areAll_byte__impl_isPlain_1.tbl (k : Nat) : Tbl := [(82, slices_ContainsFunc_byte_byte__impl_areAll_byte_1__impl_isPlain_1.spec k)]
theorem impl_areAll_byte__impl_isPlain_1.e (k : Nat) (o : Nat → St → Option (Bool)) (l0 : List Int) : impl_areAll_byte__impl_isPlain_1.T.main tyt (impl_areAll_byte__impl_isPlain_1.tbl k) o l0 = impl_areAll_byte__impl_isPlain_1.m k l0 := by kernel_rfl
theorem impl_areAll_byte__impl_isPlain_1.ok : impl_areAll_byte__impl_isPlain_1.T.ok = true := by kernel_rfl
theorem impl_areAll_byte__impl_isPlain_1.tblok (k : Nat) : TblOk Go.Proofs.Tryd.prog (impl_areAll_byte__impl_isPlain_1.tbl k) := TblOk.cons (slices_ContainsFunc_byte_byte__impl_areAll_byte_1__impl_isPlain_1.sound k) (TblOk.nil _)
theorem impl_areAll_byte__impl_isPlain_1.sound (k : Nat) : Sound Go.Proofs.Tryd.prog 74 (impl_areAll_byte__impl_isPlain_1.spec k) := by
  have h := fn_ok (F := impl_areAll_byte__impl_isPlain_1.T) (tbl := impl_areAll_byte__impl_isPlain_1.tbl) mixed tyok Go.Proofs.Tryd.func74 (by kernel_rfl) (c0 := bodyOf Go.Proofs.Tryd.f74) rfl (conv_code _ _ _) rfl rfl impl_areAll_byte__impl_isPlain_1.ok k (fun j _ => impl_areAll_byte__impl_isPlain_1.tblok j)
  have e : impl_areAll_byte__impl_isPlain_1.spec k = ⟨impl_areAll_byte__impl_isPlain_1.T.ps, impl_areAll_byte__impl_isPlain_1.T.rs, impl_areAll_byte__impl_isPlain_1.T.ev tyt impl_areAll_byte__impl_isPlain_1.tbl k⟩ := congrArg (FnSpec.mk _ _) (funext fun x => ((impl_areAll_byte__impl_isPlain_1.e k (impl_areAll_byte__impl_isPlain_1.T.run tyt impl_areAll_byte__impl_isPlain_1.tbl k) x).trans (by rfl)).symm)
  rw [e]
  exact h
/-! ### impl_isPlain: function 61 -/
def impl_isPlain.m (k : Nat) (a0 : ByteArray) : Option (Bool) := ((impl_areAll_byte__impl_isPlain_1.f k (bytesOf a0)).bind fun r1 => (some r1))
def impl_isPlain.f (k : Nat) (a0 : ByteArray) : Option (Bool) := impl_isPlain.m k a0
noncomputable def impl_isPlain.spec (k : Nat) : FnSpec := ⟨[.d .str none], [.d .bool none], fun x => impl_isPlain.f k x⟩
noncomputable def impl_isPlain.T : FnText := ⟨(conv [] (bodyOf Go.Proofs.Tryd.f61) 0).1, Go.Proofs.Tryd.f61.results.toList, 6, [], [.d .str none], [.d .bool none]⟩
noncomputable def impl_isPlain.tbl (k : Nat) : Tbl := [(74, impl_areAll_byte__impl_isPlain_1.spec k)]
theorem impl_isPlain.e (k : Nat) (o : Nat → St → Option (Bool)) (a0 : ByteArray) : impl_isPlain.T.main tyt (impl_isPlain.tbl k) o a0 = impl_isPlain.m k a0 := by kernel_rfl
theorem impl_isPlain.ok : impl_isPlain.T.ok = true := by kernel_rfl
theorem impl_isPlain.tblok (k : Nat) : TblOk Go.Proofs.Tryd.prog (impl_isPlain.tbl k) := TblOk.cons (impl_areAll_byte__impl_isPlain_1.sound k) (TblOk.nil _)
theorem impl_isPlain.sound (k : Nat) : Sound Go.Proofs.Tryd.prog 61 (impl_isPlain.spec k) := by
  have h := fn_ok (F := impl_isPlain.T) (tbl := impl_isPlain.tbl) mixed tyok Go.Proofs.Tryd.func61 (by kernel_rfl) (c0 := bodyOf Go.Proofs.Tryd.f61) rfl (conv_code _ _ _) rfl rfl impl_isPlain.ok k (fun j _ => impl_isPlain.tblok j)
  have e : impl_isPlain.spec k = ⟨impl_isPlain.T.ps, impl_isPlain.T.rs, impl_isPlain.T.ev tyt impl_isPlain.tbl k⟩ := congrArg (FnSpec.mk _ _) (funext fun x => ((impl_isPlain.e k (impl_isPlain.T.run tyt impl_isPlain.tbl k) x).trans (by rfl)).symm)
  rw [e]
  exact h
/-! ### impl_IsValidRecord: function 39 -/
def impl_IsValidRecord.b1 (k : Nat) (x0_1 : ByteArray) (x1_1 : ByteArray) (x2_1 : Bool) : Option (Bool) := (cond x2_1 (if (x1_1.size : Int) ≤ 200 then ((impl_isPlain.f k x1_1).bind fun r4 => (some r4)) else (some false)) (some false))
def impl_IsValidRecord.l1 : Nat → ByteArray → ByteArray → Bool → Option (Bool)
  | 0, _, _, _ => none
  | k + 1, x0_1, x1_1, x2_1 => impl_IsValidRecord.b1 k x0_1 x1_1 x2_1
def impl_IsValidRecord.m (o1 : ByteArray → ByteArray → Bool → Option (Bool)) (k : Nat) (a0_0 : ByteArray) (a0_1 : ByteArray) : Option (Bool) := ((impl_in.f k (a0_0.size : Int) 1 160).bind fun r1 => (cond r1 ((impl_isPlain.f k a0_0).bind fun r2 => (cond r2 ((strings_Contains.f k a0_0 (⟨#[64]⟩ : ByteArray)).bind fun r3 => (o1 a0_0 a0_1 (!r3))) (o1 a0_0 a0_1 false))) (o1 a0_0 a0_1 false)))
def impl_IsValidRecord.f (k : Nat) (a0_0 : ByteArray) (a0_1 : ByteArray) : Option (Bool) := impl_IsValidRecord.m (impl_IsValidRecord.l1 k) k a0_0 a0_1
noncomputable def impl_IsValidRecord.spec (k : Nat) : FnSpec := ⟨[.ag [.d .str none, .d .str none]], [.d .bool none], fun x => impl_IsValidRecord.f k x.1 x.2⟩
def impl_IsValidRecord.S1 (x0_1 : ByteArray) (x1_1 : ByteArray) (x2_1 : Bool) : St := ⟨[(1, .ptr 100 0), (3, .val .bool x2_1)], [(100, some (.box [.val .str x0_1, .val .str x1_1]))], 1000⟩
noncomputable def impl_IsValidRecord.T : FnText := ⟨(conv [1] (bodyOf Go.Proofs.Tryd.f39) 0).1, Go.Proofs.Tryd.f39.results.toList, 31, [(1, [(1, .bx 100 [.rd .str, .rd .str]), (3, .rd .bool)])], [.ag [.d .str none, .d .str none]], [.d .bool none]⟩
noncomputable def impl_IsValidRecord.tbl (k : Nat) : Tbl := [(45, impl_in.spec k), (61, impl_isPlain.spec k), (62, strings_Contains.spec k)]
theorem impl_IsValidRecord.e1 (k : Nat) (o : Nat → St → Option (Bool)) (x0_1 : ByteArray) (x1_1 : ByteArray) (x2_1 : Bool) : impl_IsValidRecord.T.step tyt (impl_IsValidRecord.tbl k) o 1 (impl_IsValidRecord.S1 x0_1 x1_1 x2_1) = impl_IsValidRecord.b1 k x0_1 x1_1 x2_1 := by kernel_rfl
theorem impl_IsValidRecord.e (k : Nat) (o : Nat → St → Option (Bool)) (a0_0 : ByteArray) (a0_1 : ByteArray) : impl_IsValidRecord.T.main tyt (impl_IsValidRecord.tbl k) o (a0_0, a0_1) = impl_IsValidRecord.m (fun x0_1 x1_1 x2_1 => o 1 (impl_IsValidRecord.S1 x0_1 x1_1 x2_1)) k a0_0 a0_1 := by kernel_rfl
theorem impl_IsValidRecord.ok : impl_IsValidRecord.T.ok = true := by kernel_rfl
theorem impl_IsValidRecord.run (k : Nat) : (∀ (x0_1 : ByteArray) (x1_1 : ByteArray) (x2_1 : Bool), impl_IsValidRecord.T.run tyt impl_IsValidRecord.tbl k 1 (impl_IsValidRecord.S1 x0_1 x1_1 x2_1) = impl_IsValidRecord.l1 k x0_1 x1_1 x2_1) := by
  induction k with
  | zero => exact fun x0_1 x1_1 x2_1 => rfl
  | succ k ih =>
    exact fun x0_1 x1_1 x2_1 => by
      exact (impl_IsValidRecord.e1 k (impl_IsValidRecord.T.run tyt impl_IsValidRecord.tbl k) x0_1 x1_1 x2_1).trans (by rfl)
theorem impl_IsValidRecord.tblok (k : Nat) : TblOk Go.Proofs.Tryd.prog (impl_IsValidRecord.tbl k) := TblOk.cons (impl_in.sound k) (TblOk.cons (impl_isPlain.sound k) (TblOk.cons (strings_Contains.sound k) (TblOk.nil _)))
theorem impl_IsValidRecord.sound (k : Nat) : Sound Go.Proofs.Tryd.prog 39 (impl_IsValidRecord.spec k) := by
  have h := fn_ok (F := impl_IsValidRecord.T) (tbl := impl_IsValidRecord.tbl) mixed tyok Go.Proofs.Tryd.func39 (by kernel_rfl) (c0 := bodyOf Go.Proofs.Tryd.f39) rfl (conv_code _ _ _) rfl rfl impl_IsValidRecord.ok k (fun j _ => impl_IsValidRecord.tblok j)
  have q1 : (fun x0_1 x1_1 x2_1 => impl_IsValidRecord.T.run tyt impl_IsValidRecord.tbl k 1 (impl_IsValidRecord.S1 x0_1 x1_1 x2_1)) = impl_IsValidRecord.l1 k := by funext x0_1 x1_1 x2_1; exact (impl_IsValidRecord.run k) x0_1 x1_1 x2_1
  have e : impl_IsValidRecord.spec k = ⟨impl_IsValidRecord.T.ps, impl_IsValidRecord.T.rs, impl_IsValidRecord.T.ev tyt impl_IsValidRecord.tbl k⟩ := congrArg (FnSpec.mk _ _) (funext fun x => ((impl_IsValidRecord.e k (impl_IsValidRecord.T.run tyt impl_IsValidRecord.tbl k) x.1 x.2).trans (by rw [q1]; rfl)).symm)
  rw [e]
  exact h
/-! ### impl_EncodeRecord: function 16 -/
def impl_EncodeRecord.m (k : Nat) (a0 : Int) (a1_0 : ByteArray) (a1_1 : ByteArray) : Option (ByteArray × Bool) := ((impl_in.f k a0 0 59).bind fun r1 => (cond (!r1) (some ((⟨#[]⟩ : ByteArray), false)) ((impl_IsValidRecord.f k a1_0 a1_1).bind fun r2 => (cond (!r2) (some ((⟨#[]⟩ : ByteArray), false)) ((impl_decimal.f k a0).bind fun r3 => ((catS r3 (⟨#[32]⟩ : ByteArray)).bind fun s4 => ((catS s4 a1_0).bind fun s5 => ((catS s5 (⟨#[64]⟩ : ByteArray)).bind fun s6 => ((catS s6 a1_1).bind fun s7 => ((impl_AppendChecksum.f k s7).bind fun r8 => ((catS r8.1 (⟨#[10]⟩ : ByteArray)).bind fun s9 => (some (s9, true)))))))))))))
def impl_EncodeRecord.f (k : Nat) (a0 : Int) (a1_0 : ByteArray) (a1_1 : ByteArray) : Option (ByteArray × Bool) := impl_EncodeRecord.m k a0 a1_0 a1_1
noncomputable def impl_EncodeRecord.spec (k : Nat) : FnSpec := ⟨[.d (.int .i64) none, .ag [.d .str none, .d .str none]], [.d .str none, .d .bool none], fun x => impl_EncodeRecord.f k x.1 x.2.1 x.2.2⟩
noncomputable def impl_EncodeRecord.T : FnText := ⟨(conv [] (bodyOf Go.Proofs.Tryd.f16) 0).1, Go.Proofs.Tryd.f16.results.toList, 32, [], [.d (.int .i64) none, .ag [.d .str none, .d .str none]], [.d .str none, .d .bool none]⟩
noncomputable def impl_EncodeRecord.tbl (k : Nat) : Tbl := [(45, impl_in.spec k), (39, impl_IsValidRecord.spec k), (47, impl_decimal.spec k), (46, impl_AppendChecksum.spec k)]
theorem impl_EncodeRecord.e (k : Nat) (o : Nat → St → Option (ByteArray × Bool)) (a0 : Int) (a1_0 : ByteArray) (a1_1 : ByteArray) : impl_EncodeRecord.T.main tyt (impl_EncodeRecord.tbl k) o (a0, a1_0, a1_1) = impl_EncodeRecord.m k a0 a1_0 a1_1 := by kernel_rfl
theorem impl_EncodeRecord.ok : impl_EncodeRecord.T.ok = true := by kernel_rfl
theorem impl_EncodeRecord.tblok (k : Nat) : TblOk Go.Proofs.Tryd.prog (impl_EncodeRecord.tbl k) := TblOk.cons (impl_in.sound k) (TblOk.cons (impl_IsValidRecord.sound k) (TblOk.cons (impl_decimal.sound k) (TblOk.cons (impl_AppendChecksum.sound k) (TblOk.nil _))))
theorem impl_EncodeRecord.sound (k : Nat) : Sound Go.Proofs.Tryd.prog 16 (impl_EncodeRecord.spec k) := by
  have h := fn_ok (F := impl_EncodeRecord.T) (tbl := impl_EncodeRecord.tbl) mixed tyok Go.Proofs.Tryd.func16 (by kernel_rfl) (c0 := bodyOf Go.Proofs.Tryd.f16) rfl (conv_code _ _ _) rfl rfl impl_EncodeRecord.ok k (fun j _ => impl_EncodeRecord.tblok j)
  have e : impl_EncodeRecord.spec k = ⟨impl_EncodeRecord.T.ps, impl_EncodeRecord.T.rs, impl_EncodeRecord.T.ev tyt impl_EncodeRecord.tbl k⟩ := congrArg (FnSpec.mk _ _) (funext fun x => ((impl_EncodeRecord.e k (impl_EncodeRecord.T.run tyt impl_EncodeRecord.tbl k) x.1 x.2.1 x.2.2).trans (by rfl)).symm)
  rw [e]
  exact h
/-! ### internal_stringslite_HasPrefix: function 87 -/
def internal_stringslite_HasPrefix.m (k : Nat) (a0 : ByteArray) (a1 : ByteArray) : Option (Bool) := (if (a1.size : Int) ≤ (a0.size : Int) then ((cutTo a0.size (a1.size : Int)).bind fun m2 => (some (decide ((a0.extract 0 m2) = a1)))) else (some false))
def internal_stringslite_HasPrefix.f (k : Nat) (a0 : ByteArray) (a1 : ByteArray) : Option (Bool) := internal_stringslite_HasPrefix.m k a0 a1
noncomputable def internal_stringslite_HasPrefix.spec (k : Nat) : FnSpec := ⟨[.d .str none, .d .str none], [.d .bool none], fun x => internal_stringslite_HasPrefix.f k x.1 x.2⟩
noncomputable def internal_stringslite_HasPrefix.T : FnText := ⟨(conv [] (bodyOf Go.Proofs.Tryd.f87) 0).1, Go.Proofs.Tryd.f87.results.toList, 18, [], [.d .str none, .d .str none], [.d .bool none]⟩
noncomputable def internal_stringslite_HasPrefix.tbl (k : Nat) : Tbl := []
theorem internal_stringslite_HasPrefix.e (k : Nat) (o : Nat → St → Option (Bool)) (a0 : ByteArray) (a1 : ByteArray) : internal_stringslite_HasPrefix.T.main tyt (internal_stringslite_HasPrefix.tbl k) o (a0, a1) = internal_stringslite_HasPrefix.m k a0 a1 := by kernel_rfl
theorem internal_stringslite_HasPrefix.ok : internal_stringslite_HasPrefix.T.ok = true := by kernel_rfl
theorem internal_stringslite_HasPrefix.tblok (k : Nat) : TblOk Go.Proofs.Tryd.prog (internal_stringslite_HasPrefix.tbl k) := TblOk.nil _
theorem internal_stringslite_HasPrefix.sound (k : Nat) : Sound Go.Proofs.Tryd.prog 87 (internal_stringslite_HasPrefix.spec k) := by
  have h := fn_ok (F := internal_stringslite_HasPrefix.T) (tbl := internal_stringslite_HasPrefix.tbl) mixed tyok Go.Proofs.Tryd.func87 (by kernel_rfl) (c0 := bodyOf Go.Proofs.Tryd.f87) rfl (conv_code _ _ _) rfl rfl internal_stringslite_HasPrefix.ok k (fun j _ => internal_stringslite_HasPrefix.tblok j)
  have e : internal_stringslite_HasPrefix.spec k = ⟨internal_stringslite_HasPrefix.T.ps, internal_stringslite_HasPrefix.T.rs, internal_stringslite_HasPrefix.T.ev tyt internal_stringslite_HasPrefix.tbl k⟩ := congrArg (FnSpec.mk _ _) (funext fun x => ((internal_stringslite_HasPrefix.e k (internal_stringslite_HasPrefix.T.run tyt internal_stringslite_HasPrefix.tbl k) x.1 x.2).trans (by rfl)).symm)
  rw [e]
  exact h
/-! ### strings_HasPrefix: function 81 -/
def strings_HasPrefix.m (k : Nat) (a0 : ByteArray) (a1 : ByteArray) : Option (Bool) := ((internal_stringslite_HasPrefix.f k a0 a1).bind fun r1 => (some r1))
def strings_HasPrefix.f (k : Nat) (a0 : ByteArray) (a1 : ByteArray) : Option (Bool) := strings_HasPrefix.m k a0 a1
noncomputable def strings_HasPrefix.spec (k : Nat) : FnSpec := ⟨[.d .str none, .d .str none], [.d .bool none], fun x => strings_HasPrefix.f k x.1 x.2⟩
noncomputable def strings_HasPrefix.T : FnText := ⟨(conv [] (bodyOf Go.Proofs.Tryd.f81) 0).1, Go.Proofs.Tryd.f81.results.toList, 8, [], [.d .str none, .d .str none], [.d .bool none]⟩
noncomputable def strings_HasPrefix.tbl (k : Nat) : Tbl := [(87, internal_stringslite_HasPrefix.spec k)]
theorem strings_HasPrefix.e (k : Nat) (o : Nat → St → Option (Bool)) (a0 : ByteArray) (a1 : ByteArray) : strings_HasPrefix.T.main tyt (strings_HasPrefix.tbl k) o (a0, a1) = strings_HasPrefix.m k a0 a1 := by kernel_rfl
theorem strings_HasPrefix.ok : strings_HasPrefix.T.ok = true := by kernel_rfl
theorem strings_HasPrefix.tblok (k : Nat) : TblOk Go.Proofs.Tryd.prog (strings_HasPrefix.tbl k) := TblOk.cons (internal_stringslite_HasPrefix.sound k) (TblOk.nil _)
theorem strings_HasPrefix.sound (k : Nat) : Sound Go.Proofs.Tryd.prog 81 (strings_HasPrefix.spec k) := by
  have h := fn_ok (F := strings_HasPrefix.T) (tbl := strings_HasPrefix.tbl) mixed tyok Go.Proofs.Tryd.func81 (by kernel_rfl) (c0 := bodyOf Go.Proofs.Tryd.f81) rfl (conv_code _ _ _) rfl rfl strings_HasPrefix.ok k (fun j _ => strings_HasPrefix.tblok j)
  have e : strings_HasPrefix.spec k = ⟨strings_HasPrefix.T.ps, strings_HasPrefix.T.rs, strings_HasPrefix.T.ev tyt strings_HasPrefix.tbl k⟩ := congrArg (FnSpec.mk _ _) (funext fun x => ((strings_HasPrefix.e k (strings_HasPrefix.T.run tyt strings_HasPrefix.tbl k) x.1 x.2).trans (by rfl)).symm)
  rw [e]
  exact h
/-! ### impl_cutRecord: function 71 -/
def impl_cutRecord.m (k : Nat) (a0 : ByteArray) (a1 : Int) : Option (ByteArray × ByteArray × Int) := ((strings_Cut.f k a0 (⟨#[10]⟩ : ByteArray)).bind fun r1 => ((impl_VerifyChecksum.f k r1.1).bind fun r2 => ((strings_Cut.f k r2.1 (⟨#[32]⟩ : ByteArray)).bind fun r3 => ((strings_Cut.f k r3.2.1 (⟨#[64]⟩ : ByteArray)).bind fun r4 => ((impl_EncodeRecord.f k a1 r4.1 r4.2.1).bind fun r5 => (cond (!r5.2) (some (ByteArray.empty, ByteArray.empty, 0)) ((strings_HasPrefix.f k a0 r5.1).bind fun r6 => (cond (!r6) (some (ByteArray.empty, ByteArray.empty, 0)) (some (r4.1, r4.2.1, (r5.1.size : Int)))))))))))
def impl_cutRecord.f (k : Nat) (a0 : ByteArray) (a1 : Int) : Option (ByteArray × ByteArray × Int) := impl_cutRecord.m k a0 a1
noncomputable def impl_cutRecord.spec (k : Nat) : FnSpec := ⟨[.d .str none, .d (.int .i64) none], [.ag [.d .str none, .d .str none], .d (.int .i64) none], fun x => impl_cutRecord.f k x.1 x.2⟩
noncomputable def impl_cutRecord.T : FnText := ⟨(conv [] (bodyOf Go.Proofs.Tryd.f71) 0).1, Go.Proofs.Tryd.f71.results.toList, 64, [], [.d .str none, .d (.int .i64) none], [.ag [.d .str none, .d .str none], .d (.int .i64) none]⟩
noncomputable def impl_cutRecord.tbl (k : Nat) : Tbl := [(79, strings_Cut.spec k), (80, impl_VerifyChecksum.spec k), (16, impl_EncodeRecord.spec k), (81, strings_HasPrefix.spec k)]
theorem impl_cutRecord.e (k : Nat) (o : Nat → St → Option (ByteArray × ByteArray × Int)) (a0 : ByteArray) (a1 : Int) : impl_cutRecord.T.main tyt (impl_cutRecord.tbl k) o (a0, a1) = impl_cutRecord.m k a0 a1 := by kernel_rfl
theorem impl_cutRecord.ok : impl_cutRecord.T.ok = true := by kernel_rfl
theorem impl_cutRecord.tblok (k : Nat) : TblOk Go.Proofs.Tryd.prog (impl_cutRecord.tbl k) := TblOk.cons (strings_Cut.sound k) (TblOk.cons (impl_VerifyChecksum.sound k) (TblOk.cons (impl_EncodeRecord.sound k) (TblOk.cons (strings_HasPrefix.sound k) (TblOk.nil _))))
theorem impl_cutRecord.sound (k : Nat) : Sound Go.Proofs.Tryd.prog 71 (impl_cutRecord.spec k) := by
  have h := fn_ok (F := impl_cutRecord.T) (tbl := impl_cutRecord.tbl) mixed tyok Go.Proofs.Tryd.func71 (by kernel_rfl) (c0 := bodyOf Go.Proofs.Tryd.f71) rfl (conv_code _ _ _) rfl rfl impl_cutRecord.ok k (fun j _ => impl_cutRecord.tblok j)
  have e : impl_cutRecord.spec k = ⟨impl_cutRecord.T.ps, impl_cutRecord.T.rs, impl_cutRecord.T.ev tyt impl_cutRecord.tbl k⟩ := congrArg (FnSpec.mk _ _) (funext fun x => ((impl_cutRecord.e k (impl_cutRecord.T.run tyt impl_cutRecord.tbl k) x.1 x.2).trans (by rfl)).symm)
  rw [e]
  exact h
/-! ### impl_readLog: function 49 -/
def impl_readLog.b3 (o3 : ByteArray → (List (ByteArray × ByteArray)) → List Int → Int → Option (List (ByteArray × ByteArray) × List Int)) (k : Nat) (x0_3 : ByteArray) (l1_3 : List (ByteArray × ByteArray)) (l2_3 : List Int) (x3_3 : Int) : Option (List (ByteArray × ByteArray) × List Int) := (if (l1_3.length : Int) < 60 then ((cut x0_3.size x3_3 (x0_3.size : Int)).bind fun c1 => ((impl_cutRecord.f k (x0_3.extract c1.1 (c1.1 + c1.2)) (l1_3.length : Int)).bind fun r2 => (if r2.2.2 = 0 then (some (l1_3, l2_3)) else ((app 4398046511104 l1_3 [(r2.1, r2.2.1)]).bind fun l3 => ((app 17592186044416 l2_3 [(w64 (x3_3 + r2.2.2))]).bind fun l4 => (o3 x0_3 l3 l4 (w64 (x3_3 + r2.2.2)))))))) else (some (l1_3, l2_3)))
def impl_readLog.l3 : Nat → ByteArray → (List (ByteArray × ByteArray)) → List Int → Int → Option (List (ByteArray × ByteArray) × List Int)
  | 0, _, _, _, _ => none
  | k + 1, x0_3, l1_3, l2_3, x3_3 => impl_readLog.b3 (impl_readLog.l3 k) k x0_3 l1_3 l2_3 x3_3
def impl_readLog.m (o3 : ByteArray → (List (ByteArray × ByteArray)) → List Int → Int → Option (List (ByteArray × ByteArray) × List Int)) (k : Nat) (a0 : ByteArray) : Option (List (ByteArray × ByteArray) × List Int) := (o3 a0 [] [] 0)
def impl_readLog.f (k : Nat) (a0 : ByteArray) : Option (List (ByteArray × ByteArray) × List Int) := impl_readLog.m (impl_readLog.l3 k) k a0
noncomputable def impl_readLog.spec (k : Nat) : FnSpec := ⟨[.d .str none], [.d (.sl (.pair .str .str)) (some 27), .d (.sl (.int .i64)) (some 3)], fun x => impl_readLog.f k x⟩
def impl_readLog.S3 (x0_3 : ByteArray) (l1_3 : List (ByteArray × ByteArray)) (l2_3 : List Int) (x3_3 : Int) : St := ⟨[(0, .val .str x0_3), (2, .ref 100), (3, .ref 101), (4, .val (.int .i64) x3_3)], [(101, some (.row 3 (.int .i64) l2_3)), (100, some (.row 27 (.pair .str .str) l1_3))], 1000⟩
noncomputable def impl_readLog.T : FnText := ⟨(conv [] (bodyOf Go.Proofs.Tryd.f49) 0).1, Go.Proofs.Tryd.f49.results.toList, 34, [(3, [(0, .rd .str), (2, .own 27 (.pair .str .str) 100), (3, .own 3 (.int .i64) 101), (4, .rd (.int .i64))])], [.d .str none], [.d (.sl (.pair .str .str)) (some 27), .d (.sl (.int .i64)) (some 3)]⟩
noncomputable def impl_readLog.tbl (k : Nat) : Tbl := [(71, impl_cutRecord.spec k)]
theorem impl_readLog.e3 (k : Nat) (o : Nat → St → Option (List (ByteArray × ByteArray) × List Int)) (x0_3 : ByteArray) (l1_3 : List (ByteArray × ByteArray)) (l2_3 : List Int) (x3_3 : Int) : impl_readLog.T.step tyt (impl_readLog.tbl k) o 3 (impl_readLog.S3 x0_3 l1_3 l2_3 x3_3) = impl_readLog.b3 (fun x0_3 l1_3 l2_3 x3_3 => o 3 (impl_readLog.S3 x0_3 l1_3 l2_3 x3_3)) k x0_3 l1_3 l2_3 x3_3 := by kernel_rfl
theorem impl_readLog.e (k : Nat) (o : Nat → St → Option (List (ByteArray × ByteArray) × List Int)) (a0 : ByteArray) : impl_readLog.T.main tyt (impl_readLog.tbl k) o a0 = impl_readLog.m (fun x0_3 l1_3 l2_3 x3_3 => o 3 (impl_readLog.S3 x0_3 l1_3 l2_3 x3_3)) k a0 := by kernel_rfl
theorem impl_readLog.ok : impl_readLog.T.ok = true := by kernel_rfl
theorem impl_readLog.run (k : Nat) : (∀ (x0_3 : ByteArray) (l1_3 : List (ByteArray × ByteArray)) (l2_3 : List Int) (x3_3 : Int), impl_readLog.T.run tyt impl_readLog.tbl k 3 (impl_readLog.S3 x0_3 l1_3 l2_3 x3_3) = impl_readLog.l3 k x0_3 l1_3 l2_3 x3_3) := by
  induction k with
  | zero => exact fun x0_3 l1_3 l2_3 x3_3 => rfl
  | succ k ih =>
    exact fun x0_3 l1_3 l2_3 x3_3 => by
      have q3 : (fun x0_3 l1_3 l2_3 x3_3 => impl_readLog.T.run tyt impl_readLog.tbl k 3 (impl_readLog.S3 x0_3 l1_3 l2_3 x3_3)) = impl_readLog.l3 k := by funext x0_3 l1_3 l2_3 x3_3; exact ih x0_3 l1_3 l2_3 x3_3
      exact (impl_readLog.e3 k (impl_readLog.T.run tyt impl_readLog.tbl k) x0_3 l1_3 l2_3 x3_3).trans (by rw [q3]; rfl)
theorem impl_readLog.tblok (k : Nat) : TblOk Go.Proofs.Tryd.prog (impl_readLog.tbl k) := TblOk.cons (impl_cutRecord.sound k) (TblOk.nil _)
theorem impl_readLog.sound (k : Nat) : Sound Go.Proofs.Tryd.prog 49 (impl_readLog.spec k) := by
  have h := fn_ok (F := impl_readLog.T) (tbl := impl_readLog.tbl) mixed tyok Go.Proofs.Tryd.func49 (by kernel_rfl) (c0 := bodyOf Go.Proofs.Tryd.f49) rfl (conv_code _ _ _) rfl rfl impl_readLog.ok k (fun j _ => impl_readLog.tblok j)
  have q3 : (fun x0_3 l1_3 l2_3 x3_3 => impl_readLog.T.run tyt impl_readLog.tbl k 3 (impl_readLog.S3 x0_3 l1_3 l2_3 x3_3)) = impl_readLog.l3 k := by funext x0_3 l1_3 l2_3 x3_3; exact (impl_readLog.run k) x0_3 l1_3 l2_3 x3_3
  have e : impl_readLog.spec k = ⟨impl_readLog.T.ps, impl_readLog.T.rs, impl_readLog.T.ev tyt impl_readLog.tbl k⟩ := congrArg (FnSpec.mk _ _) (funext fun x => ((impl_readLog.e k (impl_readLog.T.run tyt impl_readLog.tbl k) x).trans (by rw [q3]; rfl)).symm)
  rw [e]
  exact h
/-! ### impl_Log_records: function 51 -/
def impl_Log_records.b8 (o8 : ByteArray → ByteArray → Int → (List (ByteArray × ByteArray)) → Int → Bool → List Int → Int → Int → Option (List (ByteArray × ByteArray) × Bool)) (k : Nat) (x0_8 : ByteArray) (x1_8 : ByteArray) (x2_8 : Int) (l3_8 : List (ByteArray × ByteArray)) (x4_8 : Int) (x5_8 : Bool) (l6_8 : List Int) (x7_8 : Int) (x8_8 : Int) : Option (List (ByteArray × ByteArray) × Bool) := (if x8_8 < x7_8 then ((chk l6_8.length x8_8).bind fun i3 => (cond x5_8 (o8 x0_8 x1_8 x2_8 l3_8 (l6_8.getD i3 0) true l6_8 x7_8 (w64 (x8_8 + 1))) (o8 x0_8 x1_8 x2_8 l3_8 (l6_8.getD i3 0) (decide ((l6_8.getD i3 0) = (x0_8.size : Int))) l6_8 x7_8 (w64 (x8_8 + 1))))) else (cond x5_8 (if x4_8 = (w64 ((x0_8.size : Int) + (x1_8.size : Int))) then (some (l3_8, (decide (x2_8 = (l3_8.length : Int))))) else (some (l3_8, false))) (some (l3_8, false))))
def impl_Log_records.l8 : Nat → ByteArray → ByteArray → Int → (List (ByteArray × ByteArray)) → Int → Bool → List Int → Int → Int → Option (List (ByteArray × ByteArray) × Bool)
  | 0, _, _, _, _, _, _, _, _, _ => none
  | k + 1, x0_8, x1_8, x2_8, l3_8, x4_8, x5_8, l6_8, x7_8, x8_8 => impl_Log_records.b8 (impl_Log_records.l8 k) k x0_8 x1_8 x2_8 l3_8 x4_8 x5_8 l6_8 x7_8 x8_8
def impl_Log_records.m (o8 : ByteArray → ByteArray → Int → (List (ByteArray × ByteArray)) → Int → Bool → List Int → Int → Int → Option (List (ByteArray × ByteArray) × Bool)) (k : Nat) (a0_0 : ByteArray) (a0_1 : ByteArray) (a0_2 : Int) : Option (List (ByteArray × ByteArray) × Bool) := (if 30000 < (w64 ((a0_0.size : Int) + (a0_1.size : Int))) then (some ([], false)) else ((catS a0_0 a0_1).bind fun s1 => ((impl_readLog.f k s1).bind fun r2 => (o8 a0_0 a0_1 a0_2 r2.1 0 (decide (a0_0 = (⟨#[]⟩ : ByteArray))) r2.2 (r2.2.length : Int) 0))))
def impl_Log_records.f (k : Nat) (a0_0 : ByteArray) (a0_1 : ByteArray) (a0_2 : Int) : Option (List (ByteArray × ByteArray) × Bool) := impl_Log_records.m (impl_Log_records.l8 k) k a0_0 a0_1 a0_2
noncomputable def impl_Log_records.spec (k : Nat) : FnSpec := ⟨[.ag [.d .str none, .d .str none, .d (.int .i64) none]], [.d (.sl (.pair .str .str)) (some 27), .d .bool none], fun x => impl_Log_records.f k x.1 x.2.1 x.2.2⟩
def impl_Log_records.S8 (x0_8 : ByteArray) (x1_8 : ByteArray) (x2_8 : Int) (l3_8 : List (ByteArray × ByteArray)) (x4_8 : Int) (x5_8 : Bool) (l6_8 : List Int) (x7_8 : Int) (x8_8 : Int) : St := ⟨[(1, .ptr 100 0), (4, .ref 101), (6, .val (.int .i64) x4_8), (7, .val .bool x5_8), (30, .ref 102), (31, .val (.int .i64) x7_8), (32, .val (.int .i64) x8_8)], [(102, some (.row 3 (.int .i64) l6_8)), (101, some (.row 27 (.pair .str .str) l3_8)), (100, some (.box [.val .str x0_8, .val .str x1_8, .val (.int .i64) x2_8]))], 1000⟩
noncomputable def impl_Log_records.T : FnText := ⟨(conv [] (bodyOf Go.Proofs.Tryd.f51) 0).1, Go.Proofs.Tryd.f51.results.toList, 66, [(8, [(1, .bx 100 [.rd .str, .rd .str, .rd (.int .i64)]), (4, .own 27 (.pair .str .str) 101), (6, .rd (.int .i64)), (7, .rd .bool), (30, .own 3 (.int .i64) 102), (31, .rd (.int .i64)), (32, .rd (.int .i64))])], [.ag [.d .str none, .d .str none, .d (.int .i64) none]], [.d (.sl (.pair .str .str)) (some 27), .d .bool none]⟩
noncomputable def impl_Log_records.tbl (k : Nat) : Tbl := [(49, impl_readLog.spec k)]
theorem impl_Log_records.e8 (k : Nat) (o : Nat → St → Option (List (ByteArray × ByteArray) × Bool)) (x0_8 : ByteArray) (x1_8 : ByteArray) (x2_8 : Int) (l3_8 : List (ByteArray × ByteArray)) (x4_8 : Int) (x5_8 : Bool) (l6_8 : List Int) (x7_8 : Int) (x8_8 : Int) : impl_Log_records.T.step tyt (impl_Log_records.tbl k) o 8 (impl_Log_records.S8 x0_8 x1_8 x2_8 l3_8 x4_8 x5_8 l6_8 x7_8 x8_8) = impl_Log_records.b8 (fun x0_8 x1_8 x2_8 l3_8 x4_8 x5_8 l6_8 x7_8 x8_8 => o 8 (impl_Log_records.S8 x0_8 x1_8 x2_8 l3_8 x4_8 x5_8 l6_8 x7_8 x8_8)) k x0_8 x1_8 x2_8 l3_8 x4_8 x5_8 l6_8 x7_8 x8_8 := by kernel_rfl
theorem impl_Log_records.e (k : Nat) (o : Nat → St → Option (List (ByteArray × ByteArray) × Bool)) (a0_0 : ByteArray) (a0_1 : ByteArray) (a0_2 : Int) : impl_Log_records.T.main tyt (impl_Log_records.tbl k) o (a0_0, a0_1, a0_2) = impl_Log_records.m (fun x0_8 x1_8 x2_8 l3_8 x4_8 x5_8 l6_8 x7_8 x8_8 => o 8 (impl_Log_records.S8 x0_8 x1_8 x2_8 l3_8 x4_8 x5_8 l6_8 x7_8 x8_8)) k a0_0 a0_1 a0_2 := by kernel_rfl
theorem impl_Log_records.ok : impl_Log_records.T.ok = true := by kernel_rfl
theorem impl_Log_records.run (k : Nat) : (∀ (x0_8 : ByteArray) (x1_8 : ByteArray) (x2_8 : Int) (l3_8 : List (ByteArray × ByteArray)) (x4_8 : Int) (x5_8 : Bool) (l6_8 : List Int) (x7_8 : Int) (x8_8 : Int), impl_Log_records.T.run tyt impl_Log_records.tbl k 8 (impl_Log_records.S8 x0_8 x1_8 x2_8 l3_8 x4_8 x5_8 l6_8 x7_8 x8_8) = impl_Log_records.l8 k x0_8 x1_8 x2_8 l3_8 x4_8 x5_8 l6_8 x7_8 x8_8) := by
  induction k with
  | zero => exact fun x0_8 x1_8 x2_8 l3_8 x4_8 x5_8 l6_8 x7_8 x8_8 => rfl
  | succ k ih =>
    exact fun x0_8 x1_8 x2_8 l3_8 x4_8 x5_8 l6_8 x7_8 x8_8 => by
      have q8 : (fun x0_8 x1_8 x2_8 l3_8 x4_8 x5_8 l6_8 x7_8 x8_8 => impl_Log_records.T.run tyt impl_Log_records.tbl k 8 (impl_Log_records.S8 x0_8 x1_8 x2_8 l3_8 x4_8 x5_8 l6_8 x7_8 x8_8)) = impl_Log_records.l8 k := by funext x0_8 x1_8 x2_8 l3_8 x4_8 x5_8 l6_8 x7_8 x8_8; exact ih x0_8 x1_8 x2_8 l3_8 x4_8 x5_8 l6_8 x7_8 x8_8
      exact (impl_Log_records.e8 k (impl_Log_records.T.run tyt impl_Log_records.tbl k) x0_8 x1_8 x2_8 l3_8 x4_8 x5_8 l6_8 x7_8 x8_8).trans (by rw [q8]; rfl)
theorem impl_Log_records.tblok (k : Nat) : TblOk Go.Proofs.Tryd.prog (impl_Log_records.tbl k) := TblOk.cons (impl_readLog.sound k) (TblOk.nil _)
theorem impl_Log_records.sound (k : Nat) : Sound Go.Proofs.Tryd.prog 51 (impl_Log_records.spec k) := by
  have h := fn_ok (F := impl_Log_records.T) (tbl := impl_Log_records.tbl) mixed tyok Go.Proofs.Tryd.func51 (by kernel_rfl) (c0 := bodyOf Go.Proofs.Tryd.f51) rfl (conv_code _ _ _) rfl rfl impl_Log_records.ok k (fun j _ => impl_Log_records.tblok j)
  have q8 : (fun x0_8 x1_8 x2_8 l3_8 x4_8 x5_8 l6_8 x7_8 x8_8 => impl_Log_records.T.run tyt impl_Log_records.tbl k 8 (impl_Log_records.S8 x0_8 x1_8 x2_8 l3_8 x4_8 x5_8 l6_8 x7_8 x8_8)) = impl_Log_records.l8 k := by funext x0_8 x1_8 x2_8 l3_8 x4_8 x5_8 l6_8 x7_8 x8_8; exact (impl_Log_records.run k) x0_8 x1_8 x2_8 l3_8 x4_8 x5_8 l6_8 x7_8 x8_8
  have e : impl_Log_records.spec k = ⟨impl_Log_records.T.ps, impl_Log_records.T.rs, impl_Log_records.T.ev tyt impl_Log_records.tbl k⟩ := congrArg (FnSpec.mk _ _) (funext fun x => ((impl_Log_records.e k (impl_Log_records.T.run tyt impl_Log_records.tbl k) x.1 x.2.1 x.2.2).trans (by rw [q8]; rfl)).symm)
  rw [e]
  exact h
/-! ### impl_IsValidLog: function 23 -/
def impl_IsValidLog.m (k : Nat) (a0_0 : ByteArray) (a0_1 : ByteArray) (a0_2 : Int) : Option (Bool) := ((impl_Log_records.f k a0_0 a0_1 a0_2).bind fun r1 => (some r1.2))
def impl_IsValidLog.f (k : Nat) (a0_0 : ByteArray) (a0_1 : ByteArray) (a0_2 : Int) : Option (Bool) := impl_IsValidLog.m k a0_0 a0_1 a0_2
noncomputable def impl_IsValidLog.spec (k : Nat) : FnSpec := ⟨[.ag [.d .str none, .d .str none, .d (.int .i64) none]], [.d .bool none], fun x => impl_IsValidLog.f k x.1 x.2.1 x.2.2⟩
noncomputable def impl_IsValidLog.T : FnText := ⟨(conv [] (bodyOf Go.Proofs.Tryd.f23) 0).1, Go.Proofs.Tryd.f23.results.toList, 11, [], [.ag [.d .str none, .d .str none, .d (.int .i64) none]], [.d .bool none]⟩
noncomputable def impl_IsValidLog.tbl (k : Nat) : Tbl := [(51, impl_Log_records.spec k)]
theorem impl_IsValidLog.e (k : Nat) (o : Nat → St → Option (Bool)) (a0_0 : ByteArray) (a0_1 : ByteArray) (a0_2 : Int) : impl_IsValidLog.T.main tyt (impl_IsValidLog.tbl k) o (a0_0, a0_1, a0_2) = impl_IsValidLog.m k a0_0 a0_1 a0_2 := by kernel_rfl
theorem impl_IsValidLog.ok : impl_IsValidLog.T.ok = true := by kernel_rfl
theorem impl_IsValidLog.tblok (k : Nat) : TblOk Go.Proofs.Tryd.prog (impl_IsValidLog.tbl k) := TblOk.cons (impl_Log_records.sound k) (TblOk.nil _)
theorem impl_IsValidLog.sound (k : Nat) : Sound Go.Proofs.Tryd.prog 23 (impl_IsValidLog.spec k) := by
  have h := fn_ok (F := impl_IsValidLog.T) (tbl := impl_IsValidLog.tbl) mixed tyok Go.Proofs.Tryd.func23 (by kernel_rfl) (c0 := bodyOf Go.Proofs.Tryd.f23) rfl (conv_code _ _ _) rfl rfl impl_IsValidLog.ok k (fun j _ => impl_IsValidLog.tblok j)
  have e : impl_IsValidLog.spec k = ⟨impl_IsValidLog.T.ps, impl_IsValidLog.T.rs, impl_IsValidLog.T.ev tyt impl_IsValidLog.tbl k⟩ := congrArg (FnSpec.mk _ _) (funext fun x => ((impl_IsValidLog.e k (impl_IsValidLog.T.run tyt impl_IsValidLog.tbl k) x.1 x.2.1 x.2.2).trans (by rfl)).symm)
  rw [e]
  exact h
/-! ### impl_CrashLog: function 25 -/
def impl_CrashLog.m (k : Nat) (a0_0 : ByteArray) (a0_1 : ByteArray) (a0_2 : Int) (a1 : Int) (a2 : Bool) : Option (ByteArray × Bool) := ((impl_IsValidLog.f k a0_0 a0_1 a0_2).bind fun r1 => (cond (!r1) (some ((⟨#[]⟩ : ByteArray), false)) ((impl_in.f k a1 0 (a0_1.size : Int)).bind fun r2 => (cond (!r2) (some ((⟨#[]⟩ : ByteArray), false)) ((cutTo a0_1.size a1).bind fun m4 => (cond a2 (if 0 < a1 then ((chk (bytesOf (a0_1.extract 0 m4)).length (w64 (a1 - 1))).bind fun i5 => ((chk (bytesOf (a0_1.extract 0 m4)).length (w64 (a1 - 1))).bind fun i6 => ((catS a0_0 (ofBytes ((bytesOf (a0_1.extract 0 m4)).set i6 (IntKind.u8.wrap (255 - ((bytesOf (a0_1.extract 0 m4)).getD i5 0)))))).bind fun s7 => (some (s7, true))))) else ((catS a0_0 (ofBytes (bytesOf (a0_1.extract 0 m4)))).bind fun s8 => (some (s8, true)))) ((catS a0_0 (ofBytes (bytesOf (a0_1.extract 0 m4)))).bind fun s9 => (some (s9, true)))))))))
def impl_CrashLog.f (k : Nat) (a0_0 : ByteArray) (a0_1 : ByteArray) (a0_2 : Int) (a1 : Int) (a2 : Bool) : Option (ByteArray × Bool) := impl_CrashLog.m k a0_0 a0_1 a0_2 a1 a2
noncomputable def impl_CrashLog.spec (k : Nat) : FnSpec := ⟨[.ag [.d .str none, .d .str none, .d (.int .i64) none], .d (.int .i64) none, .d .bool none], [.d .str none, .d .bool none], fun x => impl_CrashLog.f k x.1 x.2.1 x.2.2.1 x.2.2.2.1 x.2.2.2.2⟩
noncomputable def impl_CrashLog.T : FnText := ⟨(conv [] (bodyOf Go.Proofs.Tryd.f25) 0).1, Go.Proofs.Tryd.f25.results.toList, 45, [], [.ag [.d .str none, .d .str none, .d (.int .i64) none], .d (.int .i64) none, .d .bool none], [.d .str none, .d .bool none]⟩
noncomputable def impl_CrashLog.tbl (k : Nat) : Tbl := [(23, impl_IsValidLog.spec k), (45, impl_in.spec k)]
theorem impl_CrashLog.e (k : Nat) (o : Nat → St → Option (ByteArray × Bool)) (a0_0 : ByteArray) (a0_1 : ByteArray) (a0_2 : Int) (a1 : Int) (a2 : Bool) : impl_CrashLog.T.main tytB53 (impl_CrashLog.tbl k) o (a0_0, a0_1, a0_2, a1, a2) = impl_CrashLog.m k a0_0 a0_1 a0_2 a1 a2 := by kernel_rfl
theorem impl_CrashLog.ok : impl_CrashLog.T.ok = true := by kernel_rfl
theorem impl_CrashLog.tblok (k : Nat) : TblOk Go.Proofs.Tryd.prog (impl_CrashLog.tbl k) := TblOk.cons (impl_IsValidLog.sound k) (TblOk.cons (impl_in.sound k) (TblOk.nil _))
theorem impl_CrashLog.sound (k : Nat) : Sound Go.Proofs.Tryd.prog 25 (impl_CrashLog.spec k) := by
  have h := fn_ok (F := impl_CrashLog.T) (tbl := impl_CrashLog.tbl) mixed tyokB53 Go.Proofs.Tryd.func25 (by kernel_rfl) (c0 := bodyOf Go.Proofs.Tryd.f25) rfl (conv_code _ _ _) rfl rfl impl_CrashLog.ok k (fun j _ => impl_CrashLog.tblok j)
  have e : impl_CrashLog.spec k = ⟨impl_CrashLog.T.ps, impl_CrashLog.T.rs, impl_CrashLog.T.ev tytB53 impl_CrashLog.tbl k⟩ := congrArg (FnSpec.mk _ _) (funext fun x => ((impl_CrashLog.e k (impl_CrashLog.T.run tytB53 impl_CrashLog.tbl k) x.1 x.2.1 x.2.2.1 x.2.2.2.1 x.2.2.2.2).trans (by rfl)).symm)
  rw [e]
  exact h
/-! ### spec_CrashLog: function 24 -/
def spec_CrashLog.m (k : Nat) (a0_0 : ByteArray) (a0_1 : ByteArray) (a0_2 : Int) (a1 : Int) (a2 : Bool) : Option (ByteArray × Bool) := ((spec_l27Log.f k a0_0 a0_1 a0_2).bind fun r1 => (cond (!r1) (some ((⟨#[]⟩ : ByteArray), false)) ((spec_l1In.f k a1 0 (a0_1.size : Int)).bind fun r2 => (cond (!r2) (some ((⟨#[]⟩ : ByteArray), false)) ((cutTo a0_1.size a1).bind fun m4 => (cond a2 (if 0 < a1 then ((chk (bytesOf (a0_1.extract 0 m4)).length (w64 (a1 - 1))).bind fun i5 => ((chk (bytesOf (a0_1.extract 0 m4)).length (w64 (a1 - 1))).bind fun i6 => ((catS a0_0 (ofBytes ((bytesOf (a0_1.extract 0 m4)).set i6 (IntKind.u8.wrap (255 - ((bytesOf (a0_1.extract 0 m4)).getD i5 0)))))).bind fun s7 => (some (s7, true))))) else ((catS a0_0 (ofBytes (bytesOf (a0_1.extract 0 m4)))).bind fun s8 => (some (s8, true)))) ((catS a0_0 (ofBytes (bytesOf (a0_1.extract 0 m4)))).bind fun s9 => (some (s9, true)))))))))
def spec_CrashLog.f (k : Nat) (a0_0 : ByteArray) (a0_1 : ByteArray) (a0_2 : Int) (a1 : Int) (a2 : Bool) : Option (ByteArray × Bool) := spec_CrashLog.m k a0_0 a0_1 a0_2 a1 a2
noncomputable def spec_CrashLog.spec (k : Nat) : FnSpec := ⟨[.ag [.d .str none, .d .str none, .d (.int .i64) none], .d (.int .i64) none, .d .bool none], [.d .str none, .d .bool none], fun x => spec_CrashLog.f k x.1 x.2.1 x.2.2.1 x.2.2.2.1 x.2.2.2.2⟩
noncomputable def spec_CrashLog.T : FnText := ⟨(conv [] (bodyOf Go.Proofs.Tryd.f24) 0).1, Go.Proofs.Tryd.f24.results.toList, 45, [], [.ag [.d .str none, .d .str none, .d (.int .i64) none], .d (.int .i64) none, .d .bool none], [.d .str none, .d .bool none]⟩
noncomputable def spec_CrashLog.tbl (k : Nat) : Tbl := [(50, spec_l27Log.spec k), (42, spec_l1In.spec k)]
theorem spec_CrashLog.e (k : Nat) (o : Nat → St → Option (ByteArray × Bool)) (a0_0 : ByteArray) (a0_1 : ByteArray) (a0_2 : Int) (a1 : Int) (a2 : Bool) : spec_CrashLog.T.main tytB53 (spec_CrashLog.tbl k) o (a0_0, a0_1, a0_2, a1, a2) = spec_CrashLog.m k a0_0 a0_1 a0_2 a1 a2 := by kernel_rfl
theorem spec_CrashLog.ok : spec_CrashLog.T.ok = true := by kernel_rfl
theorem spec_CrashLog.tblok (k : Nat) : TblOk Go.Proofs.Tryd.prog (spec_CrashLog.tbl k) := TblOk.cons (spec_l27Log.sound k) (TblOk.cons (spec_l1In.sound k) (TblOk.nil _))
theorem spec_CrashLog.sound (k : Nat) : Sound Go.Proofs.Tryd.prog 24 (spec_CrashLog.spec k) := by
  have h := fn_ok (F := spec_CrashLog.T) (tbl := spec_CrashLog.tbl) mixed tyokB53 Go.Proofs.Tryd.func24 (by kernel_rfl) (c0 := bodyOf Go.Proofs.Tryd.f24) rfl (conv_code _ _ _) rfl rfl spec_CrashLog.ok k (fun j _ => spec_CrashLog.tblok j)
  have e : spec_CrashLog.spec k = ⟨spec_CrashLog.T.ps, spec_CrashLog.T.rs, spec_CrashLog.T.ev tytB53 spec_CrashLog.tbl k⟩ := congrArg (FnSpec.mk _ _) (funext fun x => ((spec_CrashLog.e k (spec_CrashLog.T.run tytB53 spec_CrashLog.tbl k) x.1 x.2.1 x.2.2.1 x.2.2.2.1 x.2.2.2.2).trans (by rfl)).symm)
  rw [e]
  exact h
/-! ### impl_RecoverLog: function 18 -/
def impl_RecoverLog.b6 (k : Nat) (x0_6 : ByteArray) (x1_6 : ByteArray) (x2_6 : ByteArray) (x3_6 : Int) (l4_6 : List (ByteArray × ByteArray)) (x5_6 : Int) : Option (ByteArray × ByteArray × Int × Int × Bool) := ((cutTo x0_6.size x5_6).bind fun m4 => (some ((x0_6.extract 0 m4), ByteArray.empty, (l4_6.length : Int), x5_6, true)))
def impl_RecoverLog.l6 : Nat → ByteArray → ByteArray → ByteArray → Int → (List (ByteArray × ByteArray)) → Int → Option (ByteArray × ByteArray × Int × Int × Bool)
  | 0, _, _, _, _, _, _ => none
  | k + 1, x0_6, x1_6, x2_6, x3_6, l4_6, x5_6 => impl_RecoverLog.b6 k x0_6 x1_6 x2_6 x3_6 l4_6 x5_6
def impl_RecoverLog.m (o6 : ByteArray → ByteArray → ByteArray → Int → (List (ByteArray × ByteArray)) → Int → Option (ByteArray × ByteArray × Int × Int × Bool)) (k : Nat) (a0 : ByteArray) : Option (ByteArray × ByteArray × Int × Int × Bool) := (if 30000 < (a0.size : Int) then (some (ByteArray.empty, ByteArray.empty, 0, 0, false)) else ((impl_readLog.f k a0).bind fun r1 => (if 0 < (r1.2.length : Int) then ((chk r1.2.length (w64 ((r1.2.length : Int) - 1))).bind fun i2 => (o6 a0 ByteArray.empty ByteArray.empty 0 r1.1 (r1.2.getD i2 0))) else (o6 a0 ByteArray.empty ByteArray.empty 0 r1.1 0))))
def impl_RecoverLog.f (k : Nat) (a0 : ByteArray) : Option (ByteArray × ByteArray × Int × Int × Bool) := impl_RecoverLog.m (impl_RecoverLog.l6 k) k a0
noncomputable def impl_RecoverLog.spec (k : Nat) : FnSpec := ⟨[.d .str none], [.ag [.d .str none, .d .str none, .d (.int .i64) none], .d (.int .i64) none, .d .bool none], fun x => impl_RecoverLog.f k x⟩
def impl_RecoverLog.S6 (x0_6 : ByteArray) (x1_6 : ByteArray) (x2_6 : ByteArray) (x3_6 : Int) (l4_6 : List (ByteArray × ByteArray)) (x5_6 : Int) : St := ⟨[(0, .val .str x0_6), (2, .ptr 100 0), (5, .ref 101), (7, .val (.int .i64) x5_6)], [(101, some (.row 27 (.pair .str .str) l4_6)), (100, some (.box [.val .str x1_6, .val .str x2_6, .val (.int .i64) x3_6]))], 1000⟩
noncomputable def impl_RecoverLog.T : FnText := ⟨(conv [6] (bodyOf Go.Proofs.Tryd.f18) 0).1, Go.Proofs.Tryd.f18.results.toList, 33, [(6, [(0, .rd .str), (2, .bx 100 [.rd .str, .rd .str, .rd (.int .i64)]), (5, .own 27 (.pair .str .str) 101), (7, .rd (.int .i64))])], [.d .str none], [.ag [.d .str none, .d .str none, .d (.int .i64) none], .d (.int .i64) none, .d .bool none]⟩
noncomputable def impl_RecoverLog.tbl (k : Nat) : Tbl := [(49, impl_readLog.spec k)]
theorem impl_RecoverLog.e6 (k : Nat) (o : Nat → St → Option (ByteArray × ByteArray × Int × Int × Bool)) (x0_6 : ByteArray) (x1_6 : ByteArray) (x2_6 : ByteArray) (x3_6 : Int) (l4_6 : List (ByteArray × ByteArray)) (x5_6 : Int) : impl_RecoverLog.T.step tyt (impl_RecoverLog.tbl k) o 6 (impl_RecoverLog.S6 x0_6 x1_6 x2_6 x3_6 l4_6 x5_6) = impl_RecoverLog.b6 k x0_6 x1_6 x2_6 x3_6 l4_6 x5_6 := by kernel_rfl
theorem impl_RecoverLog.e (k : Nat) (o : Nat → St → Option (ByteArray × ByteArray × Int × Int × Bool)) (a0 : ByteArray) : impl_RecoverLog.T.main tyt (impl_RecoverLog.tbl k) o a0 = impl_RecoverLog.m (fun x0_6 x1_6 x2_6 x3_6 l4_6 x5_6 => o 6 (impl_RecoverLog.S6 x0_6 x1_6 x2_6 x3_6 l4_6 x5_6)) k a0 := by kernel_rfl
theorem impl_RecoverLog.ok : impl_RecoverLog.T.ok = true := by kernel_rfl
theorem impl_RecoverLog.run (k : Nat) : (∀ (x0_6 : ByteArray) (x1_6 : ByteArray) (x2_6 : ByteArray) (x3_6 : Int) (l4_6 : List (ByteArray × ByteArray)) (x5_6 : Int), impl_RecoverLog.T.run tyt impl_RecoverLog.tbl k 6 (impl_RecoverLog.S6 x0_6 x1_6 x2_6 x3_6 l4_6 x5_6) = impl_RecoverLog.l6 k x0_6 x1_6 x2_6 x3_6 l4_6 x5_6) := by
  induction k with
  | zero => exact fun x0_6 x1_6 x2_6 x3_6 l4_6 x5_6 => rfl
  | succ k ih =>
    exact fun x0_6 x1_6 x2_6 x3_6 l4_6 x5_6 => by
      exact (impl_RecoverLog.e6 k (impl_RecoverLog.T.run tyt impl_RecoverLog.tbl k) x0_6 x1_6 x2_6 x3_6 l4_6 x5_6).trans (by rfl)
theorem impl_RecoverLog.tblok (k : Nat) : TblOk Go.Proofs.Tryd.prog (impl_RecoverLog.tbl k) := TblOk.cons (impl_readLog.sound k) (TblOk.nil _)
theorem impl_RecoverLog.sound (k : Nat) : Sound Go.Proofs.Tryd.prog 18 (impl_RecoverLog.spec k) := by
  have h := fn_ok (F := impl_RecoverLog.T) (tbl := impl_RecoverLog.tbl) mixed tyok Go.Proofs.Tryd.func18 (by kernel_rfl) (c0 := bodyOf Go.Proofs.Tryd.f18) rfl (conv_code _ _ _) rfl rfl impl_RecoverLog.ok k (fun j _ => impl_RecoverLog.tblok j)
  have q6 : (fun x0_6 x1_6 x2_6 x3_6 l4_6 x5_6 => impl_RecoverLog.T.run tyt impl_RecoverLog.tbl k 6 (impl_RecoverLog.S6 x0_6 x1_6 x2_6 x3_6 l4_6 x5_6)) = impl_RecoverLog.l6 k := by funext x0_6 x1_6 x2_6 x3_6 l4_6 x5_6; exact (impl_RecoverLog.run k) x0_6 x1_6 x2_6 x3_6 l4_6 x5_6
  have e : impl_RecoverLog.spec k = ⟨impl_RecoverLog.T.ps, impl_RecoverLog.T.rs, impl_RecoverLog.T.ev tyt impl_RecoverLog.tbl k⟩ := congrArg (FnSpec.mk _ _) (funext fun x => ((impl_RecoverLog.e k (impl_RecoverLog.T.run tyt impl_RecoverLog.tbl k) x).trans (by rw [q6]; rfl)).symm)
  rw [e]
  exact h
/-! ### impl_LogRecords: function 31 -/
def impl_LogRecords.m (k : Nat) (a0_0 : ByteArray) (a0_1 : ByteArray) (a0_2 : Int) : Option (List (ByteArray × ByteArray) × Bool) := ((impl_Log_records.f k a0_0 a0_1 a0_2).bind fun r1 => (cond (!r1.2) (some ([], false)) (some (r1.1, true))))
def impl_LogRecords.f (k : Nat) (a0_0 : ByteArray) (a0_1 : ByteArray) (a0_2 : Int) : Option (List (ByteArray × ByteArray) × Bool) := impl_LogRecords.m k a0_0 a0_1 a0_2
noncomputable def impl_LogRecords.spec (k : Nat) : FnSpec := ⟨[.ag [.d .str none, .d .str none, .d (.int .i64) none]], [.d (.sl (.pair .str .str)) (some 27), .d .bool none], fun x => impl_LogRecords.f k x.1 x.2.1 x.2.2⟩
noncomputable def impl_LogRecords.T : FnText := ⟨(conv [] (bodyOf Go.Proofs.Tryd.f31) 0).1, Go.Proofs.Tryd.f31.results.toList, 14, [], [.ag [.d .str none, .d .str none, .d (.int .i64) none]], [.d (.sl (.pair .str .str)) (some 27), .d .bool none]⟩
noncomputable def impl_LogRecords.tbl (k : Nat) : Tbl := [(51, impl_Log_records.spec k)]
theorem impl_LogRecords.e (k : Nat) (o : Nat → St → Option (List (ByteArray × ByteArray) × Bool)) (a0_0 : ByteArray) (a0_1 : ByteArray) (a0_2 : Int) : impl_LogRecords.T.main tyt (impl_LogRecords.tbl k) o (a0_0, a0_1, a0_2) = impl_LogRecords.m k a0_0 a0_1 a0_2 := by kernel_rfl
theorem impl_LogRecords.ok : impl_LogRecords.T.ok = true := by kernel_rfl
theorem impl_LogRecords.tblok (k : Nat) : TblOk Go.Proofs.Tryd.prog (impl_LogRecords.tbl k) := TblOk.cons (impl_Log_records.sound k) (TblOk.nil _)
theorem impl_LogRecords.sound (k : Nat) : Sound Go.Proofs.Tryd.prog 31 (impl_LogRecords.spec k) := by
  have h := fn_ok (F := impl_LogRecords.T) (tbl := impl_LogRecords.tbl) mixed tyok Go.Proofs.Tryd.func31 (by kernel_rfl) (c0 := bodyOf Go.Proofs.Tryd.f31) rfl (conv_code _ _ _) rfl rfl impl_LogRecords.ok k (fun j _ => impl_LogRecords.tblok j)
  have e : impl_LogRecords.spec k = ⟨impl_LogRecords.T.ps, impl_LogRecords.T.rs, impl_LogRecords.T.ev tyt impl_LogRecords.tbl k⟩ := congrArg (FnSpec.mk _ _) (funext fun x => ((impl_LogRecords.e k (impl_LogRecords.T.run tyt impl_LogRecords.tbl k) x.1 x.2.1 x.2.2).trans (by rfl)).symm)
  rw [e]
  exact h
/-! ### spec_LogRecords: function 30 -/
def spec_LogRecords.m (k : Nat) (a0_0 : ByteArray) (a0_1 : ByteArray) (a0_2 : Int) : Option (List (ByteArray × ByteArray) × Bool) := ((spec_l27Log.f k a0_0 a0_1 a0_2).bind fun r1 => (cond (!r1) (some (([] : List (ByteArray × ByteArray)), false)) ((catS a0_0 a0_1).bind fun s2 => ((spec_l27Open.f k s2).bind fun r3 => (some (r3.1, true))))))
def spec_LogRecords.f (k : Nat) (a0_0 : ByteArray) (a0_1 : ByteArray) (a0_2 : Int) : Option (List (ByteArray × ByteArray) × Bool) := spec_LogRecords.m k a0_0 a0_1 a0_2
noncomputable def spec_LogRecords.spec (k : Nat) : FnSpec := ⟨[.ag [.d .str none, .d .str none, .d (.int .i64) none]], [.d (.sl (.pair .str .str)) (some 27), .d .bool none], fun x => spec_LogRecords.f k x.1 x.2.1 x.2.2⟩
noncomputable def spec_LogRecords.T : FnText := ⟨(conv [] (bodyOf Go.Proofs.Tryd.f30) 0).1, Go.Proofs.Tryd.f30.results.toList, 20, [], [.ag [.d .str none, .d .str none, .d (.int .i64) none]], [.d (.sl (.pair .str .str)) (some 27), .d .bool none]⟩
noncomputable def spec_LogRecords.tbl (k : Nat) : Tbl := [(50, spec_l27Log.spec k), (48, spec_l27Open.spec k)]
theorem spec_LogRecords.e (k : Nat) (o : Nat → St → Option (List (ByteArray × ByteArray) × Bool)) (a0_0 : ByteArray) (a0_1 : ByteArray) (a0_2 : Int) : spec_LogRecords.T.main tyt (spec_LogRecords.tbl k) o (a0_0, a0_1, a0_2) = spec_LogRecords.m k a0_0 a0_1 a0_2 := by kernel_rfl
theorem spec_LogRecords.ok : spec_LogRecords.T.ok = true := by kernel_rfl
theorem spec_LogRecords.tblok (k : Nat) : TblOk Go.Proofs.Tryd.prog (spec_LogRecords.tbl k) := TblOk.cons (spec_l27Log.sound k) (TblOk.cons (spec_l27Open.sound k) (TblOk.nil _))
theorem spec_LogRecords.sound (k : Nat) : Sound Go.Proofs.Tryd.prog 30 (spec_LogRecords.spec k) := by
  have h := fn_ok (F := spec_LogRecords.T) (tbl := spec_LogRecords.tbl) mixed tyok Go.Proofs.Tryd.func30 (by kernel_rfl) (c0 := bodyOf Go.Proofs.Tryd.f30) rfl (conv_code _ _ _) rfl rfl spec_LogRecords.ok k (fun j _ => spec_LogRecords.tblok j)
  have e : spec_LogRecords.spec k = ⟨spec_LogRecords.T.ps, spec_LogRecords.T.rs, spec_LogRecords.T.ev tyt spec_LogRecords.tbl k⟩ := congrArg (FnSpec.mk _ _) (funext fun x => ((spec_LogRecords.e k (spec_LogRecords.T.run tyt spec_LogRecords.tbl k) x.1 x.2.1 x.2.2).trans (by rfl)).symm)
  rw [e]
  exact h
/-! ### laws_FnCrashRecovery: function 12 -/
def laws_FnCrashRecovery.b21 (o21 : ByteArray → ByteArray → ByteArray → Int → Int → (List (ByteArray × ByteArray)) → (List (ByteArray × ByteArray)) → Int → Option (Bool)) (k : Nat) (x0_21 : ByteArray) (x1_21 : ByteArray) (x2_21 : ByteArray) (x3_21 : Int) (x4_21 : Int) (l5_21 : List (ByteArray × ByteArray)) (l6_21 : List (ByteArray × ByteArray)) (x7_21 : Int) : Option (Bool) := (if x7_21 < (l5_21.length : Int) then ((chk l5_21.length x7_21).bind fun i8 => ((chk l6_21.length x7_21).bind fun i9 => (if ¬ (((l5_21.getD i8 (ByteArray.empty, ByteArray.empty)).1) = ((l6_21.getD i9 (ByteArray.empty, ByteArray.empty)).1) ∧ (((l5_21.getD i8 (ByteArray.empty, ByteArray.empty)).2) = ((l6_21.getD i9 (ByteArray.empty, ByteArray.empty)).2) ∧ True)) then (some false) else (o21 x0_21 x1_21 x2_21 x3_21 x4_21 l5_21 l6_21 (w64 (x7_21 + 1)))))) else ((impl_IsValidLog.f k x1_21 x2_21 x3_21).bind fun r10 => (cond r10 ((cutTo x0_21.size x4_21).bind fun m12 => (some (decide (x1_21 = (x0_21.extract 0 m12))))) (some false))))
def laws_FnCrashRecovery.l21 : Nat → ByteArray → ByteArray → ByteArray → Int → Int → (List (ByteArray × ByteArray)) → (List (ByteArray × ByteArray)) → Int → Option (Bool)
  | 0, _, _, _, _, _, _, _, _ => none
  | k + 1, x0_21, x1_21, x2_21, x3_21, x4_21, l5_21, l6_21, x7_21 => laws_FnCrashRecovery.b21 (laws_FnCrashRecovery.l21 k) k x0_21 x1_21 x2_21 x3_21 x4_21 l5_21 l6_21 x7_21
def laws_FnCrashRecovery.m (o21 : ByteArray → ByteArray → ByteArray → Int → Int → (List (ByteArray × ByteArray)) → (List (ByteArray × ByteArray)) → Int → Option (Bool)) (k : Nat) (l0 : List Int) : Option (Bool) := ((laws_vBig.f k l0).bind fun r1 => (cond r1 (some true) ((spec_DrawCrashLog.f k l0).bind fun r2 => ((impl_CrashLog.f k r2.1 r2.2.1 r2.2.2.1 r2.2.2.2.1 r2.2.2.2.2).bind fun r3 => ((spec_CrashLog.f k r2.1 r2.2.1 r2.2.2.1 r2.2.2.2.1 r2.2.2.2.2).bind fun r4 => (if ¬ r3.1 = r4.1 then (some false) else (if ¬ r3.2 = r4.2 then (some false) else (cond (!r3.2) (some (decide (r3.1 = (⟨#[]⟩ : ByteArray)))) ((impl_RecoverLog.f k r3.1).bind fun r5 => ((impl_LogRecords.f k r5.1 r5.2.1 r5.2.2.1).bind fun r6 => ((spec_LogRecords.f k r2.1 r2.2.1 r2.2.2.1).bind fun r7 => (cond (!r5.2.2.2.2) (some false) (if (r3.1.size : Int) < r5.2.2.2.1 then (some false) else (if r5.2.2.2.1 < (r2.1.size : Int) then (some false) else (if (r7.1.length : Int) < (r6.1.length : Int) then (some false) else (o21 r3.1 r5.1 r5.2.1 r5.2.2.1 r5.2.2.2.1 r6.1 r7.1 0))))))))))))))))
def laws_FnCrashRecovery.f (k : Nat) (l0 : List Int) : Option (Bool) := laws_FnCrashRecovery.m (laws_FnCrashRecovery.l21 k) k l0
noncomputable def laws_FnCrashRecovery.spec (k : Nat) : FnSpec := ⟨[.d (.sl (.int .u8)) none], [.d .bool none], fun x => laws_FnCrashRecovery.f k x⟩
def laws_FnCrashRecovery.S21 (x0_21 : ByteArray) (x1_21 : ByteArray) (x2_21 : ByteArray) (x3_21 : Int) (x4_21 : Int) (l5_21 : List (ByteArray × ByteArray)) (l6_21 : List (ByteArray × ByteArray)) (x7_21 : Int) : St := ⟨[(6, .val .str x0_21), (10, .ptr 100 0), (11, .val (.int .i64) x4_21), (13, .ref 101), (15, .ref 102), (17, .val (.int .i64) x7_21)], [(102, some (.row 27 (.pair .str .str) l6_21)), (101, some (.row 27 (.pair .str .str) l5_21)), (100, some (.box [.val .str x1_21, .val .str x2_21, .val (.int .i64) x3_21]))], 1000⟩
noncomputable def laws_FnCrashRecovery.T : FnText := ⟨(conv [] (bodyOf Go.Proofs.Tryd.f12) 0).1, Go.Proofs.Tryd.f12.results.toList, 115, [(21, [(6, .rd .str), (10, .bx 100 [.rd .str, .rd .str, .rd (.int .i64)]), (11, .rd (.int .i64)), (13, .own 27 (.pair .str .str) 101), (15, .own 27 (.pair .str .str) 102), (17, .rd (.int .i64))])], [.d (.sl (.int .u8)) none], [.d .bool none]⟩
noncomputable def laws_FnCrashRecovery.tbl (k : Nat) : Tbl := [(35, laws_vBig.spec k), (41, spec_DrawCrashLog.spec k), (25, impl_CrashLog.spec k), (24, spec_CrashLog.spec k), (18, impl_RecoverLog.spec k), (31, impl_LogRecords.spec k), (30, spec_LogRecords.spec k), (23, impl_IsValidLog.spec k)]
theorem laws_FnCrashRecovery.e21 (k : Nat) (o : Nat → St → Option (Bool)) (x0_21 : ByteArray) (x1_21 : ByteArray) (x2_21 : ByteArray) (x3_21 : Int) (x4_21 : Int) (l5_21 : List (ByteArray × ByteArray)) (l6_21 : List (ByteArray × ByteArray)) (x7_21 : Int) : laws_FnCrashRecovery.T.step tyt (laws_FnCrashRecovery.tbl k) o 21 (laws_FnCrashRecovery.S21 x0_21 x1_21 x2_21 x3_21 x4_21 l5_21 l6_21 x7_21) = laws_FnCrashRecovery.b21 (fun x0_21 x1_21 x2_21 x3_21 x4_21 l5_21 l6_21 x7_21 => o 21 (laws_FnCrashRecovery.S21 x0_21 x1_21 x2_21 x3_21 x4_21 l5_21 l6_21 x7_21)) k x0_21 x1_21 x2_21 x3_21 x4_21 l5_21 l6_21 x7_21 := by kernel_rfl
theorem laws_FnCrashRecovery.e (k : Nat) (o : Nat → St → Option (Bool)) (l0 : List Int) : laws_FnCrashRecovery.T.main tyt (laws_FnCrashRecovery.tbl k) o l0 = laws_FnCrashRecovery.m (fun x0_21 x1_21 x2_21 x3_21 x4_21 l5_21 l6_21 x7_21 => o 21 (laws_FnCrashRecovery.S21 x0_21 x1_21 x2_21 x3_21 x4_21 l5_21 l6_21 x7_21)) k l0 := by kernel_rfl
theorem laws_FnCrashRecovery.ok : laws_FnCrashRecovery.T.ok = true := by kernel_rfl
theorem laws_FnCrashRecovery.run (k : Nat) : (∀ (x0_21 : ByteArray) (x1_21 : ByteArray) (x2_21 : ByteArray) (x3_21 : Int) (x4_21 : Int) (l5_21 : List (ByteArray × ByteArray)) (l6_21 : List (ByteArray × ByteArray)) (x7_21 : Int), laws_FnCrashRecovery.T.run tyt laws_FnCrashRecovery.tbl k 21 (laws_FnCrashRecovery.S21 x0_21 x1_21 x2_21 x3_21 x4_21 l5_21 l6_21 x7_21) = laws_FnCrashRecovery.l21 k x0_21 x1_21 x2_21 x3_21 x4_21 l5_21 l6_21 x7_21) := by
  induction k with
  | zero => exact fun x0_21 x1_21 x2_21 x3_21 x4_21 l5_21 l6_21 x7_21 => rfl
  | succ k ih =>
    exact fun x0_21 x1_21 x2_21 x3_21 x4_21 l5_21 l6_21 x7_21 => by
      have q21 : (fun x0_21 x1_21 x2_21 x3_21 x4_21 l5_21 l6_21 x7_21 => laws_FnCrashRecovery.T.run tyt laws_FnCrashRecovery.tbl k 21 (laws_FnCrashRecovery.S21 x0_21 x1_21 x2_21 x3_21 x4_21 l5_21 l6_21 x7_21)) = laws_FnCrashRecovery.l21 k := by funext x0_21 x1_21 x2_21 x3_21 x4_21 l5_21 l6_21 x7_21; exact ih x0_21 x1_21 x2_21 x3_21 x4_21 l5_21 l6_21 x7_21
      exact (laws_FnCrashRecovery.e21 k (laws_FnCrashRecovery.T.run tyt laws_FnCrashRecovery.tbl k) x0_21 x1_21 x2_21 x3_21 x4_21 l5_21 l6_21 x7_21).trans (by rw [q21]; rfl)
theorem laws_FnCrashRecovery.tblok (k : Nat) : TblOk Go.Proofs.Tryd.prog (laws_FnCrashRecovery.tbl k) := TblOk.cons (laws_vBig.sound k) (TblOk.cons (spec_DrawCrashLog.sound k) (TblOk.cons (impl_CrashLog.sound k) (TblOk.cons (spec_CrashLog.sound k) (TblOk.cons (impl_RecoverLog.sound k) (TblOk.cons (impl_LogRecords.sound k) (TblOk.cons (spec_LogRecords.sound k) (TblOk.cons (impl_IsValidLog.sound k) (TblOk.nil _))))))))
theorem laws_FnCrashRecovery.sound (k : Nat) : Sound Go.Proofs.Tryd.prog 12 (laws_FnCrashRecovery.spec k) := by
  have h := fn_ok (F := laws_FnCrashRecovery.T) (tbl := laws_FnCrashRecovery.tbl) mixed tyok Go.Proofs.Tryd.func12 (by kernel_rfl) (c0 := bodyOf Go.Proofs.Tryd.f12) rfl (conv_code _ _ _) rfl rfl laws_FnCrashRecovery.ok k (fun j _ => laws_FnCrashRecovery.tblok j)
  have q21 : (fun x0_21 x1_21 x2_21 x3_21 x4_21 l5_21 l6_21 x7_21 => laws_FnCrashRecovery.T.run tyt laws_FnCrashRecovery.tbl k 21 (laws_FnCrashRecovery.S21 x0_21 x1_21 x2_21 x3_21 x4_21 l5_21 l6_21 x7_21)) = laws_FnCrashRecovery.l21 k := by funext x0_21 x1_21 x2_21 x3_21 x4_21 l5_21 l6_21 x7_21; exact (laws_FnCrashRecovery.run k) x0_21 x1_21 x2_21 x3_21 x4_21 l5_21 l6_21 x7_21
  have e : laws_FnCrashRecovery.spec k = ⟨laws_FnCrashRecovery.T.ps, laws_FnCrashRecovery.T.rs, laws_FnCrashRecovery.T.ev tyt laws_FnCrashRecovery.tbl k⟩ := congrArg (FnSpec.mk _ _) (funext fun x => ((laws_FnCrashRecovery.e k (laws_FnCrashRecovery.T.run tyt laws_FnCrashRecovery.tbl k) x).trans (by rw [q21]; rfl)).symm)
  rw [e]
  exact h

/-- The pure statement. -/
def Pure : Prop := ∀ (l0 : List Int), (l0.length * 1 ≤ 140737488351232) → (∀ y0 ∈ l0, (Lit.int .u8 y0).wf = true) → ∃ k, laws_FnCrashRecovery.f k l0 = some true
end Go.Proofs.YtmkonhmojlfjoaaDoor.DFnCrashRecovery
