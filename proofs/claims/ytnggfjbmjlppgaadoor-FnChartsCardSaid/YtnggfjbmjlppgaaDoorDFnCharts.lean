-- Printed by this session's own program (wip/deep/drow.py); Lean checks it.
import Derived.Test.YtnggfjbmjlppgaaDoorLib
import Derived.Test.YtnggfjbmjlppgaaDoorProg
set_option linter.unusedVariables false
set_option maxRecDepth 100000
namespace Go.Proofs.YtnggfjbmjlppgaaDoor.DFnCharts
open Go Go.Proofs.YtnggfjbmjlppgaaDoorD
def tyt3 : TI := ⟨.int .i64, 1, 8, (.int .i64)⟩
def tyt4 : TI := ⟨.bool, 1, 1, .bool⟩
def tyt5 : TI := ⟨.int .u8, 1, 1, (.int .u8)⟩
def tyt9 : TI := ⟨.string, 1, 16, .str⟩
def tyt22 : TI := ⟨.slice 5, 1, 24, (.sl (.int .u8))⟩
def tyt24 : TI := ⟨.slice 3, 1, 24, (.sl (.int .i64))⟩
def tyt26 : TI := ⟨.struct #[⟨ "Width", 3, 0, false, "", "", 0⟩, ⟨ "Height", 3, 1, false, "", "", 8⟩, ⟨ "Knots", 24, 2, false, "", "", 16⟩], 3, 40, (.pair (.int .i64) (.pair (.int .i64) (.sl (.int .i64))))⟩
def tyt44 : TI := ⟨.slice 9, 1, 24, (.sl .str)⟩
def tyt49 : TI := ⟨.func #[3] #[4] false, 1, 8, .fn⟩
def tyt52 : TI := ⟨.int .u64, 1, 8, (.int .u64)⟩
def tyt54 : TI := ⟨.struct #[⟨ "code", 22, 0, false, "", "loop.example/g01023/spec", 0⟩, ⟨ "at", 3, 1, false, "", "loop.example/g01023/spec", 24⟩, ⟨ "seed", 52, 2, false, "", "loop.example/g01023/spec", 32⟩], 3, 40, (.pair (.sl (.int .u8)) (.pair (.int .i64) (.int .u64)))⟩
def tyt : TT := [(3, tyt3), (4, tyt4), (5, tyt5), (9, tyt9), (22, tyt22), (24, tyt24), (26, tyt26), (44, tyt44), (49, tyt49), (52, tyt52), (54, tyt54)]
theorem mixed : Go.Proofs.Tryd.prog.follows .mixedOrders = true := by kernel_rfl
theorem tok3 : TOk1 Go.Proofs.Tryd.prog 3 (tyt3) := TOk1.of (by kernel_rfl) (by kernel_rfl) (by kernel_rfl) (by kernel_rfl) (by kernel_rfl) (by kernel_rfl) (by kernel_rfl) (fun h => nomatch (show false = true from h)) (fun h => nomatch (show false = true from h))
theorem tok4 : TOk1 Go.Proofs.Tryd.prog 4 (tyt4) := TOk1.of (by kernel_rfl) (by kernel_rfl) (by kernel_rfl) (by kernel_rfl) (by kernel_rfl) (by kernel_rfl) (by kernel_rfl) (fun h => nomatch (show false = true from h)) (fun h => nomatch (show false = true from h))
theorem tok5 : TOk1 Go.Proofs.Tryd.prog 5 (tyt5) := TOk1.of (by kernel_rfl) (by kernel_rfl) (by kernel_rfl) (by kernel_rfl) (by kernel_rfl) (by kernel_rfl) (by kernel_rfl) (fun h => nomatch (show false = true from h)) (fun h => nomatch (show false = true from h))
theorem tok9 : TOk1 Go.Proofs.Tryd.prog 9 (tyt9) := TOk1.of (by kernel_rfl) (by kernel_rfl) (by kernel_rfl) (by kernel_rfl) (by kernel_rfl) (by kernel_rfl) (by kernel_rfl) (fun h => nomatch (show false = true from h)) (fun h => nomatch (show false = true from h))
theorem tok22 : TOk1 Go.Proofs.Tryd.prog 22 (tyt22) := TOk1.of (by kernel_rfl) (by kernel_rfl) (by kernel_rfl) (by kernel_rfl) (by kernel_rfl) (by kernel_rfl) (by kernel_rfl) (fun h => nomatch (show false = true from h)) (fun h => nomatch (show false = true from h))
theorem tok24 : TOk1 Go.Proofs.Tryd.prog 24 (tyt24) := TOk1.of (by kernel_rfl) (by kernel_rfl) (by kernel_rfl) (by kernel_rfl) (by kernel_rfl) (by kernel_rfl) (by kernel_rfl) (fun h => nomatch (show false = true from h)) (fun h => nomatch (show false = true from h))
theorem tok26 : TOk1 Go.Proofs.Tryd.prog 26 (tyt26) := TOk1.of (by kernel_rfl) (by kernel_rfl) (by kernel_rfl) (by kernel_rfl) (by kernel_rfl) (by kernel_rfl) (by kernel_rfl) (fun _ => by kernel_rfl) (fun h => nomatch (show false = true from h))
theorem tok44 : TOk1 Go.Proofs.Tryd.prog 44 (tyt44) := TOk1.of (by kernel_rfl) (by kernel_rfl) (by kernel_rfl) (by kernel_rfl) (by kernel_rfl) (by kernel_rfl) (by kernel_rfl) (fun h => nomatch (show false = true from h)) (fun h => nomatch (show false = true from h))
theorem tok49 : TOk1 Go.Proofs.Tryd.prog 49 (tyt49) := TOk1.of (by kernel_rfl) (by kernel_rfl) (by kernel_rfl) (by kernel_rfl) (by kernel_rfl) (by kernel_rfl) (by kernel_rfl) (fun h => nomatch (show false = true from h)) (fun h => nomatch (show false = true from h))
theorem tok52 : TOk1 Go.Proofs.Tryd.prog 52 (tyt52) := TOk1.of (by kernel_rfl) (by kernel_rfl) (by kernel_rfl) (by kernel_rfl) (by kernel_rfl) (by kernel_rfl) (by kernel_rfl) (fun h => nomatch (show false = true from h)) (fun h => nomatch (show false = true from h))
theorem tok54 : TOk1 Go.Proofs.Tryd.prog 54 (tyt54) := TOk1.of (by kernel_rfl) (by kernel_rfl) (by kernel_rfl) (by kernel_rfl) (by kernel_rfl) (by kernel_rfl) (by kernel_rfl) (fun _ => by kernel_rfl) (fun h => nomatch (show false = true from h))
theorem tyok : TOk Go.Proofs.Tryd.prog tyt := TOk.cons tok3 (TOk.cons tok4 (TOk.cons tok5 (TOk.cons tok9 (TOk.cons tok22 (TOk.cons tok24 (TOk.cons tok26 (TOk.cons tok44 (TOk.cons tok49 (TOk.cons tok52 (TOk.cons tok54 (TOk.nil _)))))))))))
/-! ### laws_vBig: function 4 -/
def laws_vBig.m (k : Nat) (l0 : List Int) : Option (Bool) := (some (decide (65536 < (l0.length : Int))))
def laws_vBig.f (k : Nat) (l0 : List Int) : Option (Bool) := laws_vBig.m k l0
noncomputable def laws_vBig.spec (k : Nat) : FnSpec := ⟨[.d (.sl (.int .u8)) none], [.d .bool none], fun x => laws_vBig.f k x⟩
noncomputable def laws_vBig.T : FnText := ⟨(conv [] (bodyOf Go.Proofs.Tryd.f4) 0).1, Go.Proofs.Tryd.f4.results.toList, 6, [], [.d (.sl (.int .u8)) none], [.d .bool none]⟩
noncomputable def laws_vBig.tbl (k : Nat) : Tbl := []
theorem laws_vBig.e (k : Nat) (o : Nat → St → Option (Bool)) (l0 : List Int) : laws_vBig.T.main tyt (laws_vBig.tbl k) o l0 = laws_vBig.m k l0 := by kernel_rfl
theorem laws_vBig.ok : laws_vBig.T.ok = true := by kernel_rfl
theorem laws_vBig.tblok (k : Nat) : TblOk Go.Proofs.Tryd.prog (laws_vBig.tbl k) := TblOk.nil _
theorem laws_vBig.sound (k : Nat) : Sound Go.Proofs.Tryd.prog 4 (laws_vBig.spec k) := by
  have h := fn_ok (F := laws_vBig.T) (tbl := laws_vBig.tbl) mixed tyok Go.Proofs.Tryd.func4 (by kernel_rfl) (c0 := bodyOf Go.Proofs.Tryd.f4) rfl (conv_code _ _ _) rfl rfl laws_vBig.ok k (fun j _ => laws_vBig.tblok j)
  have e : laws_vBig.spec k = ⟨laws_vBig.T.ps, laws_vBig.T.rs, laws_vBig.T.ev tyt laws_vBig.tbl k⟩ := congrArg (FnSpec.mk _ _) (funext fun x => ((laws_vBig.e k (laws_vBig.T.run tyt laws_vBig.tbl k) x).trans (by rfl)).symm)
  rw [e]
  exact h
/-! ### spec_l1Cur_next: function 63 -/
def spec_l1Cur_next.b2 (k : Nat) (l0_2 : List Int) (x1_2 : Int) (x2_2 : Int) (x3_2 : Int) : Option (Int × List Int × Int × Int) := (if (w64 (x1_2 + 1)) ≤ (l0_2.length : Int) then (some (x3_2, l0_2, (w64 (x1_2 + 1)), (IntKind.u64.wrap ((IntKind.u64.wrap ((IntKind.u64.wrap (x2_2 * 6364136223846793005)) + (IntKind.u64.wrap (x3_2)))) + 102323)))) else ((shr .u64 (IntKind.u64.wrap ((IntKind.u64.wrap ((IntKind.u64.wrap (x2_2 * 6364136223846793005)) + (IntKind.u64.wrap (x3_2)))) + 102323)) 40).bind fun q2 => (some ((w64 ((band .u64 q2 255))), l0_2, (w64 (x1_2 + 1)), (IntKind.u64.wrap ((IntKind.u64.wrap ((IntKind.u64.wrap (x2_2 * 6364136223846793005)) + (IntKind.u64.wrap (x3_2)))) + 102323))))))
def spec_l1Cur_next.l2 : Nat → List Int → Int → Int → Int → Option (Int × List Int × Int × Int)
  | 0, _, _, _, _ => none
  | k + 1, l0_2, x1_2, x2_2, x3_2 => spec_l1Cur_next.b2 k l0_2 x1_2 x2_2 x3_2
def spec_l1Cur_next.m (o2 : List Int → Int → Int → Int → Option (Int × List Int × Int × Int)) (k : Nat) (l0_0 : List Int) (a0_1 : Int) (a0_2 : Int) : Option (Int × List Int × Int × Int) := (if a0_1 < (l0_0.length : Int) then ((chk l0_0.length a0_1).bind fun i1 => (o2 l0_0 a0_1 a0_2 (w64 ((l0_0.getD i1 0))))) else (o2 l0_0 a0_1 a0_2 0))
def spec_l1Cur_next.f (k : Nat) (l0_0 : List Int) (a0_1 : Int) (a0_2 : Int) : Option (Int × List Int × Int × Int) := spec_l1Cur_next.m (spec_l1Cur_next.l2 k) k l0_0 a0_1 a0_2
noncomputable def spec_l1Cur_next.spec (k : Nat) : FnSpec := ⟨[.bx [.d (.sl (.int .u8)) none, .d (.int .i64) none, .d (.int .u64) none]], [.d (.int .i64) none], fun x => spec_l1Cur_next.f k x.1 x.2.1 x.2.2⟩
def spec_l1Cur_next.S2 (l0_2 : List Int) (x1_2 : Int) (x2_2 : Int) (x3_2 : Int) : St := ⟨[(0, .ptr 0 0), (3, .val (.int .i64) x3_2)], [(0, some (.box [.val (.sl (.int .u8)) l0_2, .val (.int .i64) x1_2, .val (.int .u64) x2_2]))], 1000⟩
noncomputable def spec_l1Cur_next.T : FnText := ⟨(conv [2] (bodyOf Go.Proofs.Tryd.f63) 0).1, Go.Proofs.Tryd.f63.results.toList, 62, [(2, [(0, .bx 0 [.rd (.sl (.int .u8)), .rd (.int .i64), .rd (.int .u64)]), (3, .rd (.int .i64))])], [.bx [.d (.sl (.int .u8)) none, .d (.int .i64) none, .d (.int .u64) none]], [.d (.int .i64) none]⟩
noncomputable def spec_l1Cur_next.tbl (k : Nat) : Tbl := []
theorem spec_l1Cur_next.e2 (k : Nat) (o : Nat → St → Option (Int × List Int × Int × Int)) (l0_2 : List Int) (x1_2 : Int) (x2_2 : Int) (x3_2 : Int) : spec_l1Cur_next.T.step tyt (spec_l1Cur_next.tbl k) o 2 (spec_l1Cur_next.S2 l0_2 x1_2 x2_2 x3_2) = spec_l1Cur_next.b2 k l0_2 x1_2 x2_2 x3_2 := by kernel_rfl
theorem spec_l1Cur_next.e (k : Nat) (o : Nat → St → Option (Int × List Int × Int × Int)) (l0_0 : List Int) (a0_1 : Int) (a0_2 : Int) : spec_l1Cur_next.T.main tyt (spec_l1Cur_next.tbl k) o (l0_0, a0_1, a0_2) = spec_l1Cur_next.m (fun l0_2 x1_2 x2_2 x3_2 => o 2 (spec_l1Cur_next.S2 l0_2 x1_2 x2_2 x3_2)) k l0_0 a0_1 a0_2 := by kernel_rfl
theorem spec_l1Cur_next.ok : spec_l1Cur_next.T.ok = true := by kernel_rfl
theorem spec_l1Cur_next.run (k : Nat) : (∀ (l0_2 : List Int) (x1_2 : Int) (x2_2 : Int) (x3_2 : Int), spec_l1Cur_next.T.run tyt spec_l1Cur_next.tbl k 2 (spec_l1Cur_next.S2 l0_2 x1_2 x2_2 x3_2) = spec_l1Cur_next.l2 k l0_2 x1_2 x2_2 x3_2) := by
  induction k with
  | zero => exact fun l0_2 x1_2 x2_2 x3_2 => rfl
  | succ k ih =>
    exact fun l0_2 x1_2 x2_2 x3_2 => by
      exact (spec_l1Cur_next.e2 k (spec_l1Cur_next.T.run tyt spec_l1Cur_next.tbl k) l0_2 x1_2 x2_2 x3_2).trans (by rfl)
theorem spec_l1Cur_next.tblok (k : Nat) : TblOk Go.Proofs.Tryd.prog (spec_l1Cur_next.tbl k) := TblOk.nil _
theorem spec_l1Cur_next.sound (k : Nat) : Sound Go.Proofs.Tryd.prog 63 (spec_l1Cur_next.spec k) := by
  have h := fn_ok (F := spec_l1Cur_next.T) (tbl := spec_l1Cur_next.tbl) mixed tyok Go.Proofs.Tryd.func63 (by kernel_rfl) (c0 := bodyOf Go.Proofs.Tryd.f63) rfl (conv_code _ _ _) rfl rfl spec_l1Cur_next.ok k (fun j _ => spec_l1Cur_next.tblok j)
  have q2 : (fun l0_2 x1_2 x2_2 x3_2 => spec_l1Cur_next.T.run tyt spec_l1Cur_next.tbl k 2 (spec_l1Cur_next.S2 l0_2 x1_2 x2_2 x3_2)) = spec_l1Cur_next.l2 k := by funext l0_2 x1_2 x2_2 x3_2; exact (spec_l1Cur_next.run k) l0_2 x1_2 x2_2 x3_2
  have e : spec_l1Cur_next.spec k = ⟨spec_l1Cur_next.T.ps, spec_l1Cur_next.T.rs, spec_l1Cur_next.T.ev tyt spec_l1Cur_next.tbl k⟩ := congrArg (FnSpec.mk _ _) (funext fun x => ((spec_l1Cur_next.e k (spec_l1Cur_next.T.run tyt spec_l1Cur_next.tbl k) x.1 x.2.1 x.2.2).trans (by rw [q2]; rfl)).symm)
  rw [e]
  exact h
/-! ### spec_l1Cur_pick: function 53 -/
def spec_l1Cur_pick.m (k : Nat) (l0_0 : List Int) (a0_1 : Int) (a0_2 : Int) (a1 : Int) : Option (Int × List Int × Int × Int) := (if a1 ≤ 1 then (some (0, l0_0, a0_1, a0_2)) else ((spec_l1Cur_next.f k l0_0 a0_1 a0_2).bind fun r1 => (if 200 < a1 then ((spec_l1Cur_next.f k r1.2.1 r1.2.2.1 r1.2.2.2).bind fun r2 => ((rem (w64 ((w64 (r1.1 * 256)) + r2.1)) a1).bind fun q3 => (some (q3, r2.2.1, r2.2.2.1, r2.2.2.2)))) else ((rem r1.1 a1).bind fun q4 => (some (q4, r1.2.1, r1.2.2.1, r1.2.2.2))))))
def spec_l1Cur_pick.f (k : Nat) (l0_0 : List Int) (a0_1 : Int) (a0_2 : Int) (a1 : Int) : Option (Int × List Int × Int × Int) := spec_l1Cur_pick.m k l0_0 a0_1 a0_2 a1
noncomputable def spec_l1Cur_pick.spec (k : Nat) : FnSpec := ⟨[.bx [.d (.sl (.int .u8)) none, .d (.int .i64) none, .d (.int .u64) none], .d (.int .i64) none], [.d (.int .i64) none], fun x => spec_l1Cur_pick.f k x.1 x.2.1 x.2.2.1 x.2.2.2⟩
noncomputable def spec_l1Cur_pick.T : FnText := ⟨(conv [] (bodyOf Go.Proofs.Tryd.f53) 0).1, Go.Proofs.Tryd.f53.results.toList, 20, [], [.bx [.d (.sl (.int .u8)) none, .d (.int .i64) none, .d (.int .u64) none], .d (.int .i64) none], [.d (.int .i64) none]⟩
noncomputable def spec_l1Cur_pick.tbl (k : Nat) : Tbl := [(63, spec_l1Cur_next.spec k)]
theorem spec_l1Cur_pick.e (k : Nat) (o : Nat → St → Option (Int × List Int × Int × Int)) (l0_0 : List Int) (a0_1 : Int) (a0_2 : Int) (a1 : Int) : spec_l1Cur_pick.T.main tyt (spec_l1Cur_pick.tbl k) o (l0_0, a0_1, a0_2, a1) = spec_l1Cur_pick.m k l0_0 a0_1 a0_2 a1 := by kernel_rfl
theorem spec_l1Cur_pick.ok : spec_l1Cur_pick.T.ok = true := by kernel_rfl
theorem spec_l1Cur_pick.tblok (k : Nat) : TblOk Go.Proofs.Tryd.prog (spec_l1Cur_pick.tbl k) := TblOk.cons (spec_l1Cur_next.sound k) (TblOk.nil _)
theorem spec_l1Cur_pick.sound (k : Nat) : Sound Go.Proofs.Tryd.prog 53 (spec_l1Cur_pick.spec k) := by
  have h := fn_ok (F := spec_l1Cur_pick.T) (tbl := spec_l1Cur_pick.tbl) mixed tyok Go.Proofs.Tryd.func53 (by kernel_rfl) (c0 := bodyOf Go.Proofs.Tryd.f53) rfl (conv_code _ _ _) rfl rfl spec_l1Cur_pick.ok k (fun j _ => spec_l1Cur_pick.tblok j)
  have e : spec_l1Cur_pick.spec k = ⟨spec_l1Cur_pick.T.ps, spec_l1Cur_pick.T.rs, spec_l1Cur_pick.T.ev tyt spec_l1Cur_pick.tbl k⟩ := congrArg (FnSpec.mk _ _) (funext fun x => ((spec_l1Cur_pick.e k (spec_l1Cur_pick.T.run tyt spec_l1Cur_pick.tbl k) x.1 x.2.1 x.2.2.1 x.2.2.2).trans (by rfl)).symm)
  rw [e]
  exact h
/-! ### spec_l1Cur_among: function 52 -/
def spec_l1Cur_among.m (k : Nat) (l0_0 : List Int) (a0_1 : Int) (a0_2 : Int) (l1 : List Int) : Option (Int × List Int × Int × Int) := ((spec_l1Cur_pick.f k l0_0 a0_1 a0_2 (l1.length : Int)).bind fun r1 => ((chk l1.length r1.1).bind fun i2 => (some ((l1.getD i2 0), r1.2.1, r1.2.2.1, r1.2.2.2))))
def spec_l1Cur_among.f (k : Nat) (l0_0 : List Int) (a0_1 : Int) (a0_2 : Int) (l1 : List Int) : Option (Int × List Int × Int × Int) := spec_l1Cur_among.m k l0_0 a0_1 a0_2 l1
noncomputable def spec_l1Cur_among.spec (k : Nat) : FnSpec := ⟨[.bx [.d (.sl (.int .u8)) none, .d (.int .i64) none, .d (.int .u64) none], .d (.sl (.int .i64)) none], [.d (.int .i64) none], fun x => spec_l1Cur_among.f k x.1 x.2.1 x.2.2.1 x.2.2.2⟩
noncomputable def spec_l1Cur_among.T : FnText := ⟨(conv [] (bodyOf Go.Proofs.Tryd.f52) 0).1, Go.Proofs.Tryd.f52.results.toList, 12, [], [.bx [.d (.sl (.int .u8)) none, .d (.int .i64) none, .d (.int .u64) none], .d (.sl (.int .i64)) none], [.d (.int .i64) none]⟩
noncomputable def spec_l1Cur_among.tbl (k : Nat) : Tbl := [(53, spec_l1Cur_pick.spec k)]
theorem spec_l1Cur_among.e (k : Nat) (o : Nat → St → Option (Int × List Int × Int × Int)) (l0_0 : List Int) (a0_1 : Int) (a0_2 : Int) (l1 : List Int) : spec_l1Cur_among.T.main tyt (spec_l1Cur_among.tbl k) o (l0_0, a0_1, a0_2, l1) = spec_l1Cur_among.m k l0_0 a0_1 a0_2 l1 := by kernel_rfl
theorem spec_l1Cur_among.ok : spec_l1Cur_among.T.ok = true := by kernel_rfl
theorem spec_l1Cur_among.tblok (k : Nat) : TblOk Go.Proofs.Tryd.prog (spec_l1Cur_among.tbl k) := TblOk.cons (spec_l1Cur_pick.sound k) (TblOk.nil _)
theorem spec_l1Cur_among.sound (k : Nat) : Sound Go.Proofs.Tryd.prog 52 (spec_l1Cur_among.spec k) := by
  have h := fn_ok (F := spec_l1Cur_among.T) (tbl := spec_l1Cur_among.tbl) mixed tyok Go.Proofs.Tryd.func52 (by kernel_rfl) (c0 := bodyOf Go.Proofs.Tryd.f52) rfl (conv_code _ _ _) rfl rfl spec_l1Cur_among.ok k (fun j _ => spec_l1Cur_among.tblok j)
  have e : spec_l1Cur_among.spec k = ⟨spec_l1Cur_among.T.ps, spec_l1Cur_among.T.rs, spec_l1Cur_among.T.ev tyt spec_l1Cur_among.tbl k⟩ := congrArg (FnSpec.mk _ _) (funext fun x => ((spec_l1Cur_among.e k (spec_l1Cur_among.T.run tyt spec_l1Cur_among.tbl k) x.1 x.2.1 x.2.2.1 x.2.2.2).trans (by rfl)).symm)
  rw [e]
  exact h
/-! ### spec_l1Cur_among_2: function 52 -/
def spec_l1Cur_among_2.m (k : Nat) (l0_0 : List Int) (a0_1 : Int) (a0_2 : Int) (l1 : List Int) : Option (Int × List Int × Int × Int × List Int) := ((spec_l1Cur_pick.f k l0_0 a0_1 a0_2 (l1.length : Int)).bind fun r1 => ((chk l1.length r1.1).bind fun i2 => (some ((l1.getD i2 0), r1.2.1, r1.2.2.1, r1.2.2.2, l1))))
def spec_l1Cur_among_2.f (k : Nat) (l0_0 : List Int) (a0_1 : Int) (a0_2 : Int) (l1 : List Int) : Option (Int × List Int × Int × Int × List Int) := spec_l1Cur_among_2.m k l0_0 a0_1 a0_2 l1
noncomputable def spec_l1Cur_among_2.spec (k : Nat) : FnSpec := ⟨[.bx [.d (.sl (.int .u8)) none, .d (.int .i64) none, .d (.int .u64) none], .io 3 (.int .i64)], [.d (.int .i64) none], fun x => spec_l1Cur_among_2.f k x.1 x.2.1 x.2.2.1 x.2.2.2⟩
noncomputable def spec_l1Cur_among_2.T : FnText := ⟨(conv [] (bodyOf Go.Proofs.Tryd.f52) 0).1, Go.Proofs.Tryd.f52.results.toList, 12, [], [.bx [.d (.sl (.int .u8)) none, .d (.int .i64) none, .d (.int .u64) none], .io 3 (.int .i64)], [.d (.int .i64) none]⟩
noncomputable def spec_l1Cur_among_2.tbl (k : Nat) : Tbl := [(53, spec_l1Cur_pick.spec k)]
theorem spec_l1Cur_among_2.e (k : Nat) (o : Nat → St → Option (Int × List Int × Int × Int × List Int)) (l0_0 : List Int) (a0_1 : Int) (a0_2 : Int) (l1 : List Int) : spec_l1Cur_among_2.T.main tyt (spec_l1Cur_among_2.tbl k) o (l0_0, a0_1, a0_2, l1) = spec_l1Cur_among_2.m k l0_0 a0_1 a0_2 l1 := by kernel_rfl
theorem spec_l1Cur_among_2.ok : spec_l1Cur_among_2.T.ok = true := by kernel_rfl
theorem spec_l1Cur_among_2.tblok (k : Nat) : TblOk Go.Proofs.Tryd.prog (spec_l1Cur_among_2.tbl k) := TblOk.cons (spec_l1Cur_pick.sound k) (TblOk.nil _)
theorem spec_l1Cur_among_2.sound (k : Nat) : Sound Go.Proofs.Tryd.prog 52 (spec_l1Cur_among_2.spec k) := by
  have h := fn_ok (F := spec_l1Cur_among_2.T) (tbl := spec_l1Cur_among_2.tbl) mixed tyok Go.Proofs.Tryd.func52 (by kernel_rfl) (c0 := bodyOf Go.Proofs.Tryd.f52) rfl (conv_code _ _ _) rfl rfl spec_l1Cur_among_2.ok k (fun j _ => spec_l1Cur_among_2.tblok j)
  have e : spec_l1Cur_among_2.spec k = ⟨spec_l1Cur_among_2.T.ps, spec_l1Cur_among_2.T.rs, spec_l1Cur_among_2.T.ev tyt spec_l1Cur_among_2.tbl k⟩ := congrArg (FnSpec.mk _ _) (funext fun x => ((spec_l1Cur_among_2.e k (spec_l1Cur_among_2.T.run tyt spec_l1Cur_among_2.tbl k) x.1 x.2.1 x.2.2.1 x.2.2.2).trans (by rfl)).symm)
  rw [e]
  exact h
/-! ### spec_l1Cur_one: function 34 -/
def spec_l1Cur_one.m (k : Nat) (l0_0 : List Int) (a0_1 : Int) (a0_2 : Int) (a1 : Int) : Option (Bool × List Int × Int × Int) := ((spec_l1Cur_pick.f k l0_0 a0_1 a0_2 a1).bind fun r1 => (some ((decide (r1.1 = 0)), r1.2.1, r1.2.2.1, r1.2.2.2)))
def spec_l1Cur_one.f (k : Nat) (l0_0 : List Int) (a0_1 : Int) (a0_2 : Int) (a1 : Int) : Option (Bool × List Int × Int × Int) := spec_l1Cur_one.m k l0_0 a0_1 a0_2 a1
noncomputable def spec_l1Cur_one.spec (k : Nat) : FnSpec := ⟨[.bx [.d (.sl (.int .u8)) none, .d (.int .i64) none, .d (.int .u64) none], .d (.int .i64) none], [.d .bool none], fun x => spec_l1Cur_one.f k x.1 x.2.1 x.2.2.1 x.2.2.2⟩
noncomputable def spec_l1Cur_one.T : FnText := ⟨(conv [] (bodyOf Go.Proofs.Tryd.f34) 0).1, Go.Proofs.Tryd.f34.results.toList, 9, [], [.bx [.d (.sl (.int .u8)) none, .d (.int .i64) none, .d (.int .u64) none], .d (.int .i64) none], [.d .bool none]⟩
noncomputable def spec_l1Cur_one.tbl (k : Nat) : Tbl := [(53, spec_l1Cur_pick.spec k)]
theorem spec_l1Cur_one.e (k : Nat) (o : Nat → St → Option (Bool × List Int × Int × Int)) (l0_0 : List Int) (a0_1 : Int) (a0_2 : Int) (a1 : Int) : spec_l1Cur_one.T.main tyt (spec_l1Cur_one.tbl k) o (l0_0, a0_1, a0_2, a1) = spec_l1Cur_one.m k l0_0 a0_1 a0_2 a1 := by kernel_rfl
theorem spec_l1Cur_one.ok : spec_l1Cur_one.T.ok = true := by kernel_rfl
theorem spec_l1Cur_one.tblok (k : Nat) : TblOk Go.Proofs.Tryd.prog (spec_l1Cur_one.tbl k) := TblOk.cons (spec_l1Cur_pick.sound k) (TblOk.nil _)
theorem spec_l1Cur_one.sound (k : Nat) : Sound Go.Proofs.Tryd.prog 34 (spec_l1Cur_one.spec k) := by
  have h := fn_ok (F := spec_l1Cur_one.T) (tbl := spec_l1Cur_one.tbl) mixed tyok Go.Proofs.Tryd.func34 (by kernel_rfl) (c0 := bodyOf Go.Proofs.Tryd.f34) rfl (conv_code _ _ _) rfl rfl spec_l1Cur_one.ok k (fun j _ => spec_l1Cur_one.tblok j)
  have e : spec_l1Cur_one.spec k = ⟨spec_l1Cur_one.T.ps, spec_l1Cur_one.T.rs, spec_l1Cur_one.T.ev tyt spec_l1Cur_one.tbl k⟩ := congrArg (FnSpec.mk _ _) (funext fun x => ((spec_l1Cur_one.e k (spec_l1Cur_one.T.run tyt spec_l1Cur_one.tbl k) x.1 x.2.1 x.2.2.1 x.2.2.2).trans (by rfl)).symm)
  rw [e]
  exact h
/-! ### spec_l1Cur_plain: function 51 -/
def spec_l1Cur_plain.b4 (o4 : List Int → Int → Int → Int → Int → Int → Int → List Int → Int → Int → List Int → Int → Option (Int × Int × List Int × List Int × Int × Int)) (k : Nat) (l0_4 : List Int) (x1_4 : Int) (x2_4 : Int) (x3_4 : Int) (x4_4 : Int) (x5_4 : Int) (x6_4 : Int) (l7_4 : List Int) (x8_4 : Int) (x9_4 : Int) (l10_4 : List Int) (x11_4 : Int) : Option (Int × Int × List Int × List Int × Int × Int) := (if x11_4 < (w64 (x3_4 * x4_4)) then ((spec_l1Cur_among_2.f k l0_4 x1_4 x2_4 [0, 0, 0, 1, 1, 2, 5]).bind fun r1 => (if x3_4 ≤ x11_4 then ((spec_l1Cur_one.f k r1.2.1 r1.2.2.1 r1.2.2.2.1 3).bind fun r2 => (cond r2.1 ((chk l10_4.length (w64 (x11_4 - x3_4))).bind fun i3 => ((app 17592186044416 l10_4 [(l10_4.getD i3 0)]).bind fun l4 => (o4 r2.2.1 r2.2.2.1 r2.2.2.2 x3_4 x4_4 x5_4 x6_4 l7_4 x8_4 x9_4 l4 (w64 (x11_4 + 1))))) ((app 17592186044416 l10_4 [r1.1]).bind fun l5 => (o4 r2.2.1 r2.2.2.1 r2.2.2.2 x3_4 x4_4 x5_4 x6_4 l7_4 x8_4 x9_4 l5 (w64 (x11_4 + 1)))))) else ((app 17592186044416 l10_4 [r1.1]).bind fun l6 => (o4 r1.2.1 r1.2.2.1 r1.2.2.2.1 x3_4 x4_4 x5_4 x6_4 l7_4 x8_4 x9_4 l6 (w64 (x11_4 + 1)))))) else (some (x8_4, x9_4, l10_4, l0_4, x1_4, x2_4)))
def spec_l1Cur_plain.l4 : Nat → List Int → Int → Int → Int → Int → Int → Int → List Int → Int → Int → List Int → Int → Option (Int × Int × List Int × List Int × Int × Int)
  | 0, _, _, _, _, _, _, _, _, _, _, _, _ => none
  | k + 1, l0_4, x1_4, x2_4, x3_4, x4_4, x5_4, x6_4, l7_4, x8_4, x9_4, l10_4, x11_4 => spec_l1Cur_plain.b4 (spec_l1Cur_plain.l4 k) k l0_4 x1_4 x2_4 x3_4 x4_4 x5_4 x6_4 l7_4 x8_4 x9_4 l10_4 x11_4
def spec_l1Cur_plain.m (o4 : List Int → Int → Int → Int → Int → Int → Int → List Int → Int → Int → List Int → Int → Option (Int × Int × List Int × List Int × Int × Int)) (k : Nat) (l0_0 : List Int) (a0_1 : Int) (a0_2 : Int) (a1 : Int) (a2 : Int) : Option (Int × Int × List Int × List Int × Int × Int) := (o4 l0_0 a0_1 a0_2 a1 a2 0 0 [] a1 a2 ([] : List (Int)) 0)
def spec_l1Cur_plain.f (k : Nat) (l0_0 : List Int) (a0_1 : Int) (a0_2 : Int) (a1 : Int) (a2 : Int) : Option (Int × Int × List Int × List Int × Int × Int) := spec_l1Cur_plain.m (spec_l1Cur_plain.l4 k) k l0_0 a0_1 a0_2 a1 a2
noncomputable def spec_l1Cur_plain.spec (k : Nat) : FnSpec := ⟨[.bx [.d (.sl (.int .u8)) none, .d (.int .i64) none, .d (.int .u64) none], .d (.int .i64) none, .d (.int .i64) none], [.ag [.d (.int .i64) none, .d (.int .i64) none, .d (.sl (.int .i64)) (some 3)]], fun x => spec_l1Cur_plain.f k x.1 x.2.1 x.2.2.1 x.2.2.2.1 x.2.2.2.2⟩
def spec_l1Cur_plain.S4 (l0_4 : List Int) (x1_4 : Int) (x2_4 : Int) (x3_4 : Int) (x4_4 : Int) (x5_4 : Int) (x6_4 : Int) (l7_4 : List Int) (x8_4 : Int) (x9_4 : Int) (l10_4 : List Int) (x11_4 : Int) : St := ⟨[(0, .ptr 0 0), (1, .val (.int .i64) x3_4), (2, .val (.int .i64) x4_4), (6, .ptr 100 0), (7, .ptr 101 0), (8, .val (.int .i64) x11_4)], [(101, some (.box [.val (.int .i64) x8_4, .val (.int .i64) x9_4, .ref 102])), (102, some (.row 3 (.int .i64) l10_4)), (100, some (.box [.val (.int .i64) x5_4, .val (.int .i64) x6_4, .val (.sl (.int .i64)) l7_4])), (0, some (.box [.val (.sl (.int .u8)) l0_4, .val (.int .i64) x1_4, .val (.int .u64) x2_4]))], 1000⟩
noncomputable def spec_l1Cur_plain.T : FnText := ⟨(conv [] (bodyOf Go.Proofs.Tryd.f51) 0).1, Go.Proofs.Tryd.f51.results.toList, 45, [(4, [(0, .bx 0 [.rd (.sl (.int .u8)), .rd (.int .i64), .rd (.int .u64)]), (1, .rd (.int .i64)), (2, .rd (.int .i64)), (6, .bx 100 [.rd (.int .i64), .rd (.int .i64), .rd (.sl (.int .i64))]), (7, .bx 101 [.rd (.int .i64), .rd (.int .i64), .own 3 (.int .i64) 102]), (8, .rd (.int .i64))])], [.bx [.d (.sl (.int .u8)) none, .d (.int .i64) none, .d (.int .u64) none], .d (.int .i64) none, .d (.int .i64) none], [.ag [.d (.int .i64) none, .d (.int .i64) none, .d (.sl (.int .i64)) (some 3)]]⟩
noncomputable def spec_l1Cur_plain.tbl (k : Nat) : Tbl := [(52, spec_l1Cur_among_2.spec k), (34, spec_l1Cur_one.spec k)]
theorem spec_l1Cur_plain.e4 (k : Nat) (o : Nat → St → Option (Int × Int × List Int × List Int × Int × Int)) (l0_4 : List Int) (x1_4 : Int) (x2_4 : Int) (x3_4 : Int) (x4_4 : Int) (x5_4 : Int) (x6_4 : Int) (l7_4 : List Int) (x8_4 : Int) (x9_4 : Int) (l10_4 : List Int) (x11_4 : Int) : spec_l1Cur_plain.T.step tyt (spec_l1Cur_plain.tbl k) o 4 (spec_l1Cur_plain.S4 l0_4 x1_4 x2_4 x3_4 x4_4 x5_4 x6_4 l7_4 x8_4 x9_4 l10_4 x11_4) = spec_l1Cur_plain.b4 (fun l0_4 x1_4 x2_4 x3_4 x4_4 x5_4 x6_4 l7_4 x8_4 x9_4 l10_4 x11_4 => o 4 (spec_l1Cur_plain.S4 l0_4 x1_4 x2_4 x3_4 x4_4 x5_4 x6_4 l7_4 x8_4 x9_4 l10_4 x11_4)) k l0_4 x1_4 x2_4 x3_4 x4_4 x5_4 x6_4 l7_4 x8_4 x9_4 l10_4 x11_4 := by kernel_rfl
theorem spec_l1Cur_plain.e (k : Nat) (o : Nat → St → Option (Int × Int × List Int × List Int × Int × Int)) (l0_0 : List Int) (a0_1 : Int) (a0_2 : Int) (a1 : Int) (a2 : Int) : spec_l1Cur_plain.T.main tyt (spec_l1Cur_plain.tbl k) o (l0_0, a0_1, a0_2, a1, a2) = spec_l1Cur_plain.m (fun l0_4 x1_4 x2_4 x3_4 x4_4 x5_4 x6_4 l7_4 x8_4 x9_4 l10_4 x11_4 => o 4 (spec_l1Cur_plain.S4 l0_4 x1_4 x2_4 x3_4 x4_4 x5_4 x6_4 l7_4 x8_4 x9_4 l10_4 x11_4)) k l0_0 a0_1 a0_2 a1 a2 := by kernel_rfl
theorem spec_l1Cur_plain.ok : spec_l1Cur_plain.T.ok = true := by kernel_rfl
theorem spec_l1Cur_plain.run (k : Nat) : (∀ (l0_4 : List Int) (x1_4 : Int) (x2_4 : Int) (x3_4 : Int) (x4_4 : Int) (x5_4 : Int) (x6_4 : Int) (l7_4 : List Int) (x8_4 : Int) (x9_4 : Int) (l10_4 : List Int) (x11_4 : Int), spec_l1Cur_plain.T.run tyt spec_l1Cur_plain.tbl k 4 (spec_l1Cur_plain.S4 l0_4 x1_4 x2_4 x3_4 x4_4 x5_4 x6_4 l7_4 x8_4 x9_4 l10_4 x11_4) = spec_l1Cur_plain.l4 k l0_4 x1_4 x2_4 x3_4 x4_4 x5_4 x6_4 l7_4 x8_4 x9_4 l10_4 x11_4) := by
  induction k with
  | zero => exact fun l0_4 x1_4 x2_4 x3_4 x4_4 x5_4 x6_4 l7_4 x8_4 x9_4 l10_4 x11_4 => rfl
  | succ k ih =>
    exact fun l0_4 x1_4 x2_4 x3_4 x4_4 x5_4 x6_4 l7_4 x8_4 x9_4 l10_4 x11_4 => by
      have q4 : (fun l0_4 x1_4 x2_4 x3_4 x4_4 x5_4 x6_4 l7_4 x8_4 x9_4 l10_4 x11_4 => spec_l1Cur_plain.T.run tyt spec_l1Cur_plain.tbl k 4 (spec_l1Cur_plain.S4 l0_4 x1_4 x2_4 x3_4 x4_4 x5_4 x6_4 l7_4 x8_4 x9_4 l10_4 x11_4)) = spec_l1Cur_plain.l4 k := by funext l0_4 x1_4 x2_4 x3_4 x4_4 x5_4 x6_4 l7_4 x8_4 x9_4 l10_4 x11_4; exact ih l0_4 x1_4 x2_4 x3_4 x4_4 x5_4 x6_4 l7_4 x8_4 x9_4 l10_4 x11_4
      exact (spec_l1Cur_plain.e4 k (spec_l1Cur_plain.T.run tyt spec_l1Cur_plain.tbl k) l0_4 x1_4 x2_4 x3_4 x4_4 x5_4 x6_4 l7_4 x8_4 x9_4 l10_4 x11_4).trans (by rw [q4]; rfl)
theorem spec_l1Cur_plain.tblok (k : Nat) : TblOk Go.Proofs.Tryd.prog (spec_l1Cur_plain.tbl k) := TblOk.cons (spec_l1Cur_among_2.sound k) (TblOk.cons (spec_l1Cur_one.sound k) (TblOk.nil _))
theorem spec_l1Cur_plain.sound (k : Nat) : Sound Go.Proofs.Tryd.prog 51 (spec_l1Cur_plain.spec k) := by
  have h := fn_ok (F := spec_l1Cur_plain.T) (tbl := spec_l1Cur_plain.tbl) mixed tyok Go.Proofs.Tryd.func51 (by kernel_rfl) (c0 := bodyOf Go.Proofs.Tryd.f51) rfl (conv_code _ _ _) rfl rfl spec_l1Cur_plain.ok k (fun j _ => spec_l1Cur_plain.tblok j)
  have q4 : (fun l0_4 x1_4 x2_4 x3_4 x4_4 x5_4 x6_4 l7_4 x8_4 x9_4 l10_4 x11_4 => spec_l1Cur_plain.T.run tyt spec_l1Cur_plain.tbl k 4 (spec_l1Cur_plain.S4 l0_4 x1_4 x2_4 x3_4 x4_4 x5_4 x6_4 l7_4 x8_4 x9_4 l10_4 x11_4)) = spec_l1Cur_plain.l4 k := by funext l0_4 x1_4 x2_4 x3_4 x4_4 x5_4 x6_4 l7_4 x8_4 x9_4 l10_4 x11_4; exact (spec_l1Cur_plain.run k) l0_4 x1_4 x2_4 x3_4 x4_4 x5_4 x6_4 l7_4 x8_4 x9_4 l10_4 x11_4
  have e : spec_l1Cur_plain.spec k = ⟨spec_l1Cur_plain.T.ps, spec_l1Cur_plain.T.rs, spec_l1Cur_plain.T.ev tyt spec_l1Cur_plain.tbl k⟩ := congrArg (FnSpec.mk _ _) (funext fun x => ((spec_l1Cur_plain.e k (spec_l1Cur_plain.T.run tyt spec_l1Cur_plain.tbl k) x.1 x.2.1 x.2.2.1 x.2.2.2.1 x.2.2.2.2).trans (by rw [q4]; rfl)).symm)
  rw [e]
  exact h
/-! ### spec_l1Cur_chart: function 33 -/
def spec_l1Cur_chart.m (k : Nat) (l0_0 : List Int) (a0_1 : Int) (a0_2 : Int) : Option (Int × Int × List Int × List Int × Int × Int) := ((spec_l1Cur_among_2.f k l0_0 a0_1 a0_2 [1, 2, 3, 3, 4, 4, 5, 6, 8]).bind fun r1 => ((spec_l1Cur_among_2.f k r1.2.1 r1.2.2.1 r1.2.2.2.1 [1, 2, 3, 3, 4, 5, 8]).bind fun r2 => ((spec_l1Cur_plain.f k r2.2.1 r2.2.2.1 r2.2.2.2.1 r1.1 r2.1).bind fun r3 => ((spec_l1Cur_pick.f k r3.2.2.2.1 r3.2.2.2.2.1 r3.2.2.2.2.2 40).bind fun r4 => (if r4.1 = 0 then ((spec_l1Cur_pick.f k r4.2.1 r4.2.2.1 r4.2.2.2 (r3.2.2.1.length : Int)).bind fun r5 => ((spec_l1Cur_among_2.f k r5.2.1 r5.2.2.1 r5.2.2.2 [(-1), 6]).bind fun r6 => ((chk r3.2.2.1.length r5.1).bind fun i7 => (some (r3.1, r3.2.1, (r3.2.2.1.set i7 r6.1), r6.2.1, r6.2.2.1, r6.2.2.2.1))))) else (if r4.1 = 1 then ((app 17592186044416 r3.2.2.1 [0]).bind fun l9 => (some (r3.1, r3.2.1, l9, r4.2.1, r4.2.2.1, r4.2.2.2))) else (if r4.1 = 2 then ((spec_l1Cur_among_2.f k r4.2.1 r4.2.2.1 r4.2.2.2 [0, 9]).bind fun r10 => ((spec_l1Cur_plain.f k r10.2.1 r10.2.2.1 r10.2.2.2.1 r10.1 1).bind fun r11 => (some (r11.1, r11.2.1, r11.2.2.1, r11.2.2.2.1, r11.2.2.2.2.1, r11.2.2.2.2.2)))) else (some (r3.1, r3.2.1, r3.2.2.1, r4.2.1, r4.2.2.1, r4.2.2.2)))))))))
def spec_l1Cur_chart.f (k : Nat) (l0_0 : List Int) (a0_1 : Int) (a0_2 : Int) : Option (Int × Int × List Int × List Int × Int × Int) := spec_l1Cur_chart.m k l0_0 a0_1 a0_2
noncomputable def spec_l1Cur_chart.spec (k : Nat) : FnSpec := ⟨[.bx [.d (.sl (.int .u8)) none, .d (.int .i64) none, .d (.int .u64) none]], [.ag [.d (.int .i64) none, .d (.int .i64) none, .d (.sl (.int .i64)) (some 3)]], fun x => spec_l1Cur_chart.f k x.1 x.2.1 x.2.2⟩
noncomputable def spec_l1Cur_chart.T : FnText := ⟨(conv [] (bodyOf Go.Proofs.Tryd.f33) 0).1, Go.Proofs.Tryd.f33.results.toList, 42, [], [.bx [.d (.sl (.int .u8)) none, .d (.int .i64) none, .d (.int .u64) none]], [.ag [.d (.int .i64) none, .d (.int .i64) none, .d (.sl (.int .i64)) (some 3)]]⟩
noncomputable def spec_l1Cur_chart.tbl (k : Nat) : Tbl := [(52, spec_l1Cur_among_2.spec k), (51, spec_l1Cur_plain.spec k), (53, spec_l1Cur_pick.spec k)]
theorem spec_l1Cur_chart.e (k : Nat) (o : Nat → St → Option (Int × Int × List Int × List Int × Int × Int)) (l0_0 : List Int) (a0_1 : Int) (a0_2 : Int) : spec_l1Cur_chart.T.main tyt (spec_l1Cur_chart.tbl k) o (l0_0, a0_1, a0_2) = spec_l1Cur_chart.m k l0_0 a0_1 a0_2 := by kernel_rfl
theorem spec_l1Cur_chart.ok : spec_l1Cur_chart.T.ok = true := by kernel_rfl
theorem spec_l1Cur_chart.tblok (k : Nat) : TblOk Go.Proofs.Tryd.prog (spec_l1Cur_chart.tbl k) := TblOk.cons (spec_l1Cur_among_2.sound k) (TblOk.cons (spec_l1Cur_plain.sound k) (TblOk.cons (spec_l1Cur_pick.sound k) (TblOk.nil _)))
theorem spec_l1Cur_chart.sound (k : Nat) : Sound Go.Proofs.Tryd.prog 33 (spec_l1Cur_chart.spec k) := by
  have h := fn_ok (F := spec_l1Cur_chart.T) (tbl := spec_l1Cur_chart.tbl) mixed tyok Go.Proofs.Tryd.func33 (by kernel_rfl) (c0 := bodyOf Go.Proofs.Tryd.f33) rfl (conv_code _ _ _) rfl rfl spec_l1Cur_chart.ok k (fun j _ => spec_l1Cur_chart.tblok j)
  have e : spec_l1Cur_chart.spec k = ⟨spec_l1Cur_chart.T.ps, spec_l1Cur_chart.T.rs, spec_l1Cur_chart.T.ev tyt spec_l1Cur_chart.tbl k⟩ := congrArg (FnSpec.mk _ _) (funext fun x => ((spec_l1Cur_chart.e k (spec_l1Cur_chart.T.run tyt spec_l1Cur_chart.tbl k) x.1 x.2.1 x.2.2).trans (by rfl)).symm)
  rw [e]
  exact h
/-! ### spec_DrawIsChart: function 24 -/
def spec_DrawIsChart.m (k : Nat) (l0 : List Int) : Option (Int × Int × List Int) := ((spec_l1Cur_chart.f k l0 0 0).bind fun r1 => (some (r1.1, r1.2.1, r1.2.2.1)))
def spec_DrawIsChart.f (k : Nat) (l0 : List Int) : Option (Int × Int × List Int) := spec_DrawIsChart.m k l0
noncomputable def spec_DrawIsChart.spec (k : Nat) : FnSpec := ⟨[.d (.sl (.int .u8)) none], [.ag [.d (.int .i64) none, .d (.int .i64) none, .d (.sl (.int .i64)) (some 3)]], fun x => spec_DrawIsChart.f k x⟩
noncomputable def spec_DrawIsChart.T : FnText := ⟨(conv [] (bodyOf Go.Proofs.Tryd.f24) 0).1, Go.Proofs.Tryd.f24.results.toList, 9, [], [.d (.sl (.int .u8)) none], [.ag [.d (.int .i64) none, .d (.int .i64) none, .d (.sl (.int .i64)) (some 3)]]⟩
noncomputable def spec_DrawIsChart.tbl (k : Nat) : Tbl := [(33, spec_l1Cur_chart.spec k)]
theorem spec_DrawIsChart.e (k : Nat) (o : Nat → St → Option (Int × Int × List Int)) (l0 : List Int) : spec_DrawIsChart.T.main tyt (spec_DrawIsChart.tbl k) o l0 = spec_DrawIsChart.m k l0 := by kernel_rfl
theorem spec_DrawIsChart.ok : spec_DrawIsChart.T.ok = true := by kernel_rfl
theorem spec_DrawIsChart.tblok (k : Nat) : TblOk Go.Proofs.Tryd.prog (spec_DrawIsChart.tbl k) := TblOk.cons (spec_l1Cur_chart.sound k) (TblOk.nil _)
theorem spec_DrawIsChart.sound (k : Nat) : Sound Go.Proofs.Tryd.prog 24 (spec_DrawIsChart.spec k) := by
  have h := fn_ok (F := spec_DrawIsChart.T) (tbl := spec_DrawIsChart.tbl) mixed tyok Go.Proofs.Tryd.func24 (by kernel_rfl) (c0 := bodyOf Go.Proofs.Tryd.f24) rfl (conv_code _ _ _) rfl rfl spec_DrawIsChart.ok k (fun j _ => spec_DrawIsChart.tblok j)
  have e : spec_DrawIsChart.spec k = ⟨spec_DrawIsChart.T.ps, spec_DrawIsChart.T.rs, spec_DrawIsChart.T.ev tyt spec_DrawIsChart.tbl k⟩ := congrArg (FnSpec.mk _ _) (funext fun x => ((spec_DrawIsChart.e k (spec_DrawIsChart.T.run tyt spec_DrawIsChart.tbl k) x).trans (by rfl)).symm)
  rw [e]
  exact h
/-! ### spec_DrawChartText: function 5 -/
def spec_DrawChartText.m (k : Nat) (l0 : List Int) : Option (Int × Int × List Int) := ((spec_DrawIsChart.f k l0).bind fun r1 => (some (r1.1, r1.2.1, r1.2.2)))
def spec_DrawChartText.f (k : Nat) (l0 : List Int) : Option (Int × Int × List Int) := spec_DrawChartText.m k l0
noncomputable def spec_DrawChartText.spec (k : Nat) : FnSpec := ⟨[.d (.sl (.int .u8)) none], [.ag [.d (.int .i64) none, .d (.int .i64) none, .d (.sl (.int .i64)) (some 3)]], fun x => spec_DrawChartText.f k x⟩
noncomputable def spec_DrawChartText.T : FnText := ⟨(conv [] (bodyOf Go.Proofs.Tryd.f5) 0).1, Go.Proofs.Tryd.f5.results.toList, 5, [], [.d (.sl (.int .u8)) none], [.ag [.d (.int .i64) none, .d (.int .i64) none, .d (.sl (.int .i64)) (some 3)]]⟩
noncomputable def spec_DrawChartText.tbl (k : Nat) : Tbl := [(24, spec_DrawIsChart.spec k)]
theorem spec_DrawChartText.e (k : Nat) (o : Nat → St → Option (Int × Int × List Int)) (l0 : List Int) : spec_DrawChartText.T.main tyt (spec_DrawChartText.tbl k) o l0 = spec_DrawChartText.m k l0 := by kernel_rfl
theorem spec_DrawChartText.ok : spec_DrawChartText.T.ok = true := by kernel_rfl
theorem spec_DrawChartText.tblok (k : Nat) : TblOk Go.Proofs.Tryd.prog (spec_DrawChartText.tbl k) := TblOk.cons (spec_DrawIsChart.sound k) (TblOk.nil _)
theorem spec_DrawChartText.sound (k : Nat) : Sound Go.Proofs.Tryd.prog 5 (spec_DrawChartText.spec k) := by
  have h := fn_ok (F := spec_DrawChartText.T) (tbl := spec_DrawChartText.tbl) mixed tyok Go.Proofs.Tryd.func5 (by kernel_rfl) (c0 := bodyOf Go.Proofs.Tryd.f5) rfl (conv_code _ _ _) rfl rfl spec_DrawChartText.ok k (fun j _ => spec_DrawChartText.tblok j)
  have e : spec_DrawChartText.spec k = ⟨spec_DrawChartText.T.ps, spec_DrawChartText.T.rs, spec_DrawChartText.T.ev tyt spec_DrawChartText.tbl k⟩ := congrArg (FnSpec.mk _ _) (funext fun x => ((spec_DrawChartText.e k (spec_DrawChartText.T.run tyt spec_DrawChartText.tbl k) x).trans (by rfl)).symm)
  rw [e]
  exact h
/-! ### impl_in: function 48 -/
def impl_in.m (k : Nat) (a0 : Int) (a1 : Int) (a2 : Int) : Option (Bool) := (if a1 ≤ a0 then (some (decide (a0 ≤ a2))) else (some false))
def impl_in.f (k : Nat) (a0 : Int) (a1 : Int) (a2 : Int) : Option (Bool) := impl_in.m k a0 a1 a2
noncomputable def impl_in.spec (k : Nat) : FnSpec := ⟨[.d (.int .i64) none, .d (.int .i64) none, .d (.int .i64) none], [.d .bool none], fun x => impl_in.f k x.1 x.2.1 x.2.2⟩
noncomputable def impl_in.T : FnText := ⟨(conv [] (bodyOf Go.Proofs.Tryd.f48) 0).1, Go.Proofs.Tryd.f48.results.toList, 15, [], [.d (.int .i64) none, .d (.int .i64) none, .d (.int .i64) none], [.d .bool none]⟩
noncomputable def impl_in.tbl (k : Nat) : Tbl := []
theorem impl_in.e (k : Nat) (o : Nat → St → Option (Bool)) (a0 : Int) (a1 : Int) (a2 : Int) : impl_in.T.main tyt (impl_in.tbl k) o (a0, a1, a2) = impl_in.m k a0 a1 a2 := by kernel_rfl
theorem impl_in.ok : impl_in.T.ok = true := by kernel_rfl
theorem impl_in.tblok (k : Nat) : TblOk Go.Proofs.Tryd.prog (impl_in.tbl k) := TblOk.nil _
theorem impl_in.sound (k : Nat) : Sound Go.Proofs.Tryd.prog 48 (impl_in.spec k) := by
  have h := fn_ok (F := impl_in.T) (tbl := impl_in.tbl) mixed tyok Go.Proofs.Tryd.func48 (by kernel_rfl) (c0 := bodyOf Go.Proofs.Tryd.f48) rfl (conv_code _ _ _) rfl rfl impl_in.ok k (fun j _ => impl_in.tblok j)
  have e : impl_in.spec k = ⟨impl_in.T.ps, impl_in.T.rs, impl_in.T.ev tyt impl_in.tbl k⟩ := congrArg (FnSpec.mk _ _) (funext fun x => ((impl_in.e k (impl_in.T.run tyt impl_in.tbl k) x.1 x.2.1 x.2.2).trans (by rfl)).symm)
  rw [e]
  exact h
/-! ### impl_isSide: function 30 -/
def impl_isSide.m (k : Nat) (a0 : Int) : Option (Bool) := ((impl_in.f k a0 1 8).bind fun r1 => (some r1))
def impl_isSide.f (k : Nat) (a0 : Int) : Option (Bool) := impl_isSide.m k a0
noncomputable def impl_isSide.spec (k : Nat) : FnSpec := ⟨[.d (.int .i64) none], [.d .bool none], fun x => impl_isSide.f k x⟩
noncomputable def impl_isSide.T : FnText := ⟨(conv [] (bodyOf Go.Proofs.Tryd.f30) 0).1, Go.Proofs.Tryd.f30.results.toList, 5, [], [.d (.int .i64) none], [.d .bool none]⟩
noncomputable def impl_isSide.tbl (k : Nat) : Tbl := [(48, impl_in.spec k)]
theorem impl_isSide.e (k : Nat) (o : Nat → St → Option (Bool)) (a0 : Int) : impl_isSide.T.main tyt (impl_isSide.tbl k) o a0 = impl_isSide.m k a0 := by kernel_rfl
theorem impl_isSide.ok : impl_isSide.T.ok = true := by kernel_rfl
theorem impl_isSide.tblok (k : Nat) : TblOk Go.Proofs.Tryd.prog (impl_isSide.tbl k) := TblOk.cons (impl_in.sound k) (TblOk.nil _)
theorem impl_isSide.sound (k : Nat) : Sound Go.Proofs.Tryd.prog 30 (impl_isSide.spec k) := by
  have h := fn_ok (F := impl_isSide.T) (tbl := impl_isSide.tbl) mixed tyok Go.Proofs.Tryd.func30 (by kernel_rfl) (c0 := bodyOf Go.Proofs.Tryd.f30) rfl (conv_code _ _ _) rfl rfl impl_isSide.ok k (fun j _ => impl_isSide.tblok j)
  have e : impl_isSide.spec k = ⟨impl_isSide.T.ps, impl_isSide.T.rs, impl_isSide.T.ev tyt impl_isSide.tbl k⟩ := congrArg (FnSpec.mk _ _) (funext fun x => ((impl_isSide.e k (impl_isSide.T.run tyt impl_isSide.tbl k) x).trans (by rfl)).symm)
  rw [e]
  exact h
/-! ### impl_isColor: function 32 -/
def impl_isColor.m (k : Nat) (a0 : Int) : Option (Bool) := ((impl_in.f k a0 0 5).bind fun r1 => (some r1))
def impl_isColor.f (k : Nat) (a0 : Int) : Option (Bool) := impl_isColor.m k a0
noncomputable def impl_isColor.spec (k : Nat) : FnSpec := ⟨[.d (.int .i64) none], [.d .bool none], fun x => impl_isColor.f k x⟩
noncomputable def impl_isColor.T : FnText := ⟨(conv [] (bodyOf Go.Proofs.Tryd.f32) 0).1, Go.Proofs.Tryd.f32.results.toList, 5, [], [.d (.int .i64) none], [.d .bool none]⟩
noncomputable def impl_isColor.tbl (k : Nat) : Tbl := [(48, impl_in.spec k)]
theorem impl_isColor.e (k : Nat) (o : Nat → St → Option (Bool)) (a0 : Int) : impl_isColor.T.main tyt (impl_isColor.tbl k) o a0 = impl_isColor.m k a0 := by kernel_rfl
theorem impl_isColor.ok : impl_isColor.T.ok = true := by kernel_rfl
theorem impl_isColor.tblok (k : Nat) : TblOk Go.Proofs.Tryd.prog (impl_isColor.tbl k) := TblOk.cons (impl_in.sound k) (TblOk.nil _)
theorem impl_isColor.sound (k : Nat) : Sound Go.Proofs.Tryd.prog 32 (impl_isColor.spec k) := by
  have h := fn_ok (F := impl_isColor.T) (tbl := impl_isColor.tbl) mixed tyok Go.Proofs.Tryd.func32 (by kernel_rfl) (c0 := bodyOf Go.Proofs.Tryd.f32) rfl (conv_code _ _ _) rfl rfl impl_isColor.ok k (fun j _ => impl_isColor.tblok j)
  have e : impl_isColor.spec k = ⟨impl_isColor.T.ps, impl_isColor.T.rs, impl_isColor.T.ev tyt impl_isColor.tbl k⟩ := congrArg (FnSpec.mk _ _) (funext fun x => ((impl_isColor.e k (impl_isColor.T.run tyt impl_isColor.tbl k) x).trans (by rfl)).symm)
  rw [e]
  exact h
/-! ### impl_areAll_int_1__impl_isColor: function 50 -/
def impl_areAll_int_1__impl_isColor.m (k : Nat) (a0 : Int) : Option (Bool) := ((impl_isColor.f k a0).bind fun r1 => (some (!r1)))
def impl_areAll_int_1__impl_isColor.f (k : Nat) (a0 : Int) : Option (Bool) := impl_areAll_int_1__impl_isColor.m k a0
noncomputable def impl_areAll_int_1__impl_isColor.spec (k : Nat) : FnSpec := ⟨[.d (.int .i64) none, .rb [.fv 32 [] []]], [.d .bool none], fun x => impl_areAll_int_1__impl_isColor.f k x⟩
noncomputable def impl_areAll_int_1__impl_isColor.T : FnText := ⟨(conv [] (bodyOf Go.Proofs.Tryd.f50) 0).1, Go.Proofs.Tryd.f50.results.toList, 8, [], [.d (.int .i64) none, .rb [.fv 32 [] []]], [.d .bool none]⟩
noncomputable def impl_areAll_int_1__impl_isColor.tbl (k : Nat) : Tbl := [(32, impl_isColor.spec k)]
theorem impl_areAll_int_1__impl_isColor.e (k : Nat) (o : Nat → St → Option (Bool)) (a0 : Int) : impl_areAll_int_1__impl_isColor.T.main tyt (impl_areAll_int_1__impl_isColor.tbl k) o a0 = impl_areAll_int_1__impl_isColor.m k a0 := by kernel_rfl
theorem impl_areAll_int_1__impl_isColor.ok : impl_areAll_int_1__impl_isColor.T.ok = true := by kernel_rfl
theorem impl_areAll_int_1__impl_isColor.tblok (k : Nat) : TblOk Go.Proofs.Tryd.prog (impl_areAll_int_1__impl_isColor.tbl k) := TblOk.cons (impl_isColor.sound k) (TblOk.nil _)
theorem impl_areAll_int_1__impl_isColor.sound (k : Nat) : Sound Go.Proofs.Tryd.prog 50 (impl_areAll_int_1__impl_isColor.spec k) := by
  have h := fn_ok (F := impl_areAll_int_1__impl_isColor.T) (tbl := impl_areAll_int_1__impl_isColor.tbl) mixed tyok Go.Proofs.Tryd.func50 (by kernel_rfl) (c0 := bodyOf Go.Proofs.Tryd.f50) rfl (conv_code _ _ _) rfl rfl impl_areAll_int_1__impl_isColor.ok k (fun j _ => impl_areAll_int_1__impl_isColor.tblok j)
  have e : impl_areAll_int_1__impl_isColor.spec k = ⟨impl_areAll_int_1__impl_isColor.T.ps, impl_areAll_int_1__impl_isColor.T.rs, impl_areAll_int_1__impl_isColor.T.ev tyt impl_areAll_int_1__impl_isColor.tbl k⟩ := congrArg (FnSpec.mk _ _) (funext fun x => ((impl_areAll_int_1__impl_isColor.e k (impl_areAll_int_1__impl_isColor.T.run tyt impl_areAll_int_1__impl_isColor.tbl k) x).trans (by rfl)).symm)
  rw [e]
  exact h
/-! ### slices_IndexFunc_int_int__impl_areAll_int_1__impl_isColor: function 62 -/
def slices_IndexFunc_int_int__impl_areAll_int_1__impl_isColor.b3 (o3 : List Int → Int → Int → Option (Int)) (k : Nat) (l0_3 : List Int) (x1_3 : Int) (x2_3 : Int) : Option (Int) := (if x2_3 < x1_3 then ((chk l0_3.length x2_3).bind fun i1 => ((impl_areAll_int_1__impl_isColor.f k (l0_3.getD i1 0)).bind fun r2 => (cond r2 (some x2_3) (o3 l0_3 x1_3 (w64 (x2_3 + 1)))))) else (some (-1)))
def slices_IndexFunc_int_int__impl_areAll_int_1__impl_isColor.l3 : Nat → List Int → Int → Int → Option (Int)
  | 0, _, _, _ => none
  | k + 1, l0_3, x1_3, x2_3 => slices_IndexFunc_int_int__impl_areAll_int_1__impl_isColor.b3 (slices_IndexFunc_int_int__impl_areAll_int_1__impl_isColor.l3 k) k l0_3 x1_3 x2_3
def slices_IndexFunc_int_int__impl_areAll_int_1__impl_isColor.m (o3 : List Int → Int → Int → Option (Int)) (k : Nat) (l0 : List Int) : Option (Int) := (o3 l0 (l0.length : Int) 0)
def slices_IndexFunc_int_int__impl_areAll_int_1__impl_isColor.f (k : Nat) (l0 : List Int) : Option (Int) := slices_IndexFunc_int_int__impl_areAll_int_1__impl_isColor.m (slices_IndexFunc_int_int__impl_areAll_int_1__impl_isColor.l3 k) k l0
noncomputable def slices_IndexFunc_int_int__impl_areAll_int_1__impl_isColor.spec (k : Nat) : FnSpec := ⟨[.d (.sl (.int .i64)) none, .fv 50 [] [.rb [.fv 32 [] []]]], [.d (.int .i64) none], fun x => slices_IndexFunc_int_int__impl_areAll_int_1__impl_isColor.f k x⟩
def slices_IndexFunc_int_int__impl_areAll_int_1__impl_isColor.S3 (l0_3 : List Int) (x1_3 : Int) (x2_3 : Int) : St := ⟨[(0, .val (.sl (.int .i64)) l0_3), (1, .fn 50 [] [.cptr [.fn 32 [] []] 0]), (7, .val (.int .i64) x1_3), (8, .val (.int .i64) x2_3)], [], 1000⟩
noncomputable def slices_IndexFunc_int_int__impl_areAll_int_1__impl_isColor.T : FnText := ⟨(conv [] (bodyOf Go.Proofs.Tryd.f62) 0).1, Go.Proofs.Tryd.f62.results.toList, 19, [(3, [(0, .rd (.sl (.int .i64))), (1, .as), (7, .rd (.int .i64)), (8, .rd (.int .i64))])], [.d (.sl (.int .i64)) none, .fv 50 [] [.rb [.fv 32 [] []]]], [.d (.int .i64) none]⟩
noncomputable def slices_IndexFunc_int_int__impl_areAll_int_1__impl_isColor.tbl (k : Nat) : Tbl := [(50, impl_areAll_int_1__impl_isColor.spec k)]
theorem slices_IndexFunc_int_int__impl_areAll_int_1__impl_isColor.e3 (k : Nat) (o : Nat → St → Option (Int)) (l0_3 : List Int) (x1_3 : Int) (x2_3 : Int) : slices_IndexFunc_int_int__impl_areAll_int_1__impl_isColor.T.step tyt (slices_IndexFunc_int_int__impl_areAll_int_1__impl_isColor.tbl k) o 3 (slices_IndexFunc_int_int__impl_areAll_int_1__impl_isColor.S3 l0_3 x1_3 x2_3) = slices_IndexFunc_int_int__impl_areAll_int_1__impl_isColor.b3 (fun l0_3 x1_3 x2_3 => o 3 (slices_IndexFunc_int_int__impl_areAll_int_1__impl_isColor.S3 l0_3 x1_3 x2_3)) k l0_3 x1_3 x2_3 := by kernel_rfl
theorem slices_IndexFunc_int_int__impl_areAll_int_1__impl_isColor.e (k : Nat) (o : Nat → St → Option (Int)) (l0 : List Int) : slices_IndexFunc_int_int__impl_areAll_int_1__impl_isColor.T.main tyt (slices_IndexFunc_int_int__impl_areAll_int_1__impl_isColor.tbl k) o l0 = slices_IndexFunc_int_int__impl_areAll_int_1__impl_isColor.m (fun l0_3 x1_3 x2_3 => o 3 (slices_IndexFunc_int_int__impl_areAll_int_1__impl_isColor.S3 l0_3 x1_3 x2_3)) k l0 := by kernel_rfl
theorem slices_IndexFunc_int_int__impl_areAll_int_1__impl_isColor.ok : slices_IndexFunc_int_int__impl_areAll_int_1__impl_isColor.T.ok = true := by kernel_rfl
theorem slices_IndexFunc_int_int__impl_areAll_int_1__impl_isColor.run (k : Nat) : (∀ (l0_3 : List Int) (x1_3 : Int) (x2_3 : Int), slices_IndexFunc_int_int__impl_areAll_int_1__impl_isColor.T.run tyt slices_IndexFunc_int_int__impl_areAll_int_1__impl_isColor.tbl k 3 (slices_IndexFunc_int_int__impl_areAll_int_1__impl_isColor.S3 l0_3 x1_3 x2_3) = slices_IndexFunc_int_int__impl_areAll_int_1__impl_isColor.l3 k l0_3 x1_3 x2_3) := by
  induction k with
  | zero => exact fun l0_3 x1_3 x2_3 => rfl
  | succ k ih =>
    exact fun l0_3 x1_3 x2_3 => by
      have q3 : (fun l0_3 x1_3 x2_3 => slices_IndexFunc_int_int__impl_areAll_int_1__impl_isColor.T.run tyt slices_IndexFunc_int_int__impl_areAll_int_1__impl_isColor.tbl k 3 (slices_IndexFunc_int_int__impl_areAll_int_1__impl_isColor.S3 l0_3 x1_3 x2_3)) = slices_IndexFunc_int_int__impl_areAll_int_1__impl_isColor.l3 k := by funext l0_3 x1_3 x2_3; exact ih l0_3 x1_3 x2_3
      exact (slices_IndexFunc_int_int__impl_areAll_int_1__impl_isColor.e3 k (slices_IndexFunc_int_int__impl_areAll_int_1__impl_isColor.T.run tyt slices_IndexFunc_int_int__impl_areAll_int_1__impl_isColor.tbl k) l0_3 x1_3 x2_3).trans (by rw [q3]; rfl)
theorem slices_IndexFunc_int_int__impl_areAll_int_1__impl_isColor.tblok (k : Nat) : TblOk Go.Proofs.Tryd.prog (slices_IndexFunc_int_int__impl_areAll_int_1__impl_isColor.tbl k) := TblOk.cons (impl_areAll_int_1__impl_isColor.sound k) (TblOk.nil _)
theorem slices_IndexFunc_int_int__impl_areAll_int_1__impl_isColor.sound (k : Nat) : Sound Go.Proofs.Tryd.prog 62 (slices_IndexFunc_int_int__impl_areAll_int_1__impl_isColor.spec k) := by
  have h := fn_ok (F := slices_IndexFunc_int_int__impl_areAll_int_1__impl_isColor.T) (tbl := slices_IndexFunc_int_int__impl_areAll_int_1__impl_isColor.tbl) mixed tyok Go.Proofs.Tryd.func62 (by kernel_rfl) (c0 := bodyOf Go.Proofs.Tryd.f62) rfl (conv_code _ _ _) rfl rfl slices_IndexFunc_int_int__impl_areAll_int_1__impl_isColor.ok k (fun j _ => slices_IndexFunc_int_int__impl_areAll_int_1__impl_isColor.tblok j)
  have q3 : (fun l0_3 x1_3 x2_3 => slices_IndexFunc_int_int__impl_areAll_int_1__impl_isColor.T.run tyt slices_IndexFunc_int_int__impl_areAll_int_1__impl_isColor.tbl k 3 (slices_IndexFunc_int_int__impl_areAll_int_1__impl_isColor.S3 l0_3 x1_3 x2_3)) = slices_IndexFunc_int_int__impl_areAll_int_1__impl_isColor.l3 k := by funext l0_3 x1_3 x2_3; exact (slices_IndexFunc_int_int__impl_areAll_int_1__impl_isColor.run k) l0_3 x1_3 x2_3
  have e : slices_IndexFunc_int_int__impl_areAll_int_1__impl_isColor.spec k = ⟨slices_IndexFunc_int_int__impl_areAll_int_1__impl_isColor.T.ps, slices_IndexFunc_int_int__impl_areAll_int_1__impl_isColor.T.rs, slices_IndexFunc_int_int__impl_areAll_int_1__impl_isColor.T.ev tyt slices_IndexFunc_int_int__impl_areAll_int_1__impl_isColor.tbl k⟩ := congrArg (FnSpec.mk _ _) (funext fun x => ((slices_IndexFunc_int_int__impl_areAll_int_1__impl_isColor.e k (slices_IndexFunc_int_int__impl_areAll_int_1__impl_isColor.T.run tyt slices_IndexFunc_int_int__impl_areAll_int_1__impl_isColor.tbl k) x).trans (by rw [q3]; rfl)).symm)
  rw [e]
  exact h
/-! ### slices_ContainsFunc_int_int__impl_areAll_int_1__impl_isColor: function 49 -/
def slices_ContainsFunc_int_int__impl_areAll_int_1__impl_isColor.m (k : Nat) (l0 : List Int) : Option (Bool) := ((slices_IndexFunc_int_int__impl_areAll_int_1__impl_isColor.f k l0).bind fun r1 => (some (decide (0 ≤ r1))))
def slices_ContainsFunc_int_int__impl_areAll_int_1__impl_isColor.f (k : Nat) (l0 : List Int) : Option (Bool) := slices_ContainsFunc_int_int__impl_areAll_int_1__impl_isColor.m k l0
noncomputable def slices_ContainsFunc_int_int__impl_areAll_int_1__impl_isColor.spec (k : Nat) : FnSpec := ⟨[.d (.sl (.int .i64)) none, .fv 50 [] [.rb [.fv 32 [] []]]], [.d .bool none], fun x => slices_ContainsFunc_int_int__impl_areAll_int_1__impl_isColor.f k x⟩
noncomputable def slices_ContainsFunc_int_int__impl_areAll_int_1__impl_isColor.T : FnText := ⟨(conv [] (bodyOf Go.Proofs.Tryd.f49) 0).1, Go.Proofs.Tryd.f49.results.toList, 9, [], [.d (.sl (.int .i64)) none, .fv 50 [] [.rb [.fv 32 [] []]]], [.d .bool none]⟩
noncomputable def slices_ContainsFunc_int_int__impl_areAll_int_1__impl_isColor.tbl (k : Nat) : Tbl := [(62, slices_IndexFunc_int_int__impl_areAll_int_1__impl_isColor.spec k)]
theorem slices_ContainsFunc_int_int__impl_areAll_int_1__impl_isColor.e (k : Nat) (o : Nat → St → Option (Bool)) (l0 : List Int) : slices_ContainsFunc_int_int__impl_areAll_int_1__impl_isColor.T.main tyt (slices_ContainsFunc_int_int__impl_areAll_int_1__impl_isColor.tbl k) o l0 = slices_ContainsFunc_int_int__impl_areAll_int_1__impl_isColor.m k l0 := by kernel_rfl
theorem slices_ContainsFunc_int_int__impl_areAll_int_1__impl_isColor.ok : slices_ContainsFunc_int_int__impl_areAll_int_1__impl_isColor.T.ok = true := by kernel_rfl
theorem slices_ContainsFunc_int_int__impl_areAll_int_1__impl_isColor.tblok (k : Nat) : TblOk Go.Proofs.Tryd.prog (slices_ContainsFunc_int_int__impl_areAll_int_1__impl_isColor.tbl k) := TblOk.cons (slices_IndexFunc_int_int__impl_areAll_int_1__impl_isColor.sound k) (TblOk.nil _)
theorem slices_ContainsFunc_int_int__impl_areAll_int_1__impl_isColor.sound (k : Nat) : Sound Go.Proofs.Tryd.prog 49 (slices_ContainsFunc_int_int__impl_areAll_int_1__impl_isColor.spec k) := by
  have h := fn_ok (F := slices_ContainsFunc_int_int__impl_areAll_int_1__impl_isColor.T) (tbl := slices_ContainsFunc_int_int__impl_areAll_int_1__impl_isColor.tbl) mixed tyok Go.Proofs.Tryd.func49 (by kernel_rfl) (c0 := bodyOf Go.Proofs.Tryd.f49) rfl (conv_code _ _ _) rfl rfl slices_ContainsFunc_int_int__impl_areAll_int_1__impl_isColor.ok k (fun j _ => slices_ContainsFunc_int_int__impl_areAll_int_1__impl_isColor.tblok j)
  have e : slices_ContainsFunc_int_int__impl_areAll_int_1__impl_isColor.spec k = ⟨slices_ContainsFunc_int_int__impl_areAll_int_1__impl_isColor.T.ps, slices_ContainsFunc_int_int__impl_areAll_int_1__impl_isColor.T.rs, slices_ContainsFunc_int_int__impl_areAll_int_1__impl_isColor.T.ev tyt slices_ContainsFunc_int_int__impl_areAll_int_1__impl_isColor.tbl k⟩ := congrArg (FnSpec.mk _ _) (funext fun x => ((slices_ContainsFunc_int_int__impl_areAll_int_1__impl_isColor.e k (slices_ContainsFunc_int_int__impl_areAll_int_1__impl_isColor.T.run tyt slices_ContainsFunc_int_int__impl_areAll_int_1__impl_isColor.tbl k) x).trans (by rfl)).symm)
  rw [e]
  exact h
/-! ### impl_areAll_int__impl_isColor: function 31 -/
def impl_areAll_int__impl_isColor.m (k : Nat) (l0 : List Int) : Option (Bool) := ((slices_ContainsFunc_int_int__impl_areAll_int_1__impl_isColor.f k l0).bind fun r1 => (some (!r1)))
def impl_areAll_int__impl_isColor.f (k : Nat) (l0 : List Int) : Option (Bool) := impl_areAll_int__impl_isColor.m k l0
noncomputable def impl_areAll_int__impl_isColor.spec (k : Nat) : FnSpec := ⟨[.d (.sl (.int .i64)) none, .fv 32 [] []], [.d .bool none], fun x => impl_areAll_int__impl_isColor.f k x⟩
noncomputable def impl_areAll_int__impl_isColor.T : FnText := ⟨(conv [] (bodyOf Go.Proofs.Tryd.f31) 0).1, Go.Proofs.Tryd.f31.results.toList, 9, [], [.d (.sl (.int .i64)) none, .fv 32 [] []], [.d .bool none]⟩
noncomputable def impl_areAll_int__impl_isColor.tbl (k : Nat) : Tbl := [(49, slices_ContainsFunc_int_int__impl_areAll_int_1__impl_isColor.spec k)]
theorem impl_areAll_int__impl_isColor.e (k : Nat) (o : Nat → St → Option (Bool)) (l0 : List Int) : impl_areAll_int__impl_isColor.T.main tyt (impl_areAll_int__impl_isColor.tbl k) o l0 = impl_areAll_int__impl_isColor.m k l0 := by kernel_rfl
theorem impl_areAll_int__impl_isColor.ok : impl_areAll_int__impl_isColor.T.ok = true := by kernel_rfl
theorem impl_areAll_int__impl_isColor.tblok (k : Nat) : TblOk Go.Proofs.Tryd.prog (impl_areAll_int__impl_isColor.tbl k) := TblOk.cons (slices_ContainsFunc_int_int__impl_areAll_int_1__impl_isColor.sound k) (TblOk.nil _)
theorem impl_areAll_int__impl_isColor.sound (k : Nat) : Sound Go.Proofs.Tryd.prog 31 (impl_areAll_int__impl_isColor.spec k) := by
  have h := fn_ok (F := impl_areAll_int__impl_isColor.T) (tbl := impl_areAll_int__impl_isColor.tbl) mixed tyok Go.Proofs.Tryd.func31 (by kernel_rfl) (c0 := bodyOf Go.Proofs.Tryd.f31) rfl (conv_code _ _ _) rfl rfl impl_areAll_int__impl_isColor.ok k (fun j _ => impl_areAll_int__impl_isColor.tblok j)
  have e : impl_areAll_int__impl_isColor.spec k = ⟨impl_areAll_int__impl_isColor.T.ps, impl_areAll_int__impl_isColor.T.rs, impl_areAll_int__impl_isColor.T.ev tyt impl_areAll_int__impl_isColor.tbl k⟩ := congrArg (FnSpec.mk _ _) (funext fun x => ((impl_areAll_int__impl_isColor.e k (impl_areAll_int__impl_isColor.T.run tyt impl_areAll_int__impl_isColor.tbl k) x).trans (by rfl)).symm)
  rw [e]
  exact h
/-! ### impl_IsChart: function 9 -/
def impl_IsChart.m (k : Nat) (a0_0 : Int) (a0_1 : Int) (l0_2 : List Int) : Option (Bool) := ((impl_isSide.f k a0_0).bind fun r1 => (cond r1 ((impl_isSide.f k a0_1).bind fun r2 => (cond r2 (if (l0_2.length : Int) = (w64 (a0_0 * a0_1)) then ((impl_areAll_int__impl_isColor.f k l0_2).bind fun r3 => (some r3)) else (some false)) (some false))) (some false)))
def impl_IsChart.f (k : Nat) (a0_0 : Int) (a0_1 : Int) (l0_2 : List Int) : Option (Bool) := impl_IsChart.m k a0_0 a0_1 l0_2
noncomputable def impl_IsChart.spec (k : Nat) : FnSpec := ⟨[.ag [.d (.int .i64) none, .d (.int .i64) none, .d (.sl (.int .i64)) none]], [.d .bool none], fun x => impl_IsChart.f k x.1 x.2.1 x.2.2⟩
noncomputable def impl_IsChart.T : FnText := ⟨(conv [] (bodyOf Go.Proofs.Tryd.f9) 0).1, Go.Proofs.Tryd.f9.results.toList, 27, [], [.ag [.d (.int .i64) none, .d (.int .i64) none, .d (.sl (.int .i64)) none]], [.d .bool none]⟩
noncomputable def impl_IsChart.tbl (k : Nat) : Tbl := [(30, impl_isSide.spec k), (31, impl_areAll_int__impl_isColor.spec k)]
theorem impl_IsChart.e (k : Nat) (o : Nat → St → Option (Bool)) (a0_0 : Int) (a0_1 : Int) (l0_2 : List Int) : impl_IsChart.T.main tyt (impl_IsChart.tbl k) o (a0_0, a0_1, l0_2) = impl_IsChart.m k a0_0 a0_1 l0_2 := by kernel_rfl
theorem impl_IsChart.ok : impl_IsChart.T.ok = true := by kernel_rfl
theorem impl_IsChart.tblok (k : Nat) : TblOk Go.Proofs.Tryd.prog (impl_IsChart.tbl k) := TblOk.cons (impl_isSide.sound k) (TblOk.cons (impl_areAll_int__impl_isColor.sound k) (TblOk.nil _))
theorem impl_IsChart.sound (k : Nat) : Sound Go.Proofs.Tryd.prog 9 (impl_IsChart.spec k) := by
  have h := fn_ok (F := impl_IsChart.T) (tbl := impl_IsChart.tbl) mixed tyok Go.Proofs.Tryd.func9 (by kernel_rfl) (c0 := bodyOf Go.Proofs.Tryd.f9) rfl (conv_code _ _ _) rfl rfl impl_IsChart.ok k (fun j _ => impl_IsChart.tblok j)
  have e : impl_IsChart.spec k = ⟨impl_IsChart.T.ps, impl_IsChart.T.rs, impl_IsChart.T.ev tyt impl_IsChart.tbl k⟩ := congrArg (FnSpec.mk _ _) (funext fun x => ((impl_IsChart.e k (impl_IsChart.T.run tyt impl_IsChart.tbl k) x.1 x.2.1 x.2.2).trans (by rfl)).symm)
  rw [e]
  exact h
/-! ### strings_Join: function 26, by its contract -/
def strings_Join.f (k : Nat) (a0 : List ByteArray) (a1 : ByteArray) : Option (ByteArray) := joinF a0 a1
noncomputable def strings_Join.spec (k : Nat) : FnSpec := ⟨[.d (.sl .str) none, .d .str none], [.d .str none], fun x => strings_Join.f k x.1 x.2⟩
theorem strings_Join.sound (k : Nat) : Sound Go.Proofs.Tryd.prog 26 (strings_Join.spec k) := strJoin_ok

/-! ### impl_Chart_at: function 25 -/
def impl_Chart_at.m (k : Nat) (a0_0 : Int) (a0_1 : Int) (l0_2 : List Int) (a1 : Int) (a2 : Int) : Option (Int) := ((chk l0_2.length (w64 ((w64 (a1 * a0_0)) + a2))).bind fun i1 => (some (l0_2.getD i1 0)))
def impl_Chart_at.f (k : Nat) (a0_0 : Int) (a0_1 : Int) (l0_2 : List Int) (a1 : Int) (a2 : Int) : Option (Int) := impl_Chart_at.m k a0_0 a0_1 l0_2 a1 a2
noncomputable def impl_Chart_at.spec (k : Nat) : FnSpec := ⟨[.ag [.d (.int .i64) none, .d (.int .i64) none, .d (.sl (.int .i64)) none], .d (.int .i64) none, .d (.int .i64) none], [.d (.int .i64) none], fun x => impl_Chart_at.f k x.1 x.2.1 x.2.2.1 x.2.2.2.1 x.2.2.2.2⟩
noncomputable def impl_Chart_at.T : FnText := ⟨(conv [] (bodyOf Go.Proofs.Tryd.f25) 0).1, Go.Proofs.Tryd.f25.results.toList, 17, [], [.ag [.d (.int .i64) none, .d (.int .i64) none, .d (.sl (.int .i64)) none], .d (.int .i64) none, .d (.int .i64) none], [.d (.int .i64) none]⟩
noncomputable def impl_Chart_at.tbl (k : Nat) : Tbl := []
theorem impl_Chart_at.e (k : Nat) (o : Nat → St → Option (Int)) (a0_0 : Int) (a0_1 : Int) (l0_2 : List Int) (a1 : Int) (a2 : Int) : impl_Chart_at.T.main tyt (impl_Chart_at.tbl k) o (a0_0, a0_1, l0_2, a1, a2) = impl_Chart_at.m k a0_0 a0_1 l0_2 a1 a2 := by kernel_rfl
theorem impl_Chart_at.ok : impl_Chart_at.T.ok = true := by kernel_rfl
theorem impl_Chart_at.tblok (k : Nat) : TblOk Go.Proofs.Tryd.prog (impl_Chart_at.tbl k) := TblOk.nil _
theorem impl_Chart_at.sound (k : Nat) : Sound Go.Proofs.Tryd.prog 25 (impl_Chart_at.spec k) := by
  have h := fn_ok (F := impl_Chart_at.T) (tbl := impl_Chart_at.tbl) mixed tyok Go.Proofs.Tryd.func25 (by kernel_rfl) (c0 := bodyOf Go.Proofs.Tryd.f25) rfl (conv_code _ _ _) rfl rfl impl_Chart_at.ok k (fun j _ => impl_Chart_at.tblok j)
  have e : impl_Chart_at.spec k = ⟨impl_Chart_at.T.ps, impl_Chart_at.T.rs, impl_Chart_at.T.ev tyt impl_Chart_at.tbl k⟩ := congrArg (FnSpec.mk _ _) (funext fun x => ((impl_Chart_at.e k (impl_Chart_at.T.run tyt impl_Chart_at.tbl k) x.1 x.2.1 x.2.2.1 x.2.2.2.1 x.2.2.2.2).trans (by rfl)).symm)
  rw [e]
  exact h
/-! ### impl_ChartText: function 6 -/
def impl_ChartText.b7 (o15 : Int → Int → List Int → List ByteArray → Int → List Int → Int → Int → Int → Int → Option (ByteArray × Bool)) (k : Nat) (x0_7 : Int) (x1_7 : Int) (l2_7 : List Int) (l3_7 : List ByteArray) (x4_7 : Int) (x5_7 : Int) : Option (ByteArray × Bool) := (if x5_7 < x4_7 then (o15 x0_7 x1_7 l2_7 l3_7 x5_7 ([] : List (Int)) x4_7 x5_7 x0_7 0) else ((strings_Join.f k l3_7 (⟨#[47]⟩ : ByteArray)).bind fun r2 => (some (r2, true))))
def impl_ChartText.b15 (o7 : Int → Int → List Int → List ByteArray → Int → Int → Option (ByteArray × Bool)) (o15 : Int → Int → List Int → List ByteArray → Int → List Int → Int → Int → Int → Int → Option (ByteArray × Bool)) (k : Nat) (x0_15 : Int) (x1_15 : Int) (l2_15 : List Int) (l3_15 : List ByteArray) (x4_15 : Int) (l5_15 : List Int) (x6_15 : Int) (x7_15 : Int) (x8_15 : Int) (x9_15 : Int) : Option (ByteArray × Bool) := (if x9_15 < x8_15 then ((impl_Chart_at.f k x0_15 x1_15 l2_15 x4_15 x9_15).bind fun r3 => ((app 140737488355328 l5_15 [(IntKind.u8.wrap ((w64 (97 + r3))))]).bind fun l4 => (o15 x0_15 x1_15 l2_15 l3_15 x4_15 l4 x6_15 x7_15 x8_15 (w64 (x9_15 + 1))))) else ((app 8796093022208 l3_15 [(ofBytes l5_15)]).bind fun l5 => (o7 x0_15 x1_15 l2_15 l5 x6_15 (w64 (x7_15 + 1)))))
mutual
def impl_ChartText.l7 : Nat → Int → Int → List Int → List ByteArray → Int → Int → Option (ByteArray × Bool)
  | 0, _, _, _, _, _, _ => none
  | k + 1, x0_7, x1_7, l2_7, l3_7, x4_7, x5_7 => impl_ChartText.b7 (impl_ChartText.l15 k) k x0_7 x1_7 l2_7 l3_7 x4_7 x5_7
def impl_ChartText.l15 : Nat → Int → Int → List Int → List ByteArray → Int → List Int → Int → Int → Int → Int → Option (ByteArray × Bool)
  | 0, _, _, _, _, _, _, _, _, _, _ => none
  | k + 1, x0_15, x1_15, l2_15, l3_15, x4_15, l5_15, x6_15, x7_15, x8_15, x9_15 => impl_ChartText.b15 (impl_ChartText.l7 k) (impl_ChartText.l15 k) k x0_15 x1_15 l2_15 l3_15 x4_15 l5_15 x6_15 x7_15 x8_15 x9_15
end
def impl_ChartText.m (o7 : Int → Int → List Int → List ByteArray → Int → Int → Option (ByteArray × Bool)) (k : Nat) (a0_0 : Int) (a0_1 : Int) (l0_2 : List Int) : Option (ByteArray × Bool) := ((impl_IsChart.f k a0_0 a0_1 l0_2).bind fun r1 => (cond (!r1) (some ((⟨#[]⟩ : ByteArray), false)) (o7 a0_0 a0_1 l0_2 ([] : List (ByteArray)) a0_1 0)))
def impl_ChartText.f (k : Nat) (a0_0 : Int) (a0_1 : Int) (l0_2 : List Int) : Option (ByteArray × Bool) := impl_ChartText.m (impl_ChartText.l7 k) k a0_0 a0_1 l0_2
noncomputable def impl_ChartText.spec (k : Nat) : FnSpec := ⟨[.ag [.d (.int .i64) none, .d (.int .i64) none, .d (.sl (.int .i64)) none]], [.d .str none, .d .bool none], fun x => impl_ChartText.f k x.1 x.2.1 x.2.2⟩
def impl_ChartText.S7 (x0_7 : Int) (x1_7 : Int) (l2_7 : List Int) (l3_7 : List ByteArray) (x4_7 : Int) (x5_7 : Int) : St := ⟨[(1, .ptr 100 0), (4, .ref 101), (13, .val (.int .i64) x4_7), (14, .val (.int .i64) x5_7)], [(101, some (.row 9 .str l3_7)), (100, some (.box [.val (.int .i64) x0_7, .val (.int .i64) x1_7, .val (.sl (.int .i64)) l2_7]))], 1000⟩
def impl_ChartText.S15 (x0_15 : Int) (x1_15 : Int) (l2_15 : List Int) (l3_15 : List ByteArray) (x4_15 : Int) (l5_15 : List Int) (x6_15 : Int) (x7_15 : Int) (x8_15 : Int) (x9_15 : Int) : St := ⟨[(1, .ptr 100 0), (4, .ref 101), (5, .val (.int .i64) x4_15), (6, .ref 102), (13, .val (.int .i64) x6_15), (14, .val (.int .i64) x7_15), (19, .val (.int .i64) x8_15), (20, .val (.int .i64) x9_15)], [(102, some (.row 5 (.int .u8) l5_15)), (101, some (.row 9 .str l3_15)), (100, some (.box [.val (.int .i64) x0_15, .val (.int .i64) x1_15, .val (.sl (.int .i64)) l2_15]))], 1000⟩
noncomputable def impl_ChartText.T : FnText := ⟨(conv [] (bodyOf Go.Proofs.Tryd.f6) 0).1, Go.Proofs.Tryd.f6.results.toList, 41, [(7, [(1, .bx 100 [.rd (.int .i64), .rd (.int .i64), .rd (.sl (.int .i64))]), (4, .own 9 .str 101), (13, .rd (.int .i64)), (14, .rd (.int .i64))]), (15, [(1, .bx 100 [.rd (.int .i64), .rd (.int .i64), .rd (.sl (.int .i64))]), (4, .own 9 .str 101), (5, .rd (.int .i64)), (6, .own 5 (.int .u8) 102), (13, .rd (.int .i64)), (14, .rd (.int .i64)), (19, .rd (.int .i64)), (20, .rd (.int .i64))])], [.ag [.d (.int .i64) none, .d (.int .i64) none, .d (.sl (.int .i64)) none]], [.d .str none, .d .bool none]⟩
noncomputable def impl_ChartText.tbl (k : Nat) : Tbl := [(9, impl_IsChart.spec k), (26, strings_Join.spec k), (25, impl_Chart_at.spec k)]
theorem impl_ChartText.e7 (k : Nat) (o : Nat → St → Option (ByteArray × Bool)) (x0_7 : Int) (x1_7 : Int) (l2_7 : List Int) (l3_7 : List ByteArray) (x4_7 : Int) (x5_7 : Int) : impl_ChartText.T.step tyt (impl_ChartText.tbl k) o 7 (impl_ChartText.S7 x0_7 x1_7 l2_7 l3_7 x4_7 x5_7) = impl_ChartText.b7 (fun x0_15 x1_15 l2_15 l3_15 x4_15 l5_15 x6_15 x7_15 x8_15 x9_15 => o 15 (impl_ChartText.S15 x0_15 x1_15 l2_15 l3_15 x4_15 l5_15 x6_15 x7_15 x8_15 x9_15)) k x0_7 x1_7 l2_7 l3_7 x4_7 x5_7 := by kernel_rfl
theorem impl_ChartText.e15 (k : Nat) (o : Nat → St → Option (ByteArray × Bool)) (x0_15 : Int) (x1_15 : Int) (l2_15 : List Int) (l3_15 : List ByteArray) (x4_15 : Int) (l5_15 : List Int) (x6_15 : Int) (x7_15 : Int) (x8_15 : Int) (x9_15 : Int) : impl_ChartText.T.step tyt (impl_ChartText.tbl k) o 15 (impl_ChartText.S15 x0_15 x1_15 l2_15 l3_15 x4_15 l5_15 x6_15 x7_15 x8_15 x9_15) = impl_ChartText.b15 (fun x0_7 x1_7 l2_7 l3_7 x4_7 x5_7 => o 7 (impl_ChartText.S7 x0_7 x1_7 l2_7 l3_7 x4_7 x5_7)) (fun x0_15 x1_15 l2_15 l3_15 x4_15 l5_15 x6_15 x7_15 x8_15 x9_15 => o 15 (impl_ChartText.S15 x0_15 x1_15 l2_15 l3_15 x4_15 l5_15 x6_15 x7_15 x8_15 x9_15)) k x0_15 x1_15 l2_15 l3_15 x4_15 l5_15 x6_15 x7_15 x8_15 x9_15 := by kernel_rfl
theorem impl_ChartText.e (k : Nat) (o : Nat → St → Option (ByteArray × Bool)) (a0_0 : Int) (a0_1 : Int) (l0_2 : List Int) : impl_ChartText.T.main tyt (impl_ChartText.tbl k) o (a0_0, a0_1, l0_2) = impl_ChartText.m (fun x0_7 x1_7 l2_7 l3_7 x4_7 x5_7 => o 7 (impl_ChartText.S7 x0_7 x1_7 l2_7 l3_7 x4_7 x5_7)) k a0_0 a0_1 l0_2 := by kernel_rfl
theorem impl_ChartText.ok : impl_ChartText.T.ok = true := by kernel_rfl
theorem impl_ChartText.run (k : Nat) : (∀ (x0_7 : Int) (x1_7 : Int) (l2_7 : List Int) (l3_7 : List ByteArray) (x4_7 : Int) (x5_7 : Int), impl_ChartText.T.run tyt impl_ChartText.tbl k 7 (impl_ChartText.S7 x0_7 x1_7 l2_7 l3_7 x4_7 x5_7) = impl_ChartText.l7 k x0_7 x1_7 l2_7 l3_7 x4_7 x5_7) ∧ (∀ (x0_15 : Int) (x1_15 : Int) (l2_15 : List Int) (l3_15 : List ByteArray) (x4_15 : Int) (l5_15 : List Int) (x6_15 : Int) (x7_15 : Int) (x8_15 : Int) (x9_15 : Int), impl_ChartText.T.run tyt impl_ChartText.tbl k 15 (impl_ChartText.S15 x0_15 x1_15 l2_15 l3_15 x4_15 l5_15 x6_15 x7_15 x8_15 x9_15) = impl_ChartText.l15 k x0_15 x1_15 l2_15 l3_15 x4_15 l5_15 x6_15 x7_15 x8_15 x9_15) := by
  induction k with
  | zero => exact ⟨fun x0_7 x1_7 l2_7 l3_7 x4_7 x5_7 => rfl, fun x0_15 x1_15 l2_15 l3_15 x4_15 l5_15 x6_15 x7_15 x8_15 x9_15 => rfl⟩
  | succ k ih =>
    exact ⟨fun x0_7 x1_7 l2_7 l3_7 x4_7 x5_7 => by
      have q15 : (fun x0_15 x1_15 l2_15 l3_15 x4_15 l5_15 x6_15 x7_15 x8_15 x9_15 => impl_ChartText.T.run tyt impl_ChartText.tbl k 15 (impl_ChartText.S15 x0_15 x1_15 l2_15 l3_15 x4_15 l5_15 x6_15 x7_15 x8_15 x9_15)) = impl_ChartText.l15 k := by funext x0_15 x1_15 l2_15 l3_15 x4_15 l5_15 x6_15 x7_15 x8_15 x9_15; exact ih.2 x0_15 x1_15 l2_15 l3_15 x4_15 l5_15 x6_15 x7_15 x8_15 x9_15
      exact (impl_ChartText.e7 k (impl_ChartText.T.run tyt impl_ChartText.tbl k) x0_7 x1_7 l2_7 l3_7 x4_7 x5_7).trans (by rw [q15]; rfl), fun x0_15 x1_15 l2_15 l3_15 x4_15 l5_15 x6_15 x7_15 x8_15 x9_15 => by
      have q7 : (fun x0_7 x1_7 l2_7 l3_7 x4_7 x5_7 => impl_ChartText.T.run tyt impl_ChartText.tbl k 7 (impl_ChartText.S7 x0_7 x1_7 l2_7 l3_7 x4_7 x5_7)) = impl_ChartText.l7 k := by funext x0_7 x1_7 l2_7 l3_7 x4_7 x5_7; exact ih.1 x0_7 x1_7 l2_7 l3_7 x4_7 x5_7
      have q15 : (fun x0_15 x1_15 l2_15 l3_15 x4_15 l5_15 x6_15 x7_15 x8_15 x9_15 => impl_ChartText.T.run tyt impl_ChartText.tbl k 15 (impl_ChartText.S15 x0_15 x1_15 l2_15 l3_15 x4_15 l5_15 x6_15 x7_15 x8_15 x9_15)) = impl_ChartText.l15 k := by funext x0_15 x1_15 l2_15 l3_15 x4_15 l5_15 x6_15 x7_15 x8_15 x9_15; exact ih.2 x0_15 x1_15 l2_15 l3_15 x4_15 l5_15 x6_15 x7_15 x8_15 x9_15
      exact (impl_ChartText.e15 k (impl_ChartText.T.run tyt impl_ChartText.tbl k) x0_15 x1_15 l2_15 l3_15 x4_15 l5_15 x6_15 x7_15 x8_15 x9_15).trans (by rw [q7, q15]; rfl)⟩
theorem impl_ChartText.tblok (k : Nat) : TblOk Go.Proofs.Tryd.prog (impl_ChartText.tbl k) := TblOk.cons (impl_IsChart.sound k) (TblOk.cons (strings_Join.sound k) (TblOk.cons (impl_Chart_at.sound k) (TblOk.nil _)))
theorem impl_ChartText.sound (k : Nat) : Sound Go.Proofs.Tryd.prog 6 (impl_ChartText.spec k) := by
  have h := fn_ok (F := impl_ChartText.T) (tbl := impl_ChartText.tbl) mixed tyok Go.Proofs.Tryd.func6 (by kernel_rfl) (c0 := bodyOf Go.Proofs.Tryd.f6) rfl (conv_code _ _ _) rfl rfl impl_ChartText.ok k (fun j _ => impl_ChartText.tblok j)
  have q7 : (fun x0_7 x1_7 l2_7 l3_7 x4_7 x5_7 => impl_ChartText.T.run tyt impl_ChartText.tbl k 7 (impl_ChartText.S7 x0_7 x1_7 l2_7 l3_7 x4_7 x5_7)) = impl_ChartText.l7 k := by funext x0_7 x1_7 l2_7 l3_7 x4_7 x5_7; exact (impl_ChartText.run k).1 x0_7 x1_7 l2_7 l3_7 x4_7 x5_7
  have e : impl_ChartText.spec k = ⟨impl_ChartText.T.ps, impl_ChartText.T.rs, impl_ChartText.T.ev tyt impl_ChartText.tbl k⟩ := congrArg (FnSpec.mk _ _) (funext fun x => ((impl_ChartText.e k (impl_ChartText.T.run tyt impl_ChartText.tbl k) x.1 x.2.1 x.2.2).trans (by rw [q7]; rfl)).symm)
  rw [e]
  exact h
/-! ### strings_Split: function 27, by its contract -/
def strings_Split.f (k : Nat) (a0 : ByteArray) (a1 : ByteArray) : Option (List ByteArray) := splitF a0 a1
noncomputable def strings_Split.spec (k : Nat) : FnSpec := ⟨[.d .str none, .d .str none], [.d (.sl .str) none], fun x => strings_Split.f k x.1 x.2⟩
theorem strings_Split.sound (k : Nat) : Sound Go.Proofs.Tryd.prog 27 (strings_Split.spec k) := strSplit_ok

/-! ### impl_ParseChart: function 7 -/
def impl_ParseChart.b8 (o17 : Int → Int → List Int → Int → Int → List Int → ByteArray → List ByteArray → Int → Int → Int → Int → Option (Int × Int × List Int × Bool)) (k : Nat) (x0_8 : Int) (x1_8 : Int) (l2_8 : List Int) (x3_8 : Int) (x4_8 : Int) (l5_8 : List Int) (l6_8 : List ByteArray) (x7_8 : Int) (x8_8 : Int) : Option (Int × Int × List Int × Bool) := (if x8_8 < x7_8 then ((chk l6_8.length x8_8).bind fun i3 => (if ¬ ((l6_8.getD i3 ByteArray.empty).size : Int) = x3_8 then (some (0, 0, [], false)) else (o17 x0_8 x1_8 l2_8 x3_8 x4_8 l5_8 (l6_8.getD i3 ByteArray.empty) l6_8 x7_8 x8_8 ((l6_8.getD i3 ByteArray.empty).size : Int) 0))) else ((impl_IsChart.f k x3_8 x4_8 l5_8).bind fun r4 => (cond (!r4) (some (0, 0, [], false)) (some (x3_8, x4_8, l5_8, true)))))
def impl_ParseChart.b17 (o8 : Int → Int → List Int → Int → Int → List Int → List ByteArray → Int → Int → Option (Int × Int × List Int × Bool)) (o17 : Int → Int → List Int → Int → Int → List Int → ByteArray → List ByteArray → Int → Int → Int → Int → Option (Int × Int × List Int × Bool)) (k : Nat) (x0_17 : Int) (x1_17 : Int) (l2_17 : List Int) (x3_17 : Int) (x4_17 : Int) (l5_17 : List Int) (x6_17 : ByteArray) (l7_17 : List ByteArray) (x8_17 : Int) (x9_17 : Int) (x10_17 : Int) (x11_17 : Int) : Option (Int × Int × List Int × Bool) := (if x11_17 < x10_17 then ((chk x6_17.size x11_17).bind fun i5 => ((app 17592186044416 l5_17 [(w64 ((w64 ((byteAt x6_17 i5))) - 97))]).bind fun l6 => (o17 x0_17 x1_17 l2_17 x3_17 x4_17 l6 x6_17 l7_17 x8_17 x9_17 x10_17 (w64 (x11_17 + 1))))) else (o8 x0_17 x1_17 l2_17 x3_17 x4_17 l5_17 l7_17 x8_17 (w64 (x9_17 + 1))))
mutual
def impl_ParseChart.l8 : Nat → Int → Int → List Int → Int → Int → List Int → List ByteArray → Int → Int → Option (Int × Int × List Int × Bool)
  | 0, _, _, _, _, _, _, _, _, _ => none
  | k + 1, x0_8, x1_8, l2_8, x3_8, x4_8, l5_8, l6_8, x7_8, x8_8 => impl_ParseChart.b8 (impl_ParseChart.l17 k) k x0_8 x1_8 l2_8 x3_8 x4_8 l5_8 l6_8 x7_8 x8_8
def impl_ParseChart.l17 : Nat → Int → Int → List Int → Int → Int → List Int → ByteArray → List ByteArray → Int → Int → Int → Int → Option (Int × Int × List Int × Bool)
  | 0, _, _, _, _, _, _, _, _, _, _, _, _ => none
  | k + 1, x0_17, x1_17, l2_17, x3_17, x4_17, l5_17, x6_17, l7_17, x8_17, x9_17, x10_17, x11_17 => impl_ParseChart.b17 (impl_ParseChart.l8 k) (impl_ParseChart.l17 k) k x0_17 x1_17 l2_17 x3_17 x4_17 l5_17 x6_17 l7_17 x8_17 x9_17 x10_17 x11_17
end
def impl_ParseChart.m (o8 : Int → Int → List Int → Int → Int → List Int → List ByteArray → Int → Int → Option (Int × Int × List Int × Bool)) (k : Nat) (a0 : ByteArray) : Option (Int × Int × List Int × Bool) := (if 4000 < (a0.size : Int) then (some (0, 0, [], false)) else ((strings_Split.f k a0 (⟨#[47]⟩ : ByteArray)).bind fun r1 => ((chk r1.length 0).bind fun i2 => (o8 0 0 [] ((r1.getD i2 ByteArray.empty).size : Int) (r1.length : Int) [] r1 (r1.length : Int) 0))))
def impl_ParseChart.f (k : Nat) (a0 : ByteArray) : Option (Int × Int × List Int × Bool) := impl_ParseChart.m (impl_ParseChart.l8 k) k a0
noncomputable def impl_ParseChart.spec (k : Nat) : FnSpec := ⟨[.d .str none], [.ag [.d (.int .i64) none, .d (.int .i64) none, .d (.sl (.int .i64)) (some 3)], .d .bool none], fun x => impl_ParseChart.f k x⟩
def impl_ParseChart.S8 (x0_8 : Int) (x1_8 : Int) (l2_8 : List Int) (x3_8 : Int) (x4_8 : Int) (l5_8 : List Int) (l6_8 : List ByteArray) (x7_8 : Int) (x8_8 : Int) : St := ⟨[(2, .ptr 100 0), (5, .ptr 101 0), (22, .val (.sl .str) l6_8), (23, .val (.int .i64) x7_8), (24, .val (.int .i64) x8_8)], [(101, some (.box [.val (.int .i64) x3_8, .val (.int .i64) x4_8, .ref 102])), (102, some (.row 3 (.int .i64) l5_8)), (100, some (.box [.val (.int .i64) x0_8, .val (.int .i64) x1_8, .val (.sl (.int .i64)) l2_8]))], 1000⟩
def impl_ParseChart.S17 (x0_17 : Int) (x1_17 : Int) (l2_17 : List Int) (x3_17 : Int) (x4_17 : Int) (l5_17 : List Int) (x6_17 : ByteArray) (l7_17 : List ByteArray) (x8_17 : Int) (x9_17 : Int) (x10_17 : Int) (x11_17 : Int) : St := ⟨[(2, .ptr 100 0), (5, .ptr 101 0), (7, .val .str x6_17), (22, .val (.sl .str) l7_17), (23, .val (.int .i64) x8_17), (24, .val (.int .i64) x9_17), (35, .val (.int .i64) x10_17), (36, .val (.int .i64) x11_17)], [(101, some (.box [.val (.int .i64) x3_17, .val (.int .i64) x4_17, .ref 102])), (102, some (.row 3 (.int .i64) l5_17)), (100, some (.box [.val (.int .i64) x0_17, .val (.int .i64) x1_17, .val (.sl (.int .i64)) l2_17]))], 1000⟩
noncomputable def impl_ParseChart.T : FnText := ⟨(conv [] (bodyOf Go.Proofs.Tryd.f7) 0).1, Go.Proofs.Tryd.f7.results.toList, 56, [(8, [(2, .bx 100 [.rd (.int .i64), .rd (.int .i64), .rd (.sl (.int .i64))]), (5, .bx 101 [.rd (.int .i64), .rd (.int .i64), .own 3 (.int .i64) 102]), (22, .rd (.sl .str)), (23, .rd (.int .i64)), (24, .rd (.int .i64))]), (17, [(2, .bx 100 [.rd (.int .i64), .rd (.int .i64), .rd (.sl (.int .i64))]), (5, .bx 101 [.rd (.int .i64), .rd (.int .i64), .own 3 (.int .i64) 102]), (7, .rd .str), (22, .rd (.sl .str)), (23, .rd (.int .i64)), (24, .rd (.int .i64)), (35, .rd (.int .i64)), (36, .rd (.int .i64))])], [.d .str none], [.ag [.d (.int .i64) none, .d (.int .i64) none, .d (.sl (.int .i64)) (some 3)], .d .bool none]⟩
noncomputable def impl_ParseChart.tbl (k : Nat) : Tbl := [(27, strings_Split.spec k), (9, impl_IsChart.spec k)]
theorem impl_ParseChart.e8 (k : Nat) (o : Nat → St → Option (Int × Int × List Int × Bool)) (x0_8 : Int) (x1_8 : Int) (l2_8 : List Int) (x3_8 : Int) (x4_8 : Int) (l5_8 : List Int) (l6_8 : List ByteArray) (x7_8 : Int) (x8_8 : Int) : impl_ParseChart.T.step tyt (impl_ParseChart.tbl k) o 8 (impl_ParseChart.S8 x0_8 x1_8 l2_8 x3_8 x4_8 l5_8 l6_8 x7_8 x8_8) = impl_ParseChart.b8 (fun x0_17 x1_17 l2_17 x3_17 x4_17 l5_17 x6_17 l7_17 x8_17 x9_17 x10_17 x11_17 => o 17 (impl_ParseChart.S17 x0_17 x1_17 l2_17 x3_17 x4_17 l5_17 x6_17 l7_17 x8_17 x9_17 x10_17 x11_17)) k x0_8 x1_8 l2_8 x3_8 x4_8 l5_8 l6_8 x7_8 x8_8 := by kernel_rfl
theorem impl_ParseChart.e17 (k : Nat) (o : Nat → St → Option (Int × Int × List Int × Bool)) (x0_17 : Int) (x1_17 : Int) (l2_17 : List Int) (x3_17 : Int) (x4_17 : Int) (l5_17 : List Int) (x6_17 : ByteArray) (l7_17 : List ByteArray) (x8_17 : Int) (x9_17 : Int) (x10_17 : Int) (x11_17 : Int) : impl_ParseChart.T.step tyt (impl_ParseChart.tbl k) o 17 (impl_ParseChart.S17 x0_17 x1_17 l2_17 x3_17 x4_17 l5_17 x6_17 l7_17 x8_17 x9_17 x10_17 x11_17) = impl_ParseChart.b17 (fun x0_8 x1_8 l2_8 x3_8 x4_8 l5_8 l6_8 x7_8 x8_8 => o 8 (impl_ParseChart.S8 x0_8 x1_8 l2_8 x3_8 x4_8 l5_8 l6_8 x7_8 x8_8)) (fun x0_17 x1_17 l2_17 x3_17 x4_17 l5_17 x6_17 l7_17 x8_17 x9_17 x10_17 x11_17 => o 17 (impl_ParseChart.S17 x0_17 x1_17 l2_17 x3_17 x4_17 l5_17 x6_17 l7_17 x8_17 x9_17 x10_17 x11_17)) k x0_17 x1_17 l2_17 x3_17 x4_17 l5_17 x6_17 l7_17 x8_17 x9_17 x10_17 x11_17 := by kernel_rfl
theorem impl_ParseChart.e (k : Nat) (o : Nat → St → Option (Int × Int × List Int × Bool)) (a0 : ByteArray) : impl_ParseChart.T.main tyt (impl_ParseChart.tbl k) o a0 = impl_ParseChart.m (fun x0_8 x1_8 l2_8 x3_8 x4_8 l5_8 l6_8 x7_8 x8_8 => o 8 (impl_ParseChart.S8 x0_8 x1_8 l2_8 x3_8 x4_8 l5_8 l6_8 x7_8 x8_8)) k a0 := by kernel_rfl
theorem impl_ParseChart.ok : impl_ParseChart.T.ok = true := by kernel_rfl
theorem impl_ParseChart.run (k : Nat) : (∀ (x0_8 : Int) (x1_8 : Int) (l2_8 : List Int) (x3_8 : Int) (x4_8 : Int) (l5_8 : List Int) (l6_8 : List ByteArray) (x7_8 : Int) (x8_8 : Int), impl_ParseChart.T.run tyt impl_ParseChart.tbl k 8 (impl_ParseChart.S8 x0_8 x1_8 l2_8 x3_8 x4_8 l5_8 l6_8 x7_8 x8_8) = impl_ParseChart.l8 k x0_8 x1_8 l2_8 x3_8 x4_8 l5_8 l6_8 x7_8 x8_8) ∧ (∀ (x0_17 : Int) (x1_17 : Int) (l2_17 : List Int) (x3_17 : Int) (x4_17 : Int) (l5_17 : List Int) (x6_17 : ByteArray) (l7_17 : List ByteArray) (x8_17 : Int) (x9_17 : Int) (x10_17 : Int) (x11_17 : Int), impl_ParseChart.T.run tyt impl_ParseChart.tbl k 17 (impl_ParseChart.S17 x0_17 x1_17 l2_17 x3_17 x4_17 l5_17 x6_17 l7_17 x8_17 x9_17 x10_17 x11_17) = impl_ParseChart.l17 k x0_17 x1_17 l2_17 x3_17 x4_17 l5_17 x6_17 l7_17 x8_17 x9_17 x10_17 x11_17) := by
  induction k with
  | zero => exact ⟨fun x0_8 x1_8 l2_8 x3_8 x4_8 l5_8 l6_8 x7_8 x8_8 => rfl, fun x0_17 x1_17 l2_17 x3_17 x4_17 l5_17 x6_17 l7_17 x8_17 x9_17 x10_17 x11_17 => rfl⟩
  | succ k ih =>
    exact ⟨fun x0_8 x1_8 l2_8 x3_8 x4_8 l5_8 l6_8 x7_8 x8_8 => by
      have q17 : (fun x0_17 x1_17 l2_17 x3_17 x4_17 l5_17 x6_17 l7_17 x8_17 x9_17 x10_17 x11_17 => impl_ParseChart.T.run tyt impl_ParseChart.tbl k 17 (impl_ParseChart.S17 x0_17 x1_17 l2_17 x3_17 x4_17 l5_17 x6_17 l7_17 x8_17 x9_17 x10_17 x11_17)) = impl_ParseChart.l17 k := by funext x0_17 x1_17 l2_17 x3_17 x4_17 l5_17 x6_17 l7_17 x8_17 x9_17 x10_17 x11_17; exact ih.2 x0_17 x1_17 l2_17 x3_17 x4_17 l5_17 x6_17 l7_17 x8_17 x9_17 x10_17 x11_17
      exact (impl_ParseChart.e8 k (impl_ParseChart.T.run tyt impl_ParseChart.tbl k) x0_8 x1_8 l2_8 x3_8 x4_8 l5_8 l6_8 x7_8 x8_8).trans (by rw [q17]; rfl), fun x0_17 x1_17 l2_17 x3_17 x4_17 l5_17 x6_17 l7_17 x8_17 x9_17 x10_17 x11_17 => by
      have q8 : (fun x0_8 x1_8 l2_8 x3_8 x4_8 l5_8 l6_8 x7_8 x8_8 => impl_ParseChart.T.run tyt impl_ParseChart.tbl k 8 (impl_ParseChart.S8 x0_8 x1_8 l2_8 x3_8 x4_8 l5_8 l6_8 x7_8 x8_8)) = impl_ParseChart.l8 k := by funext x0_8 x1_8 l2_8 x3_8 x4_8 l5_8 l6_8 x7_8 x8_8; exact ih.1 x0_8 x1_8 l2_8 x3_8 x4_8 l5_8 l6_8 x7_8 x8_8
      have q17 : (fun x0_17 x1_17 l2_17 x3_17 x4_17 l5_17 x6_17 l7_17 x8_17 x9_17 x10_17 x11_17 => impl_ParseChart.T.run tyt impl_ParseChart.tbl k 17 (impl_ParseChart.S17 x0_17 x1_17 l2_17 x3_17 x4_17 l5_17 x6_17 l7_17 x8_17 x9_17 x10_17 x11_17)) = impl_ParseChart.l17 k := by funext x0_17 x1_17 l2_17 x3_17 x4_17 l5_17 x6_17 l7_17 x8_17 x9_17 x10_17 x11_17; exact ih.2 x0_17 x1_17 l2_17 x3_17 x4_17 l5_17 x6_17 l7_17 x8_17 x9_17 x10_17 x11_17
      exact (impl_ParseChart.e17 k (impl_ParseChart.T.run tyt impl_ParseChart.tbl k) x0_17 x1_17 l2_17 x3_17 x4_17 l5_17 x6_17 l7_17 x8_17 x9_17 x10_17 x11_17).trans (by rw [q8, q17]; rfl)⟩
theorem impl_ParseChart.tblok (k : Nat) : TblOk Go.Proofs.Tryd.prog (impl_ParseChart.tbl k) := TblOk.cons (strings_Split.sound k) (TblOk.cons (impl_IsChart.sound k) (TblOk.nil _))
theorem impl_ParseChart.sound (k : Nat) : Sound Go.Proofs.Tryd.prog 7 (impl_ParseChart.spec k) := by
  have h := fn_ok (F := impl_ParseChart.T) (tbl := impl_ParseChart.tbl) mixed tyok Go.Proofs.Tryd.func7 (by kernel_rfl) (c0 := bodyOf Go.Proofs.Tryd.f7) rfl (conv_code _ _ _) rfl rfl impl_ParseChart.ok k (fun j _ => impl_ParseChart.tblok j)
  have q8 : (fun x0_8 x1_8 l2_8 x3_8 x4_8 l5_8 l6_8 x7_8 x8_8 => impl_ParseChart.T.run tyt impl_ParseChart.tbl k 8 (impl_ParseChart.S8 x0_8 x1_8 l2_8 x3_8 x4_8 l5_8 l6_8 x7_8 x8_8)) = impl_ParseChart.l8 k := by funext x0_8 x1_8 l2_8 x3_8 x4_8 l5_8 l6_8 x7_8 x8_8; exact (impl_ParseChart.run k).1 x0_8 x1_8 l2_8 x3_8 x4_8 l5_8 l6_8 x7_8 x8_8
  have e : impl_ParseChart.spec k = ⟨impl_ParseChart.T.ps, impl_ParseChart.T.rs, impl_ParseChart.T.ev tyt impl_ParseChart.tbl k⟩ := congrArg (FnSpec.mk _ _) (funext fun x => ((impl_ParseChart.e k (impl_ParseChart.T.run tyt impl_ParseChart.tbl k) x).trans (by rw [q8]; rfl)).symm)
  rw [e]
  exact h
/-! ### spec_l1In: function 55 -/
def spec_l1In.m (k : Nat) (a0 : Int) (a1 : Int) (a2 : Int) : Option (Bool) := (if a1 ≤ a0 then (some (decide (a0 ≤ a2))) else (some false))
def spec_l1In.f (k : Nat) (a0 : Int) (a1 : Int) (a2 : Int) : Option (Bool) := spec_l1In.m k a0 a1 a2
noncomputable def spec_l1In.spec (k : Nat) : FnSpec := ⟨[.d (.int .i64) none, .d (.int .i64) none, .d (.int .i64) none], [.d .bool none], fun x => spec_l1In.f k x.1 x.2.1 x.2.2⟩
noncomputable def spec_l1In.T : FnText := ⟨(conv [] (bodyOf Go.Proofs.Tryd.f55) 0).1, Go.Proofs.Tryd.f55.results.toList, 15, [], [.d (.int .i64) none, .d (.int .i64) none, .d (.int .i64) none], [.d .bool none]⟩
noncomputable def spec_l1In.tbl (k : Nat) : Tbl := []
theorem spec_l1In.e (k : Nat) (o : Nat → St → Option (Bool)) (a0 : Int) (a1 : Int) (a2 : Int) : spec_l1In.T.main tyt (spec_l1In.tbl k) o (a0, a1, a2) = spec_l1In.m k a0 a1 a2 := by kernel_rfl
theorem spec_l1In.ok : spec_l1In.T.ok = true := by kernel_rfl
theorem spec_l1In.tblok (k : Nat) : TblOk Go.Proofs.Tryd.prog (spec_l1In.tbl k) := TblOk.nil _
theorem spec_l1In.sound (k : Nat) : Sound Go.Proofs.Tryd.prog 55 (spec_l1In.spec k) := by
  have h := fn_ok (F := spec_l1In.T) (tbl := spec_l1In.tbl) mixed tyok Go.Proofs.Tryd.func55 (by kernel_rfl) (c0 := bodyOf Go.Proofs.Tryd.f55) rfl (conv_code _ _ _) rfl rfl spec_l1In.ok k (fun j _ => spec_l1In.tblok j)
  have e : spec_l1In.spec k = ⟨spec_l1In.T.ps, spec_l1In.T.rs, spec_l1In.T.ev tyt spec_l1In.tbl k⟩ := congrArg (FnSpec.mk _ _) (funext fun x => ((spec_l1In.e k (spec_l1In.T.run tyt spec_l1In.tbl k) x.1 x.2.1 x.2.2).trans (by rfl)).symm)
  rw [e]
  exact h
/-! ### spec_l2Color: function 40 -/
def spec_l2Color.m (k : Nat) (a0 : Int) : Option (Bool) := ((spec_l1In.f k a0 0 5).bind fun r1 => (some r1))
def spec_l2Color.f (k : Nat) (a0 : Int) : Option (Bool) := spec_l2Color.m k a0
noncomputable def spec_l2Color.spec (k : Nat) : FnSpec := ⟨[.d (.int .i64) none], [.d .bool none], fun x => spec_l2Color.f k x⟩
noncomputable def spec_l2Color.T : FnText := ⟨(conv [] (bodyOf Go.Proofs.Tryd.f40) 0).1, Go.Proofs.Tryd.f40.results.toList, 5, [], [.d (.int .i64) none], [.d .bool none]⟩
noncomputable def spec_l2Color.tbl (k : Nat) : Tbl := [(55, spec_l1In.spec k)]
theorem spec_l2Color.e (k : Nat) (o : Nat → St → Option (Bool)) (a0 : Int) : spec_l2Color.T.main tyt (spec_l2Color.tbl k) o a0 = spec_l2Color.m k a0 := by kernel_rfl
theorem spec_l2Color.ok : spec_l2Color.T.ok = true := by kernel_rfl
theorem spec_l2Color.tblok (k : Nat) : TblOk Go.Proofs.Tryd.prog (spec_l2Color.tbl k) := TblOk.cons (spec_l1In.sound k) (TblOk.nil _)
theorem spec_l2Color.sound (k : Nat) : Sound Go.Proofs.Tryd.prog 40 (spec_l2Color.spec k) := by
  have h := fn_ok (F := spec_l2Color.T) (tbl := spec_l2Color.tbl) mixed tyok Go.Proofs.Tryd.func40 (by kernel_rfl) (c0 := bodyOf Go.Proofs.Tryd.f40) rfl (conv_code _ _ _) rfl rfl spec_l2Color.ok k (fun j _ => spec_l2Color.tblok j)
  have e : spec_l2Color.spec k = ⟨spec_l2Color.T.ps, spec_l2Color.T.rs, spec_l2Color.T.ev tyt spec_l2Color.tbl k⟩ := congrArg (FnSpec.mk _ _) (funext fun x => ((spec_l2Color.e k (spec_l2Color.T.run tyt spec_l2Color.tbl k) x).trans (by rfl)).symm)
  rw [e]
  exact h
/-! ### spec_l2Side: function 47 -/
def spec_l2Side.m (k : Nat) (a0 : Int) : Option (Bool) := ((spec_l1In.f k a0 1 8).bind fun r1 => (some r1))
def spec_l2Side.f (k : Nat) (a0 : Int) : Option (Bool) := spec_l2Side.m k a0
noncomputable def spec_l2Side.spec (k : Nat) : FnSpec := ⟨[.d (.int .i64) none], [.d .bool none], fun x => spec_l2Side.f k x⟩
noncomputable def spec_l2Side.T : FnText := ⟨(conv [] (bodyOf Go.Proofs.Tryd.f47) 0).1, Go.Proofs.Tryd.f47.results.toList, 5, [], [.d (.int .i64) none], [.d .bool none]⟩
noncomputable def spec_l2Side.tbl (k : Nat) : Tbl := [(55, spec_l1In.spec k)]
theorem spec_l2Side.e (k : Nat) (o : Nat → St → Option (Bool)) (a0 : Int) : spec_l2Side.T.main tyt (spec_l2Side.tbl k) o a0 = spec_l2Side.m k a0 := by kernel_rfl
theorem spec_l2Side.ok : spec_l2Side.T.ok = true := by kernel_rfl
theorem spec_l2Side.tblok (k : Nat) : TblOk Go.Proofs.Tryd.prog (spec_l2Side.tbl k) := TblOk.cons (spec_l1In.sound k) (TblOk.nil _)
theorem spec_l2Side.sound (k : Nat) : Sound Go.Proofs.Tryd.prog 47 (spec_l2Side.spec k) := by
  have h := fn_ok (F := spec_l2Side.T) (tbl := spec_l2Side.tbl) mixed tyok Go.Proofs.Tryd.func47 (by kernel_rfl) (c0 := bodyOf Go.Proofs.Tryd.f47) rfl (conv_code _ _ _) rfl rfl spec_l2Side.ok k (fun j _ => spec_l2Side.tblok j)
  have e : spec_l2Side.spec k = ⟨spec_l2Side.T.ps, spec_l2Side.T.rs, spec_l2Side.T.ev tyt spec_l2Side.tbl k⟩ := congrArg (FnSpec.mk _ _) (funext fun x => ((spec_l2Side.e k (spec_l2Side.T.run tyt spec_l2Side.tbl k) x).trans (by rfl)).symm)
  rw [e]
  exact h
/-! ### spec_l2Good: function 28 -/
def spec_l2Good.b3 (o3 : Int → Int → List Int → Int → Option (Bool)) (k : Nat) (x0_3 : Int) (x1_3 : Int) (l2_3 : List Int) (x3_3 : Int) : Option (Bool) := (if x3_3 < (l2_3.length : Int) then ((chk l2_3.length x3_3).bind fun i1 => ((spec_l2Color.f k (l2_3.getD i1 0)).bind fun r2 => (cond (!r2) (some false) (o3 x0_3 x1_3 l2_3 (w64 (x3_3 + 1)))))) else ((spec_l2Side.f k x0_3).bind fun r3 => (cond r3 ((spec_l2Side.f k x1_3).bind fun r4 => (cond r4 (some (decide ((l2_3.length : Int) = (w64 (x0_3 * x1_3))))) (some false))) (some false))))
def spec_l2Good.l3 : Nat → Int → Int → List Int → Int → Option (Bool)
  | 0, _, _, _, _ => none
  | k + 1, x0_3, x1_3, l2_3, x3_3 => spec_l2Good.b3 (spec_l2Good.l3 k) k x0_3 x1_3 l2_3 x3_3
def spec_l2Good.m (o3 : Int → Int → List Int → Int → Option (Bool)) (k : Nat) (a0_0 : Int) (a0_1 : Int) (l0_2 : List Int) : Option (Bool) := (o3 a0_0 a0_1 l0_2 0)
def spec_l2Good.f (k : Nat) (a0_0 : Int) (a0_1 : Int) (l0_2 : List Int) : Option (Bool) := spec_l2Good.m (spec_l2Good.l3 k) k a0_0 a0_1 l0_2
noncomputable def spec_l2Good.spec (k : Nat) : FnSpec := ⟨[.ag [.d (.int .i64) none, .d (.int .i64) none, .d (.sl (.int .i64)) none]], [.d .bool none], fun x => spec_l2Good.f k x.1 x.2.1 x.2.2⟩
def spec_l2Good.S3 (x0_3 : Int) (x1_3 : Int) (l2_3 : List Int) (x3_3 : Int) : St := ⟨[(1, .ptr 100 0), (3, .val (.int .i64) x3_3)], [(100, some (.box [.val (.int .i64) x0_3, .val (.int .i64) x1_3, .val (.sl (.int .i64)) l2_3]))], 1000⟩
noncomputable def spec_l2Good.T : FnText := ⟨(conv [] (bodyOf Go.Proofs.Tryd.f28) 0).1, Go.Proofs.Tryd.f28.results.toList, 37, [(3, [(1, .bx 100 [.rd (.int .i64), .rd (.int .i64), .rd (.sl (.int .i64))]), (3, .rd (.int .i64))])], [.ag [.d (.int .i64) none, .d (.int .i64) none, .d (.sl (.int .i64)) none]], [.d .bool none]⟩
noncomputable def spec_l2Good.tbl (k : Nat) : Tbl := [(40, spec_l2Color.spec k), (47, spec_l2Side.spec k)]
theorem spec_l2Good.e3 (k : Nat) (o : Nat → St → Option (Bool)) (x0_3 : Int) (x1_3 : Int) (l2_3 : List Int) (x3_3 : Int) : spec_l2Good.T.step tyt (spec_l2Good.tbl k) o 3 (spec_l2Good.S3 x0_3 x1_3 l2_3 x3_3) = spec_l2Good.b3 (fun x0_3 x1_3 l2_3 x3_3 => o 3 (spec_l2Good.S3 x0_3 x1_3 l2_3 x3_3)) k x0_3 x1_3 l2_3 x3_3 := by kernel_rfl
theorem spec_l2Good.e (k : Nat) (o : Nat → St → Option (Bool)) (a0_0 : Int) (a0_1 : Int) (l0_2 : List Int) : spec_l2Good.T.main tyt (spec_l2Good.tbl k) o (a0_0, a0_1, l0_2) = spec_l2Good.m (fun x0_3 x1_3 l2_3 x3_3 => o 3 (spec_l2Good.S3 x0_3 x1_3 l2_3 x3_3)) k a0_0 a0_1 l0_2 := by kernel_rfl
theorem spec_l2Good.ok : spec_l2Good.T.ok = true := by kernel_rfl
theorem spec_l2Good.run (k : Nat) : (∀ (x0_3 : Int) (x1_3 : Int) (l2_3 : List Int) (x3_3 : Int), spec_l2Good.T.run tyt spec_l2Good.tbl k 3 (spec_l2Good.S3 x0_3 x1_3 l2_3 x3_3) = spec_l2Good.l3 k x0_3 x1_3 l2_3 x3_3) := by
  induction k with
  | zero => exact fun x0_3 x1_3 l2_3 x3_3 => rfl
  | succ k ih =>
    exact fun x0_3 x1_3 l2_3 x3_3 => by
      have q3 : (fun x0_3 x1_3 l2_3 x3_3 => spec_l2Good.T.run tyt spec_l2Good.tbl k 3 (spec_l2Good.S3 x0_3 x1_3 l2_3 x3_3)) = spec_l2Good.l3 k := by funext x0_3 x1_3 l2_3 x3_3; exact ih x0_3 x1_3 l2_3 x3_3
      exact (spec_l2Good.e3 k (spec_l2Good.T.run tyt spec_l2Good.tbl k) x0_3 x1_3 l2_3 x3_3).trans (by rw [q3]; rfl)
theorem spec_l2Good.tblok (k : Nat) : TblOk Go.Proofs.Tryd.prog (spec_l2Good.tbl k) := TblOk.cons (spec_l2Color.sound k) (TblOk.cons (spec_l2Side.sound k) (TblOk.nil _))
theorem spec_l2Good.sound (k : Nat) : Sound Go.Proofs.Tryd.prog 28 (spec_l2Good.spec k) := by
  have h := fn_ok (F := spec_l2Good.T) (tbl := spec_l2Good.tbl) mixed tyok Go.Proofs.Tryd.func28 (by kernel_rfl) (c0 := bodyOf Go.Proofs.Tryd.f28) rfl (conv_code _ _ _) rfl rfl spec_l2Good.ok k (fun j _ => spec_l2Good.tblok j)
  have q3 : (fun x0_3 x1_3 l2_3 x3_3 => spec_l2Good.T.run tyt spec_l2Good.tbl k 3 (spec_l2Good.S3 x0_3 x1_3 l2_3 x3_3)) = spec_l2Good.l3 k := by funext x0_3 x1_3 l2_3 x3_3; exact (spec_l2Good.run k) x0_3 x1_3 l2_3 x3_3
  have e : spec_l2Good.spec k = ⟨spec_l2Good.T.ps, spec_l2Good.T.rs, spec_l2Good.T.ev tyt spec_l2Good.tbl k⟩ := congrArg (FnSpec.mk _ _) (funext fun x => ((spec_l2Good.e k (spec_l2Good.T.run tyt spec_l2Good.tbl k) x.1 x.2.1 x.2.2).trans (by rw [q3]; rfl)).symm)
  rw [e]
  exact h
/-! ### spec_l2Text: function 29 -/
def spec_l2Text.b4 (o4 : Int → Int → List Int → ByteArray → Int → Option (ByteArray)) (k : Nat) (x0_4 : Int) (x1_4 : Int) (l2_4 : List Int) (x3_4 : ByteArray) (x4_4 : Int) : Option (ByteArray) := (if x4_4 < (l2_4.length : Int) then (if 0 < x4_4 then ((rem x4_4 x0_4).bind fun q1 => (if q1 = 0 then ((catS x3_4 (⟨#[47]⟩ : ByteArray)).bind fun s2 => ((chk l2_4.length x4_4).bind fun i3 => ((catS s2 (ofBytes [(IntKind.u8.wrap ((w64 (97 + (l2_4.getD i3 0)))))])).bind fun s4 => (o4 x0_4 x1_4 l2_4 s4 (w64 (x4_4 + 1)))))) else ((chk l2_4.length x4_4).bind fun i5 => ((catS x3_4 (ofBytes [(IntKind.u8.wrap ((w64 (97 + (l2_4.getD i5 0)))))])).bind fun s6 => (o4 x0_4 x1_4 l2_4 s6 (w64 (x4_4 + 1))))))) else ((chk l2_4.length x4_4).bind fun i7 => ((catS x3_4 (ofBytes [(IntKind.u8.wrap ((w64 (97 + (l2_4.getD i7 0)))))])).bind fun s8 => (o4 x0_4 x1_4 l2_4 s8 (w64 (x4_4 + 1)))))) else (some x3_4))
def spec_l2Text.l4 : Nat → Int → Int → List Int → ByteArray → Int → Option (ByteArray)
  | 0, _, _, _, _, _ => none
  | k + 1, x0_4, x1_4, l2_4, x3_4, x4_4 => spec_l2Text.b4 (spec_l2Text.l4 k) k x0_4 x1_4 l2_4 x3_4 x4_4
def spec_l2Text.m (o4 : Int → Int → List Int → ByteArray → Int → Option (ByteArray)) (k : Nat) (a0_0 : Int) (a0_1 : Int) (l0_2 : List Int) : Option (ByteArray) := (o4 a0_0 a0_1 l0_2 (⟨#[]⟩ : ByteArray) 0)
def spec_l2Text.f (k : Nat) (a0_0 : Int) (a0_1 : Int) (l0_2 : List Int) : Option (ByteArray) := spec_l2Text.m (spec_l2Text.l4 k) k a0_0 a0_1 l0_2
noncomputable def spec_l2Text.spec (k : Nat) : FnSpec := ⟨[.ag [.d (.int .i64) none, .d (.int .i64) none, .d (.sl (.int .i64)) none]], [.d .str none], fun x => spec_l2Text.f k x.1 x.2.1 x.2.2⟩
def spec_l2Text.S4 (x0_4 : Int) (x1_4 : Int) (l2_4 : List Int) (x3_4 : ByteArray) (x4_4 : Int) : St := ⟨[(1, .ptr 100 0), (3, .val .str x3_4), (4, .val (.int .i64) x4_4)], [(100, some (.box [.val (.int .i64) x0_4, .val (.int .i64) x1_4, .val (.sl (.int .i64)) l2_4]))], 1000⟩
noncomputable def spec_l2Text.T : FnText := ⟨(conv [] (bodyOf Go.Proofs.Tryd.f29) 0).1, Go.Proofs.Tryd.f29.results.toList, 35, [(4, [(1, .bx 100 [.rd (.int .i64), .rd (.int .i64), .rd (.sl (.int .i64))]), (3, .rd .str), (4, .rd (.int .i64))])], [.ag [.d (.int .i64) none, .d (.int .i64) none, .d (.sl (.int .i64)) none]], [.d .str none]⟩
noncomputable def spec_l2Text.tbl (k : Nat) : Tbl := []
theorem spec_l2Text.e4 (k : Nat) (o : Nat → St → Option (ByteArray)) (x0_4 : Int) (x1_4 : Int) (l2_4 : List Int) (x3_4 : ByteArray) (x4_4 : Int) : spec_l2Text.T.step tyt (spec_l2Text.tbl k) o 4 (spec_l2Text.S4 x0_4 x1_4 l2_4 x3_4 x4_4) = spec_l2Text.b4 (fun x0_4 x1_4 l2_4 x3_4 x4_4 => o 4 (spec_l2Text.S4 x0_4 x1_4 l2_4 x3_4 x4_4)) k x0_4 x1_4 l2_4 x3_4 x4_4 := by kernel_rfl
theorem spec_l2Text.e (k : Nat) (o : Nat → St → Option (ByteArray)) (a0_0 : Int) (a0_1 : Int) (l0_2 : List Int) : spec_l2Text.T.main tyt (spec_l2Text.tbl k) o (a0_0, a0_1, l0_2) = spec_l2Text.m (fun x0_4 x1_4 l2_4 x3_4 x4_4 => o 4 (spec_l2Text.S4 x0_4 x1_4 l2_4 x3_4 x4_4)) k a0_0 a0_1 l0_2 := by kernel_rfl
theorem spec_l2Text.ok : spec_l2Text.T.ok = true := by kernel_rfl
theorem spec_l2Text.run (k : Nat) : (∀ (x0_4 : Int) (x1_4 : Int) (l2_4 : List Int) (x3_4 : ByteArray) (x4_4 : Int), spec_l2Text.T.run tyt spec_l2Text.tbl k 4 (spec_l2Text.S4 x0_4 x1_4 l2_4 x3_4 x4_4) = spec_l2Text.l4 k x0_4 x1_4 l2_4 x3_4 x4_4) := by
  induction k with
  | zero => exact fun x0_4 x1_4 l2_4 x3_4 x4_4 => rfl
  | succ k ih =>
    exact fun x0_4 x1_4 l2_4 x3_4 x4_4 => by
      have q4 : (fun x0_4 x1_4 l2_4 x3_4 x4_4 => spec_l2Text.T.run tyt spec_l2Text.tbl k 4 (spec_l2Text.S4 x0_4 x1_4 l2_4 x3_4 x4_4)) = spec_l2Text.l4 k := by funext x0_4 x1_4 l2_4 x3_4 x4_4; exact ih x0_4 x1_4 l2_4 x3_4 x4_4
      exact (spec_l2Text.e4 k (spec_l2Text.T.run tyt spec_l2Text.tbl k) x0_4 x1_4 l2_4 x3_4 x4_4).trans (by rw [q4]; rfl)
theorem spec_l2Text.tblok (k : Nat) : TblOk Go.Proofs.Tryd.prog (spec_l2Text.tbl k) := TblOk.nil _
theorem spec_l2Text.sound (k : Nat) : Sound Go.Proofs.Tryd.prog 29 (spec_l2Text.spec k) := by
  have h := fn_ok (F := spec_l2Text.T) (tbl := spec_l2Text.tbl) mixed tyok Go.Proofs.Tryd.func29 (by kernel_rfl) (c0 := bodyOf Go.Proofs.Tryd.f29) rfl (conv_code _ _ _) rfl rfl spec_l2Text.ok k (fun j _ => spec_l2Text.tblok j)
  have q4 : (fun x0_4 x1_4 l2_4 x3_4 x4_4 => spec_l2Text.T.run tyt spec_l2Text.tbl k 4 (spec_l2Text.S4 x0_4 x1_4 l2_4 x3_4 x4_4)) = spec_l2Text.l4 k := by funext x0_4 x1_4 l2_4 x3_4 x4_4; exact (spec_l2Text.run k) x0_4 x1_4 l2_4 x3_4 x4_4
  have e : spec_l2Text.spec k = ⟨spec_l2Text.T.ps, spec_l2Text.T.rs, spec_l2Text.T.ev tyt spec_l2Text.tbl k⟩ := congrArg (FnSpec.mk _ _) (funext fun x => ((spec_l2Text.e k (spec_l2Text.T.run tyt spec_l2Text.tbl k) x.1 x.2.1 x.2.2).trans (by rw [q4]; rfl)).symm)
  rw [e]
  exact h
/-! ### spec_ChartText: function 8 -/
def spec_ChartText.m (k : Nat) (a0_0 : Int) (a0_1 : Int) (l0_2 : List Int) : Option (ByteArray × Bool) := ((spec_l2Good.f k a0_0 a0_1 l0_2).bind fun r1 => (cond (!r1) (some ((⟨#[]⟩ : ByteArray), false)) ((spec_l2Text.f k a0_0 a0_1 l0_2).bind fun r2 => (some (r2, true)))))
def spec_ChartText.f (k : Nat) (a0_0 : Int) (a0_1 : Int) (l0_2 : List Int) : Option (ByteArray × Bool) := spec_ChartText.m k a0_0 a0_1 l0_2
noncomputable def spec_ChartText.spec (k : Nat) : FnSpec := ⟨[.ag [.d (.int .i64) none, .d (.int .i64) none, .d (.sl (.int .i64)) none]], [.d .str none, .d .bool none], fun x => spec_ChartText.f k x.1 x.2.1 x.2.2⟩
noncomputable def spec_ChartText.T : FnText := ⟨(conv [] (bodyOf Go.Proofs.Tryd.f8) 0).1, Go.Proofs.Tryd.f8.results.toList, 9, [], [.ag [.d (.int .i64) none, .d (.int .i64) none, .d (.sl (.int .i64)) none]], [.d .str none, .d .bool none]⟩
noncomputable def spec_ChartText.tbl (k : Nat) : Tbl := [(28, spec_l2Good.spec k), (29, spec_l2Text.spec k)]
theorem spec_ChartText.e (k : Nat) (o : Nat → St → Option (ByteArray × Bool)) (a0_0 : Int) (a0_1 : Int) (l0_2 : List Int) : spec_ChartText.T.main tyt (spec_ChartText.tbl k) o (a0_0, a0_1, l0_2) = spec_ChartText.m k a0_0 a0_1 l0_2 := by kernel_rfl
theorem spec_ChartText.ok : spec_ChartText.T.ok = true := by kernel_rfl
theorem spec_ChartText.tblok (k : Nat) : TblOk Go.Proofs.Tryd.prog (spec_ChartText.tbl k) := TblOk.cons (spec_l2Good.sound k) (TblOk.cons (spec_l2Text.sound k) (TblOk.nil _))
theorem spec_ChartText.sound (k : Nat) : Sound Go.Proofs.Tryd.prog 8 (spec_ChartText.spec k) := by
  have h := fn_ok (F := spec_ChartText.T) (tbl := spec_ChartText.tbl) mixed tyok Go.Proofs.Tryd.func8 (by kernel_rfl) (c0 := bodyOf Go.Proofs.Tryd.f8) rfl (conv_code _ _ _) rfl rfl spec_ChartText.ok k (fun j _ => spec_ChartText.tblok j)
  have e : spec_ChartText.spec k = ⟨spec_ChartText.T.ps, spec_ChartText.T.rs, spec_ChartText.T.ev tyt spec_ChartText.tbl k⟩ := congrArg (FnSpec.mk _ _) (funext fun x => ((spec_ChartText.e k (spec_ChartText.T.run tyt spec_ChartText.tbl k) x.1 x.2.1 x.2.2).trans (by rfl)).symm)
  rw [e]
  exact h
/-! ### laws_vInts: function 16 -/
def laws_vInts.b6 (o6 : List Int → List Int → Int → Option (Bool)) (k : Nat) (l0_6 : List Int) (l1_6 : List Int) (x2_6 : Int) : Option (Bool) := (if x2_6 < (l0_6.length : Int) then ((chk l0_6.length x2_6).bind fun i1 => ((chk l1_6.length x2_6).bind fun i2 => (if ¬ (l0_6.getD i1 0) = (l1_6.getD i2 0) then (some false) else (o6 l0_6 l1_6 (w64 (x2_6 + 1)))))) else (some true))
def laws_vInts.l6 : Nat → List Int → List Int → Int → Option (Bool)
  | 0, _, _, _ => none
  | k + 1, l0_6, l1_6, x2_6 => laws_vInts.b6 (laws_vInts.l6 k) k l0_6 l1_6 x2_6
def laws_vInts.m (o6 : List Int → List Int → Int → Option (Bool)) (k : Nat) (l0 : List Int) (l1 : List Int) : Option (Bool) := (if ¬ (l0.length : Int) = (l1.length : Int) then (some false) else (o6 l0 l1 0))
def laws_vInts.f (k : Nat) (l0 : List Int) (l1 : List Int) : Option (Bool) := laws_vInts.m (laws_vInts.l6 k) k l0 l1
noncomputable def laws_vInts.spec (k : Nat) : FnSpec := ⟨[.d (.sl (.int .i64)) none, .d (.sl (.int .i64)) none], [.d .bool none], fun x => laws_vInts.f k x.1 x.2⟩
def laws_vInts.S6 (l0_6 : List Int) (l1_6 : List Int) (x2_6 : Int) : St := ⟨[(0, .val (.sl (.int .i64)) l0_6), (1, .val (.sl (.int .i64)) l1_6), (5, .val (.int .i64) x2_6)], [], 1000⟩
noncomputable def laws_vInts.T : FnText := ⟨(conv [] (bodyOf Go.Proofs.Tryd.f16) 0).1, Go.Proofs.Tryd.f16.results.toList, 26, [(6, [(0, .rd (.sl (.int .i64))), (1, .rd (.sl (.int .i64))), (5, .rd (.int .i64))])], [.d (.sl (.int .i64)) none, .d (.sl (.int .i64)) none], [.d .bool none]⟩
noncomputable def laws_vInts.tbl (k : Nat) : Tbl := []
theorem laws_vInts.e6 (k : Nat) (o : Nat → St → Option (Bool)) (l0_6 : List Int) (l1_6 : List Int) (x2_6 : Int) : laws_vInts.T.step tyt (laws_vInts.tbl k) o 6 (laws_vInts.S6 l0_6 l1_6 x2_6) = laws_vInts.b6 (fun l0_6 l1_6 x2_6 => o 6 (laws_vInts.S6 l0_6 l1_6 x2_6)) k l0_6 l1_6 x2_6 := by kernel_rfl
theorem laws_vInts.e (k : Nat) (o : Nat → St → Option (Bool)) (l0 : List Int) (l1 : List Int) : laws_vInts.T.main tyt (laws_vInts.tbl k) o (l0, l1) = laws_vInts.m (fun l0_6 l1_6 x2_6 => o 6 (laws_vInts.S6 l0_6 l1_6 x2_6)) k l0 l1 := by kernel_rfl
theorem laws_vInts.ok : laws_vInts.T.ok = true := by kernel_rfl
theorem laws_vInts.run (k : Nat) : (∀ (l0_6 : List Int) (l1_6 : List Int) (x2_6 : Int), laws_vInts.T.run tyt laws_vInts.tbl k 6 (laws_vInts.S6 l0_6 l1_6 x2_6) = laws_vInts.l6 k l0_6 l1_6 x2_6) := by
  induction k with
  | zero => exact fun l0_6 l1_6 x2_6 => rfl
  | succ k ih =>
    exact fun l0_6 l1_6 x2_6 => by
      have q6 : (fun l0_6 l1_6 x2_6 => laws_vInts.T.run tyt laws_vInts.tbl k 6 (laws_vInts.S6 l0_6 l1_6 x2_6)) = laws_vInts.l6 k := by funext l0_6 l1_6 x2_6; exact ih l0_6 l1_6 x2_6
      exact (laws_vInts.e6 k (laws_vInts.T.run tyt laws_vInts.tbl k) l0_6 l1_6 x2_6).trans (by rw [q6]; rfl)
theorem laws_vInts.tblok (k : Nat) : TblOk Go.Proofs.Tryd.prog (laws_vInts.tbl k) := TblOk.nil _
theorem laws_vInts.sound (k : Nat) : Sound Go.Proofs.Tryd.prog 16 (laws_vInts.spec k) := by
  have h := fn_ok (F := laws_vInts.T) (tbl := laws_vInts.tbl) mixed tyok Go.Proofs.Tryd.func16 (by kernel_rfl) (c0 := bodyOf Go.Proofs.Tryd.f16) rfl (conv_code _ _ _) rfl rfl laws_vInts.ok k (fun j _ => laws_vInts.tblok j)
  have q6 : (fun l0_6 l1_6 x2_6 => laws_vInts.T.run tyt laws_vInts.tbl k 6 (laws_vInts.S6 l0_6 l1_6 x2_6)) = laws_vInts.l6 k := by funext l0_6 l1_6 x2_6; exact (laws_vInts.run k) l0_6 l1_6 x2_6
  have e : laws_vInts.spec k = ⟨laws_vInts.T.ps, laws_vInts.T.rs, laws_vInts.T.ev tyt laws_vInts.tbl k⟩ := congrArg (FnSpec.mk _ _) (funext fun x => ((laws_vInts.e k (laws_vInts.T.run tyt laws_vInts.tbl k) x.1 x.2).trans (by rw [q6]; rfl)).symm)
  rw [e]
  exact h
/-! ### laws_vChart: function 10 -/
def laws_vChart.m (k : Nat) (a0_0 : Int) (a0_1 : Int) (l0_2 : List Int) (a1_0 : Int) (a1_1 : Int) (l1_2 : List Int) : Option (Bool) := (if a0_0 = a1_0 then (if a0_1 = a1_1 then ((laws_vInts.f k l0_2 l1_2).bind fun r1 => (some r1)) else (some false)) else (some false))
def laws_vChart.f (k : Nat) (a0_0 : Int) (a0_1 : Int) (l0_2 : List Int) (a1_0 : Int) (a1_1 : Int) (l1_2 : List Int) : Option (Bool) := laws_vChart.m k a0_0 a0_1 l0_2 a1_0 a1_1 l1_2
noncomputable def laws_vChart.spec (k : Nat) : FnSpec := ⟨[.ag [.d (.int .i64) none, .d (.int .i64) none, .d (.sl (.int .i64)) none], .ag [.d (.int .i64) none, .d (.int .i64) none, .d (.sl (.int .i64)) none]], [.d .bool none], fun x => laws_vChart.f k x.1 x.2.1 x.2.2.1 x.2.2.2.1 x.2.2.2.2.1 x.2.2.2.2.2⟩
noncomputable def laws_vChart.T : FnText := ⟨(conv [] (bodyOf Go.Proofs.Tryd.f10) 0).1, Go.Proofs.Tryd.f10.results.toList, 24, [], [.ag [.d (.int .i64) none, .d (.int .i64) none, .d (.sl (.int .i64)) none], .ag [.d (.int .i64) none, .d (.int .i64) none, .d (.sl (.int .i64)) none]], [.d .bool none]⟩
noncomputable def laws_vChart.tbl (k : Nat) : Tbl := [(16, laws_vInts.spec k)]
theorem laws_vChart.e (k : Nat) (o : Nat → St → Option (Bool)) (a0_0 : Int) (a0_1 : Int) (l0_2 : List Int) (a1_0 : Int) (a1_1 : Int) (l1_2 : List Int) : laws_vChart.T.main tyt (laws_vChart.tbl k) o (a0_0, a0_1, l0_2, a1_0, a1_1, l1_2) = laws_vChart.m k a0_0 a0_1 l0_2 a1_0 a1_1 l1_2 := by kernel_rfl
theorem laws_vChart.ok : laws_vChart.T.ok = true := by kernel_rfl
theorem laws_vChart.tblok (k : Nat) : TblOk Go.Proofs.Tryd.prog (laws_vChart.tbl k) := TblOk.cons (laws_vInts.sound k) (TblOk.nil _)
theorem laws_vChart.sound (k : Nat) : Sound Go.Proofs.Tryd.prog 10 (laws_vChart.spec k) := by
  have h := fn_ok (F := laws_vChart.T) (tbl := laws_vChart.tbl) mixed tyok Go.Proofs.Tryd.func10 (by kernel_rfl) (c0 := bodyOf Go.Proofs.Tryd.f10) rfl (conv_code _ _ _) rfl rfl laws_vChart.ok k (fun j _ => laws_vChart.tblok j)
  have e : laws_vChart.spec k = ⟨laws_vChart.T.ps, laws_vChart.T.rs, laws_vChart.T.ev tyt laws_vChart.tbl k⟩ := congrArg (FnSpec.mk _ _) (funext fun x => ((laws_vChart.e k (laws_vChart.T.run tyt laws_vChart.tbl k) x.1 x.2.1 x.2.2.1 x.2.2.2.1 x.2.2.2.2.1 x.2.2.2.2.2).trans (by rfl)).symm)
  rw [e]
  exact h
/-! ### spec_l1Cur_spoilt: function 35 -/
def spec_l1Cur_spoilt.m (k : Nat) (l0_0 : List Int) (a0_1 : Int) (a0_2 : Int) (a1 : ByteArray) (a2 : ByteArray) : Option (ByteArray × List Int × Int × Int) := (if a1 = (⟨#[]⟩ : ByteArray) then ((cutTo a2.size 1).bind fun m2 => (some ((a2.extract 0 m2), l0_0, a0_1, a0_2))) else ((spec_l1Cur_pick.f k l0_0 a0_1 a0_2 (a1.size : Int)).bind fun r3 => ((spec_l1Cur_pick.f k r3.2.1 r3.2.2.1 r3.2.2.2 (a2.size : Int)).bind fun r4 => ((cut a2.size r4.1 (a2.size : Int)).bind fun c5 => ((cutTo ((a2.extract c5.1 (c5.1 + c5.2)).size) 1).bind fun m7 => ((spec_l1Cur_pick.f k r4.2.1 r4.2.2.1 r4.2.2.2 3).bind fun r8 => (if r8.1 = 0 then ((cutTo a1.size r3.1).bind fun m10 => ((catS (a1.extract 0 m10) ((a2.extract c5.1 (c5.1 + c5.2)).extract 0 m7)).bind fun s11 => ((cut a1.size r3.1 (a1.size : Int)).bind fun c12 => ((catS s11 (a1.extract c12.1 (c12.1 + c12.2))).bind fun s13 => (some (s13, r8.2.1, r8.2.2.1, r8.2.2.2)))))) else (if r8.1 = 1 then ((cutTo a1.size r3.1).bind fun m15 => ((catS (a1.extract 0 m15) ((a2.extract c5.1 (c5.1 + c5.2)).extract 0 m7)).bind fun s16 => ((cut a1.size (w64 (r3.1 + 1)) (a1.size : Int)).bind fun c17 => ((catS s16 (a1.extract c17.1 (c17.1 + c17.2))).bind fun s18 => (some (s18, r8.2.1, r8.2.2.1, r8.2.2.2)))))) else ((cutTo a1.size r3.1).bind fun m20 => ((cut a1.size (w64 (r3.1 + 1)) (a1.size : Int)).bind fun c21 => ((catS (a1.extract 0 m20) (a1.extract c21.1 (c21.1 + c21.2))).bind fun s22 => (some (s22, r8.2.1, r8.2.2.1, r8.2.2.2)))))))))))))
def spec_l1Cur_spoilt.f (k : Nat) (l0_0 : List Int) (a0_1 : Int) (a0_2 : Int) (a1 : ByteArray) (a2 : ByteArray) : Option (ByteArray × List Int × Int × Int) := spec_l1Cur_spoilt.m k l0_0 a0_1 a0_2 a1 a2
noncomputable def spec_l1Cur_spoilt.spec (k : Nat) : FnSpec := ⟨[.bx [.d (.sl (.int .u8)) none, .d (.int .i64) none, .d (.int .u64) none], .d .str none, .d .str none], [.d .str none], fun x => spec_l1Cur_spoilt.f k x.1 x.2.1 x.2.2.1 x.2.2.2.1 x.2.2.2.2⟩
noncomputable def spec_l1Cur_spoilt.T : FnText := ⟨(conv [] (bodyOf Go.Proofs.Tryd.f35) 0).1, Go.Proofs.Tryd.f35.results.toList, 57, [], [.bx [.d (.sl (.int .u8)) none, .d (.int .i64) none, .d (.int .u64) none], .d .str none, .d .str none], [.d .str none]⟩
noncomputable def spec_l1Cur_spoilt.tbl (k : Nat) : Tbl := [(53, spec_l1Cur_pick.spec k)]
theorem spec_l1Cur_spoilt.e (k : Nat) (o : Nat → St → Option (ByteArray × List Int × Int × Int)) (l0_0 : List Int) (a0_1 : Int) (a0_2 : Int) (a1 : ByteArray) (a2 : ByteArray) : spec_l1Cur_spoilt.T.main tyt (spec_l1Cur_spoilt.tbl k) o (l0_0, a0_1, a0_2, a1, a2) = spec_l1Cur_spoilt.m k l0_0 a0_1 a0_2 a1 a2 := by kernel_rfl
theorem spec_l1Cur_spoilt.ok : spec_l1Cur_spoilt.T.ok = true := by kernel_rfl
theorem spec_l1Cur_spoilt.tblok (k : Nat) : TblOk Go.Proofs.Tryd.prog (spec_l1Cur_spoilt.tbl k) := TblOk.cons (spec_l1Cur_pick.sound k) (TblOk.nil _)
theorem spec_l1Cur_spoilt.sound (k : Nat) : Sound Go.Proofs.Tryd.prog 35 (spec_l1Cur_spoilt.spec k) := by
  have h := fn_ok (F := spec_l1Cur_spoilt.T) (tbl := spec_l1Cur_spoilt.tbl) mixed tyok Go.Proofs.Tryd.func35 (by kernel_rfl) (c0 := bodyOf Go.Proofs.Tryd.f35) rfl (conv_code _ _ _) rfl rfl spec_l1Cur_spoilt.ok k (fun j _ => spec_l1Cur_spoilt.tblok j)
  have e : spec_l1Cur_spoilt.spec k = ⟨spec_l1Cur_spoilt.T.ps, spec_l1Cur_spoilt.T.rs, spec_l1Cur_spoilt.T.ev tyt spec_l1Cur_spoilt.tbl k⟩ := congrArg (FnSpec.mk _ _) (funext fun x => ((spec_l1Cur_spoilt.e k (spec_l1Cur_spoilt.T.run tyt spec_l1Cur_spoilt.tbl k) x.1 x.2.1 x.2.2.1 x.2.2.2.1 x.2.2.2.2).trans (by rfl)).symm)
  rw [e]
  exact h
/-! ### spec_DrawParseChart: function 11 -/
def spec_DrawParseChart.b3 (k : Nat) (l0_3 : List Int) (x1_3 : Int) (x2_3 : Int) (x3_3 : ByteArray) : Option (ByteArray) := ((spec_l1Cur_one.f k l0_3 x1_3 x2_3 4).bind fun r4 => (cond r4.1 ((spec_l1Cur_spoilt.f k r4.2.1 r4.2.2.1 r4.2.2.2 x3_3 (⟨#[97, 98, 103, 47]⟩ : ByteArray)).bind fun r5 => (some r5.1)) (some x3_3)))
def spec_DrawParseChart.l3 : Nat → List Int → Int → Int → ByteArray → Option (ByteArray)
  | 0, _, _, _, _ => none
  | k + 1, l0_3, x1_3, x2_3, x3_3 => spec_DrawParseChart.b3 k l0_3 x1_3 x2_3 x3_3
def spec_DrawParseChart.m (o3 : List Int → Int → Int → ByteArray → Option (ByteArray)) (k : Nat) (l0 : List Int) : Option (ByteArray) := ((spec_l1Cur_chart.f k l0 0 0).bind fun r1 => ((spec_l2Good.f k r1.1 r1.2.1 r1.2.2.1).bind fun r2 => (cond r2 ((spec_l2Text.f k r1.1 r1.2.1 r1.2.2.1).bind fun r3 => (o3 r1.2.2.2.1 r1.2.2.2.2.1 r1.2.2.2.2.2 r3)) (o3 r1.2.2.2.1 r1.2.2.2.2.1 r1.2.2.2.2.2 (⟨#[97, 97, 98, 47, 98, 98, 97]⟩ : ByteArray)))))
def spec_DrawParseChart.f (k : Nat) (l0 : List Int) : Option (ByteArray) := spec_DrawParseChart.m (spec_DrawParseChart.l3 k) k l0
noncomputable def spec_DrawParseChart.spec (k : Nat) : FnSpec := ⟨[.d (.sl (.int .u8)) none], [.d .str none], fun x => spec_DrawParseChart.f k x⟩
def spec_DrawParseChart.S3 (l0_3 : List Int) (x1_3 : Int) (x2_3 : Int) (x3_3 : ByteArray) : St := ⟨[(3, .ptr 100 0), (4, .val .str x3_3)], [(100, some (.box [.val (.sl (.int .u8)) l0_3, .val (.int .i64) x1_3, .val (.int .u64) x2_3]))], 1000⟩
noncomputable def spec_DrawParseChart.T : FnText := ⟨(conv [3] (bodyOf Go.Proofs.Tryd.f11) 0).1, Go.Proofs.Tryd.f11.results.toList, 21, [(3, [(3, .bx 100 [.rd (.sl (.int .u8)), .rd (.int .i64), .rd (.int .u64)]), (4, .rd .str)])], [.d (.sl (.int .u8)) none], [.d .str none]⟩
noncomputable def spec_DrawParseChart.tbl (k : Nat) : Tbl := [(33, spec_l1Cur_chart.spec k), (28, spec_l2Good.spec k), (29, spec_l2Text.spec k), (34, spec_l1Cur_one.spec k), (35, spec_l1Cur_spoilt.spec k)]
theorem spec_DrawParseChart.e3 (k : Nat) (o : Nat → St → Option (ByteArray)) (l0_3 : List Int) (x1_3 : Int) (x2_3 : Int) (x3_3 : ByteArray) : spec_DrawParseChart.T.step tyt (spec_DrawParseChart.tbl k) o 3 (spec_DrawParseChart.S3 l0_3 x1_3 x2_3 x3_3) = spec_DrawParseChart.b3 k l0_3 x1_3 x2_3 x3_3 := by kernel_rfl
theorem spec_DrawParseChart.e (k : Nat) (o : Nat → St → Option (ByteArray)) (l0 : List Int) : spec_DrawParseChart.T.main tyt (spec_DrawParseChart.tbl k) o l0 = spec_DrawParseChart.m (fun l0_3 x1_3 x2_3 x3_3 => o 3 (spec_DrawParseChart.S3 l0_3 x1_3 x2_3 x3_3)) k l0 := by kernel_rfl
theorem spec_DrawParseChart.ok : spec_DrawParseChart.T.ok = true := by kernel_rfl
theorem spec_DrawParseChart.run (k : Nat) : (∀ (l0_3 : List Int) (x1_3 : Int) (x2_3 : Int) (x3_3 : ByteArray), spec_DrawParseChart.T.run tyt spec_DrawParseChart.tbl k 3 (spec_DrawParseChart.S3 l0_3 x1_3 x2_3 x3_3) = spec_DrawParseChart.l3 k l0_3 x1_3 x2_3 x3_3) := by
  induction k with
  | zero => exact fun l0_3 x1_3 x2_3 x3_3 => rfl
  | succ k ih =>
    exact fun l0_3 x1_3 x2_3 x3_3 => by
      exact (spec_DrawParseChart.e3 k (spec_DrawParseChart.T.run tyt spec_DrawParseChart.tbl k) l0_3 x1_3 x2_3 x3_3).trans (by rfl)
theorem spec_DrawParseChart.tblok (k : Nat) : TblOk Go.Proofs.Tryd.prog (spec_DrawParseChart.tbl k) := TblOk.cons (spec_l1Cur_chart.sound k) (TblOk.cons (spec_l2Good.sound k) (TblOk.cons (spec_l2Text.sound k) (TblOk.cons (spec_l1Cur_one.sound k) (TblOk.cons (spec_l1Cur_spoilt.sound k) (TblOk.nil _)))))
theorem spec_DrawParseChart.sound (k : Nat) : Sound Go.Proofs.Tryd.prog 11 (spec_DrawParseChart.spec k) := by
  have h := fn_ok (F := spec_DrawParseChart.T) (tbl := spec_DrawParseChart.tbl) mixed tyok Go.Proofs.Tryd.func11 (by kernel_rfl) (c0 := bodyOf Go.Proofs.Tryd.f11) rfl (conv_code _ _ _) rfl rfl spec_DrawParseChart.ok k (fun j _ => spec_DrawParseChart.tblok j)
  have q3 : (fun l0_3 x1_3 x2_3 x3_3 => spec_DrawParseChart.T.run tyt spec_DrawParseChart.tbl k 3 (spec_DrawParseChart.S3 l0_3 x1_3 x2_3 x3_3)) = spec_DrawParseChart.l3 k := by funext l0_3 x1_3 x2_3 x3_3; exact (spec_DrawParseChart.run k) l0_3 x1_3 x2_3 x3_3
  have e : spec_DrawParseChart.spec k = ⟨spec_DrawParseChart.T.ps, spec_DrawParseChart.T.rs, spec_DrawParseChart.T.ev tyt spec_DrawParseChart.tbl k⟩ := congrArg (FnSpec.mk _ _) (funext fun x => ((spec_DrawParseChart.e k (spec_DrawParseChart.T.run tyt spec_DrawParseChart.tbl k) x).trans (by rw [q3]; rfl)).symm)
  rw [e]
  exact h
/-! ### spec_l1Split: function 36 -/
def spec_l1Split.b5 (o5 : ByteArray → Int → List ByteArray → Int → Int → Option (List ByteArray)) (k : Nat) (x0_5 : ByteArray) (x1_5 : Int) (l2_5 : List ByteArray) (x3_5 : Int) (x4_5 : Int) : Option (List ByteArray) := (if x4_5 < (x0_5.size : Int) then ((chk x0_5.size x4_5).bind fun i1 => (if (byteAt x0_5 i1) = x1_5 then ((cut x0_5.size x3_5 x4_5).bind fun c2 => ((app 8796093022208 l2_5 [(x0_5.extract c2.1 (c2.1 + c2.2))]).bind fun l3 => (o5 x0_5 x1_5 l3 (w64 (x4_5 + 1)) (w64 (x4_5 + 1))))) else (o5 x0_5 x1_5 l2_5 x3_5 (w64 (x4_5 + 1))))) else ((cut x0_5.size x3_5 (x0_5.size : Int)).bind fun c4 => ((app 8796093022208 l2_5 [(x0_5.extract c4.1 (c4.1 + c4.2))]).bind fun l5 => (some l5))))
def spec_l1Split.l5 : Nat → ByteArray → Int → List ByteArray → Int → Int → Option (List ByteArray)
  | 0, _, _, _, _, _ => none
  | k + 1, x0_5, x1_5, l2_5, x3_5, x4_5 => spec_l1Split.b5 (spec_l1Split.l5 k) k x0_5 x1_5 l2_5 x3_5 x4_5
def spec_l1Split.m (o5 : ByteArray → Int → List ByteArray → Int → Int → Option (List ByteArray)) (k : Nat) (a0 : ByteArray) (a1 : Int) : Option (List ByteArray) := (o5 a0 a1 ([] : List (ByteArray)) 0 0)
def spec_l1Split.f (k : Nat) (a0 : ByteArray) (a1 : Int) : Option (List ByteArray) := spec_l1Split.m (spec_l1Split.l5 k) k a0 a1
noncomputable def spec_l1Split.spec (k : Nat) : FnSpec := ⟨[.d .str none, .d (.int .u8) none], [.d (.sl .str) (some 9)], fun x => spec_l1Split.f k x.1 x.2⟩
def spec_l1Split.S5 (x0_5 : ByteArray) (x1_5 : Int) (l2_5 : List ByteArray) (x3_5 : Int) (x4_5 : Int) : St := ⟨[(0, .val .str x0_5), (1, .val (.int .u8) x1_5), (5, .ref 100), (6, .val (.int .i64) x3_5), (7, .val (.int .i64) x4_5)], [(100, some (.row 9 .str l2_5))], 1000⟩
noncomputable def spec_l1Split.T : FnText := ⟨(conv [] (bodyOf Go.Proofs.Tryd.f36) 0).1, Go.Proofs.Tryd.f36.results.toList, 35, [(5, [(0, .rd .str), (1, .rd (.int .u8)), (5, .own 9 .str 100), (6, .rd (.int .i64)), (7, .rd (.int .i64))])], [.d .str none, .d (.int .u8) none], [.d (.sl .str) (some 9)]⟩
noncomputable def spec_l1Split.tbl (k : Nat) : Tbl := []
theorem spec_l1Split.e5 (k : Nat) (o : Nat → St → Option (List ByteArray)) (x0_5 : ByteArray) (x1_5 : Int) (l2_5 : List ByteArray) (x3_5 : Int) (x4_5 : Int) : spec_l1Split.T.step tyt (spec_l1Split.tbl k) o 5 (spec_l1Split.S5 x0_5 x1_5 l2_5 x3_5 x4_5) = spec_l1Split.b5 (fun x0_5 x1_5 l2_5 x3_5 x4_5 => o 5 (spec_l1Split.S5 x0_5 x1_5 l2_5 x3_5 x4_5)) k x0_5 x1_5 l2_5 x3_5 x4_5 := by kernel_rfl
theorem spec_l1Split.e (k : Nat) (o : Nat → St → Option (List ByteArray)) (a0 : ByteArray) (a1 : Int) : spec_l1Split.T.main tyt (spec_l1Split.tbl k) o (a0, a1) = spec_l1Split.m (fun x0_5 x1_5 l2_5 x3_5 x4_5 => o 5 (spec_l1Split.S5 x0_5 x1_5 l2_5 x3_5 x4_5)) k a0 a1 := by kernel_rfl
theorem spec_l1Split.ok : spec_l1Split.T.ok = true := by kernel_rfl
theorem spec_l1Split.run (k : Nat) : (∀ (x0_5 : ByteArray) (x1_5 : Int) (l2_5 : List ByteArray) (x3_5 : Int) (x4_5 : Int), spec_l1Split.T.run tyt spec_l1Split.tbl k 5 (spec_l1Split.S5 x0_5 x1_5 l2_5 x3_5 x4_5) = spec_l1Split.l5 k x0_5 x1_5 l2_5 x3_5 x4_5) := by
  induction k with
  | zero => exact fun x0_5 x1_5 l2_5 x3_5 x4_5 => rfl
  | succ k ih =>
    exact fun x0_5 x1_5 l2_5 x3_5 x4_5 => by
      have q5 : (fun x0_5 x1_5 l2_5 x3_5 x4_5 => spec_l1Split.T.run tyt spec_l1Split.tbl k 5 (spec_l1Split.S5 x0_5 x1_5 l2_5 x3_5 x4_5)) = spec_l1Split.l5 k := by funext x0_5 x1_5 l2_5 x3_5 x4_5; exact ih x0_5 x1_5 l2_5 x3_5 x4_5
      exact (spec_l1Split.e5 k (spec_l1Split.T.run tyt spec_l1Split.tbl k) x0_5 x1_5 l2_5 x3_5 x4_5).trans (by rw [q5]; rfl)
theorem spec_l1Split.tblok (k : Nat) : TblOk Go.Proofs.Tryd.prog (spec_l1Split.tbl k) := TblOk.nil _
theorem spec_l1Split.sound (k : Nat) : Sound Go.Proofs.Tryd.prog 36 (spec_l1Split.spec k) := by
  have h := fn_ok (F := spec_l1Split.T) (tbl := spec_l1Split.tbl) mixed tyok Go.Proofs.Tryd.func36 (by kernel_rfl) (c0 := bodyOf Go.Proofs.Tryd.f36) rfl (conv_code _ _ _) rfl rfl spec_l1Split.ok k (fun j _ => spec_l1Split.tblok j)
  have q5 : (fun x0_5 x1_5 l2_5 x3_5 x4_5 => spec_l1Split.T.run tyt spec_l1Split.tbl k 5 (spec_l1Split.S5 x0_5 x1_5 l2_5 x3_5 x4_5)) = spec_l1Split.l5 k := by funext x0_5 x1_5 l2_5 x3_5 x4_5; exact (spec_l1Split.run k) x0_5 x1_5 l2_5 x3_5 x4_5
  have e : spec_l1Split.spec k = ⟨spec_l1Split.T.ps, spec_l1Split.T.rs, spec_l1Split.T.ev tyt spec_l1Split.tbl k⟩ := congrArg (FnSpec.mk _ _) (funext fun x => ((spec_l1Split.e k (spec_l1Split.T.run tyt spec_l1Split.tbl k) x.1 x.2).trans (by rw [q5]; rfl)).symm)
  rw [e]
  exact h
/-! ### spec_ParseChart: function 12 -/
def spec_ParseChart.b8 (o8 : ByteArray → Int → Int → List Int → Int → Int → List Int → Int → Option (Int × Int × List Int × Bool)) (k : Nat) (x0_8 : ByteArray) (x1_8 : Int) (x2_8 : Int) (l3_8 : List Int) (x4_8 : Int) (x5_8 : Int) (l6_8 : List Int) (x7_8 : Int) : Option (Int × Int × List Int × Bool) := (if x7_8 < (x0_8.size : Int) then ((chk x0_8.size x7_8).bind fun i3 => (if ¬ (byteAt x0_8 i3) = 47 then ((chk x0_8.size x7_8).bind fun i4 => ((app 17592186044416 l6_8 [(w64 ((w64 ((byteAt x0_8 i4))) - 97))]).bind fun l5 => (o8 x0_8 x1_8 x2_8 l3_8 x4_8 x5_8 l5 (w64 (x7_8 + 1))))) else (o8 x0_8 x1_8 x2_8 l3_8 x4_8 x5_8 l6_8 (w64 (x7_8 + 1))))) else ((spec_l2Good.f k x4_8 x5_8 l6_8).bind fun r6 => (cond (!r6) (some (0, 0, [], false)) ((spec_l2Text.f k x4_8 x5_8 l6_8).bind fun r7 => (if ¬ r7 = x0_8 then (some (0, 0, [], false)) else (some (x4_8, x5_8, l6_8, true)))))))
def spec_ParseChart.l8 : Nat → ByteArray → Int → Int → List Int → Int → Int → List Int → Int → Option (Int × Int × List Int × Bool)
  | 0, _, _, _, _, _, _, _, _ => none
  | k + 1, x0_8, x1_8, x2_8, l3_8, x4_8, x5_8, l6_8, x7_8 => spec_ParseChart.b8 (spec_ParseChart.l8 k) k x0_8 x1_8 x2_8 l3_8 x4_8 x5_8 l6_8 x7_8
def spec_ParseChart.m (o8 : ByteArray → Int → Int → List Int → Int → Int → List Int → Int → Option (Int × Int × List Int × Bool)) (k : Nat) (a0 : ByteArray) : Option (Int × Int × List Int × Bool) := (if 72 < (a0.size : Int) then (some (0, 0, [], false)) else ((spec_l1Split.f k a0 47).bind fun r1 => ((chk r1.length 0).bind fun i2 => (o8 a0 0 0 [] ((r1.getD i2 ByteArray.empty).size : Int) (r1.length : Int) ([] : List (Int)) 0))))
def spec_ParseChart.f (k : Nat) (a0 : ByteArray) : Option (Int × Int × List Int × Bool) := spec_ParseChart.m (spec_ParseChart.l8 k) k a0
noncomputable def spec_ParseChart.spec (k : Nat) : FnSpec := ⟨[.d .str none], [.ag [.d (.int .i64) none, .d (.int .i64) none, .d (.sl (.int .i64)) (some 3)], .d .bool none], fun x => spec_ParseChart.f k x⟩
def spec_ParseChart.S8 (x0_8 : ByteArray) (x1_8 : Int) (x2_8 : Int) (l3_8 : List Int) (x4_8 : Int) (x5_8 : Int) (l6_8 : List Int) (x7_8 : Int) : St := ⟨[(0, .val .str x0_8), (2, .ptr 100 0), (5, .ptr 101 0), (6, .val (.int .i64) x7_8)], [(101, some (.box [.val (.int .i64) x4_8, .val (.int .i64) x5_8, .ref 102])), (102, some (.row 3 (.int .i64) l6_8)), (100, some (.box [.val (.int .i64) x1_8, .val (.int .i64) x2_8, .val (.sl (.int .i64)) l3_8]))], 1000⟩
noncomputable def spec_ParseChart.T : FnText := ⟨(conv [] (bodyOf Go.Proofs.Tryd.f12) 0).1, Go.Proofs.Tryd.f12.results.toList, 52, [(8, [(0, .rd .str), (2, .bx 100 [.rd (.int .i64), .rd (.int .i64), .rd (.sl (.int .i64))]), (5, .bx 101 [.rd (.int .i64), .rd (.int .i64), .own 3 (.int .i64) 102]), (6, .rd (.int .i64))])], [.d .str none], [.ag [.d (.int .i64) none, .d (.int .i64) none, .d (.sl (.int .i64)) (some 3)], .d .bool none]⟩
noncomputable def spec_ParseChart.tbl (k : Nat) : Tbl := [(36, spec_l1Split.spec k), (28, spec_l2Good.spec k), (29, spec_l2Text.spec k)]
theorem spec_ParseChart.e8 (k : Nat) (o : Nat → St → Option (Int × Int × List Int × Bool)) (x0_8 : ByteArray) (x1_8 : Int) (x2_8 : Int) (l3_8 : List Int) (x4_8 : Int) (x5_8 : Int) (l6_8 : List Int) (x7_8 : Int) : spec_ParseChart.T.step tyt (spec_ParseChart.tbl k) o 8 (spec_ParseChart.S8 x0_8 x1_8 x2_8 l3_8 x4_8 x5_8 l6_8 x7_8) = spec_ParseChart.b8 (fun x0_8 x1_8 x2_8 l3_8 x4_8 x5_8 l6_8 x7_8 => o 8 (spec_ParseChart.S8 x0_8 x1_8 x2_8 l3_8 x4_8 x5_8 l6_8 x7_8)) k x0_8 x1_8 x2_8 l3_8 x4_8 x5_8 l6_8 x7_8 := by kernel_rfl
theorem spec_ParseChart.e (k : Nat) (o : Nat → St → Option (Int × Int × List Int × Bool)) (a0 : ByteArray) : spec_ParseChart.T.main tyt (spec_ParseChart.tbl k) o a0 = spec_ParseChart.m (fun x0_8 x1_8 x2_8 l3_8 x4_8 x5_8 l6_8 x7_8 => o 8 (spec_ParseChart.S8 x0_8 x1_8 x2_8 l3_8 x4_8 x5_8 l6_8 x7_8)) k a0 := by kernel_rfl
theorem spec_ParseChart.ok : spec_ParseChart.T.ok = true := by kernel_rfl
theorem spec_ParseChart.run (k : Nat) : (∀ (x0_8 : ByteArray) (x1_8 : Int) (x2_8 : Int) (l3_8 : List Int) (x4_8 : Int) (x5_8 : Int) (l6_8 : List Int) (x7_8 : Int), spec_ParseChart.T.run tyt spec_ParseChart.tbl k 8 (spec_ParseChart.S8 x0_8 x1_8 x2_8 l3_8 x4_8 x5_8 l6_8 x7_8) = spec_ParseChart.l8 k x0_8 x1_8 x2_8 l3_8 x4_8 x5_8 l6_8 x7_8) := by
  induction k with
  | zero => exact fun x0_8 x1_8 x2_8 l3_8 x4_8 x5_8 l6_8 x7_8 => rfl
  | succ k ih =>
    exact fun x0_8 x1_8 x2_8 l3_8 x4_8 x5_8 l6_8 x7_8 => by
      have q8 : (fun x0_8 x1_8 x2_8 l3_8 x4_8 x5_8 l6_8 x7_8 => spec_ParseChart.T.run tyt spec_ParseChart.tbl k 8 (spec_ParseChart.S8 x0_8 x1_8 x2_8 l3_8 x4_8 x5_8 l6_8 x7_8)) = spec_ParseChart.l8 k := by funext x0_8 x1_8 x2_8 l3_8 x4_8 x5_8 l6_8 x7_8; exact ih x0_8 x1_8 x2_8 l3_8 x4_8 x5_8 l6_8 x7_8
      exact (spec_ParseChart.e8 k (spec_ParseChart.T.run tyt spec_ParseChart.tbl k) x0_8 x1_8 x2_8 l3_8 x4_8 x5_8 l6_8 x7_8).trans (by rw [q8]; rfl)
theorem spec_ParseChart.tblok (k : Nat) : TblOk Go.Proofs.Tryd.prog (spec_ParseChart.tbl k) := TblOk.cons (spec_l1Split.sound k) (TblOk.cons (spec_l2Good.sound k) (TblOk.cons (spec_l2Text.sound k) (TblOk.nil _)))
theorem spec_ParseChart.sound (k : Nat) : Sound Go.Proofs.Tryd.prog 12 (spec_ParseChart.spec k) := by
  have h := fn_ok (F := spec_ParseChart.T) (tbl := spec_ParseChart.tbl) mixed tyok Go.Proofs.Tryd.func12 (by kernel_rfl) (c0 := bodyOf Go.Proofs.Tryd.f12) rfl (conv_code _ _ _) rfl rfl spec_ParseChart.ok k (fun j _ => spec_ParseChart.tblok j)
  have q8 : (fun x0_8 x1_8 x2_8 l3_8 x4_8 x5_8 l6_8 x7_8 => spec_ParseChart.T.run tyt spec_ParseChart.tbl k 8 (spec_ParseChart.S8 x0_8 x1_8 x2_8 l3_8 x4_8 x5_8 l6_8 x7_8)) = spec_ParseChart.l8 k := by funext x0_8 x1_8 x2_8 l3_8 x4_8 x5_8 l6_8 x7_8; exact (spec_ParseChart.run k) x0_8 x1_8 x2_8 l3_8 x4_8 x5_8 l6_8 x7_8
  have e : spec_ParseChart.spec k = ⟨spec_ParseChart.T.ps, spec_ParseChart.T.rs, spec_ParseChart.T.ev tyt spec_ParseChart.tbl k⟩ := congrArg (FnSpec.mk _ _) (funext fun x => ((spec_ParseChart.e k (spec_ParseChart.T.run tyt spec_ParseChart.tbl k) x).trans (by rw [q8]; rfl)).symm)
  rw [e]
  exact h
/-! ### spec_DrawCountColors: function 13 -/
def spec_DrawCountColors.m (k : Nat) (l0 : List Int) : Option (Int × Int × List Int) := ((spec_DrawIsChart.f k l0).bind fun r1 => (some (r1.1, r1.2.1, r1.2.2)))
def spec_DrawCountColors.f (k : Nat) (l0 : List Int) : Option (Int × Int × List Int) := spec_DrawCountColors.m k l0
noncomputable def spec_DrawCountColors.spec (k : Nat) : FnSpec := ⟨[.d (.sl (.int .u8)) none], [.ag [.d (.int .i64) none, .d (.int .i64) none, .d (.sl (.int .i64)) (some 3)]], fun x => spec_DrawCountColors.f k x⟩
noncomputable def spec_DrawCountColors.T : FnText := ⟨(conv [] (bodyOf Go.Proofs.Tryd.f13) 0).1, Go.Proofs.Tryd.f13.results.toList, 5, [], [.d (.sl (.int .u8)) none], [.ag [.d (.int .i64) none, .d (.int .i64) none, .d (.sl (.int .i64)) (some 3)]]⟩
noncomputable def spec_DrawCountColors.tbl (k : Nat) : Tbl := [(24, spec_DrawIsChart.spec k)]
theorem spec_DrawCountColors.e (k : Nat) (o : Nat → St → Option (Int × Int × List Int)) (l0 : List Int) : spec_DrawCountColors.T.main tyt (spec_DrawCountColors.tbl k) o l0 = spec_DrawCountColors.m k l0 := by kernel_rfl
theorem spec_DrawCountColors.ok : spec_DrawCountColors.T.ok = true := by kernel_rfl
theorem spec_DrawCountColors.tblok (k : Nat) : TblOk Go.Proofs.Tryd.prog (spec_DrawCountColors.tbl k) := TblOk.cons (spec_DrawIsChart.sound k) (TblOk.nil _)
theorem spec_DrawCountColors.sound (k : Nat) : Sound Go.Proofs.Tryd.prog 13 (spec_DrawCountColors.spec k) := by
  have h := fn_ok (F := spec_DrawCountColors.T) (tbl := spec_DrawCountColors.tbl) mixed tyok Go.Proofs.Tryd.func13 (by kernel_rfl) (c0 := bodyOf Go.Proofs.Tryd.f13) rfl (conv_code _ _ _) rfl rfl spec_DrawCountColors.ok k (fun j _ => spec_DrawCountColors.tblok j)
  have e : spec_DrawCountColors.spec k = ⟨spec_DrawCountColors.T.ps, spec_DrawCountColors.T.rs, spec_DrawCountColors.T.ev tyt spec_DrawCountColors.tbl k⟩ := congrArg (FnSpec.mk _ _) (funext fun x => ((spec_DrawCountColors.e k (spec_DrawCountColors.T.run tyt spec_DrawCountColors.tbl k) x).trans (by rfl)).symm)
  rw [e]
  exact h
/-! ### impl_Chart_colors: function 37 -/
def impl_Chart_colors.b4 (o4 : List Int → List Int → Int → Int → Option (List Int)) (k : Nat) (l0_4 : List Int) (l1_4 : List Int) (x2_4 : Int) (x3_4 : Int) : Option (List Int) := (if x3_4 < x2_4 then ((chk l1_4.length x3_4).bind fun i2 => ((chk l0_4.length (l1_4.getD i2 0)).bind fun i3 => ((chk l0_4.length (l1_4.getD i2 0)).bind fun i4 => (o4 (l0_4.set i4 (w64 ((l0_4.getD i3 0) + 1))) l1_4 x2_4 (w64 (x3_4 + 1)))))) else (some l0_4))
def impl_Chart_colors.l4 : Nat → List Int → List Int → Int → Int → Option (List Int)
  | 0, _, _, _, _ => none
  | k + 1, l0_4, l1_4, x2_4, x3_4 => impl_Chart_colors.b4 (impl_Chart_colors.l4 k) k l0_4 l1_4 x2_4 x3_4
def impl_Chart_colors.m (o4 : List Int → List Int → Int → Int → Option (List Int)) (k : Nat) (a0_0 : Int) (a0_1 : Int) (l0_2 : List Int) : Option (List Int) := ((mkl 17592186044416 6 6).bind fun n1 => (o4 (List.replicate n1 (0 : Int)) l0_2 (l0_2.length : Int) 0))
def impl_Chart_colors.f (k : Nat) (a0_0 : Int) (a0_1 : Int) (l0_2 : List Int) : Option (List Int) := impl_Chart_colors.m (impl_Chart_colors.l4 k) k a0_0 a0_1 l0_2
noncomputable def impl_Chart_colors.spec (k : Nat) : FnSpec := ⟨[.ag [.d (.int .i64) none, .d (.int .i64) none, .d (.sl (.int .i64)) none]], [.d (.sl (.int .i64)) (some 3)], fun x => impl_Chart_colors.f k x.1 x.2.1 x.2.2⟩
def impl_Chart_colors.S4 (l0_4 : List Int) (l1_4 : List Int) (x2_4 : Int) (x3_4 : Int) : St := ⟨[(3, .ref 100), (8, .val (.sl (.int .i64)) l1_4), (9, .val (.int .i64) x2_4), (10, .val (.int .i64) x3_4)], [(100, some (.row 3 (.int .i64) l0_4))], 1000⟩
noncomputable def impl_Chart_colors.T : FnText := ⟨(conv [] (bodyOf Go.Proofs.Tryd.f37) 0).1, Go.Proofs.Tryd.f37.results.toList, 22, [(4, [(3, .own 3 (.int .i64) 100), (8, .rd (.sl (.int .i64))), (9, .rd (.int .i64)), (10, .rd (.int .i64))])], [.ag [.d (.int .i64) none, .d (.int .i64) none, .d (.sl (.int .i64)) none]], [.d (.sl (.int .i64)) (some 3)]⟩
noncomputable def impl_Chart_colors.tbl (k : Nat) : Tbl := []
theorem impl_Chart_colors.e4 (k : Nat) (o : Nat → St → Option (List Int)) (l0_4 : List Int) (l1_4 : List Int) (x2_4 : Int) (x3_4 : Int) : impl_Chart_colors.T.step tyt (impl_Chart_colors.tbl k) o 4 (impl_Chart_colors.S4 l0_4 l1_4 x2_4 x3_4) = impl_Chart_colors.b4 (fun l0_4 l1_4 x2_4 x3_4 => o 4 (impl_Chart_colors.S4 l0_4 l1_4 x2_4 x3_4)) k l0_4 l1_4 x2_4 x3_4 := by kernel_rfl
theorem impl_Chart_colors.e (k : Nat) (o : Nat → St → Option (List Int)) (a0_0 : Int) (a0_1 : Int) (l0_2 : List Int) : impl_Chart_colors.T.main tyt (impl_Chart_colors.tbl k) o (a0_0, a0_1, l0_2) = impl_Chart_colors.m (fun l0_4 l1_4 x2_4 x3_4 => o 4 (impl_Chart_colors.S4 l0_4 l1_4 x2_4 x3_4)) k a0_0 a0_1 l0_2 := by kernel_rfl
theorem impl_Chart_colors.ok : impl_Chart_colors.T.ok = true := by kernel_rfl
theorem impl_Chart_colors.run (k : Nat) : (∀ (l0_4 : List Int) (l1_4 : List Int) (x2_4 : Int) (x3_4 : Int), impl_Chart_colors.T.run tyt impl_Chart_colors.tbl k 4 (impl_Chart_colors.S4 l0_4 l1_4 x2_4 x3_4) = impl_Chart_colors.l4 k l0_4 l1_4 x2_4 x3_4) := by
  induction k with
  | zero => exact fun l0_4 l1_4 x2_4 x3_4 => rfl
  | succ k ih =>
    exact fun l0_4 l1_4 x2_4 x3_4 => by
      have q4 : (fun l0_4 l1_4 x2_4 x3_4 => impl_Chart_colors.T.run tyt impl_Chart_colors.tbl k 4 (impl_Chart_colors.S4 l0_4 l1_4 x2_4 x3_4)) = impl_Chart_colors.l4 k := by funext l0_4 l1_4 x2_4 x3_4; exact ih l0_4 l1_4 x2_4 x3_4
      exact (impl_Chart_colors.e4 k (impl_Chart_colors.T.run tyt impl_Chart_colors.tbl k) l0_4 l1_4 x2_4 x3_4).trans (by rw [q4]; rfl)
theorem impl_Chart_colors.tblok (k : Nat) : TblOk Go.Proofs.Tryd.prog (impl_Chart_colors.tbl k) := TblOk.nil _
theorem impl_Chart_colors.sound (k : Nat) : Sound Go.Proofs.Tryd.prog 37 (impl_Chart_colors.spec k) := by
  have h := fn_ok (F := impl_Chart_colors.T) (tbl := impl_Chart_colors.tbl) mixed tyok Go.Proofs.Tryd.func37 (by kernel_rfl) (c0 := bodyOf Go.Proofs.Tryd.f37) rfl (conv_code _ _ _) rfl rfl impl_Chart_colors.ok k (fun j _ => impl_Chart_colors.tblok j)
  have q4 : (fun l0_4 l1_4 x2_4 x3_4 => impl_Chart_colors.T.run tyt impl_Chart_colors.tbl k 4 (impl_Chart_colors.S4 l0_4 l1_4 x2_4 x3_4)) = impl_Chart_colors.l4 k := by funext l0_4 l1_4 x2_4 x3_4; exact (impl_Chart_colors.run k) l0_4 l1_4 x2_4 x3_4
  have e : impl_Chart_colors.spec k = ⟨impl_Chart_colors.T.ps, impl_Chart_colors.T.rs, impl_Chart_colors.T.ev tyt impl_Chart_colors.tbl k⟩ := congrArg (FnSpec.mk _ _) (funext fun x => ((impl_Chart_colors.e k (impl_Chart_colors.T.run tyt impl_Chart_colors.tbl k) x.1 x.2.1 x.2.2).trans (by rw [q4]; rfl)).symm)
  rw [e]
  exact h
/-! ### impl_CountColors: function 14 -/
def impl_CountColors.m (k : Nat) (a0_0 : Int) (a0_1 : Int) (l0_2 : List Int) : Option (List Int × Bool) := ((impl_IsChart.f k a0_0 a0_1 l0_2).bind fun r1 => (cond (!r1) (some ([], false)) ((impl_Chart_colors.f k a0_0 a0_1 l0_2).bind fun r2 => (some (r2, true)))))
def impl_CountColors.f (k : Nat) (a0_0 : Int) (a0_1 : Int) (l0_2 : List Int) : Option (List Int × Bool) := impl_CountColors.m k a0_0 a0_1 l0_2
noncomputable def impl_CountColors.spec (k : Nat) : FnSpec := ⟨[.ag [.d (.int .i64) none, .d (.int .i64) none, .d (.sl (.int .i64)) none]], [.d (.sl (.int .i64)) (some 3), .d .bool none], fun x => impl_CountColors.f k x.1 x.2.1 x.2.2⟩
noncomputable def impl_CountColors.T : FnText := ⟨(conv [] (bodyOf Go.Proofs.Tryd.f14) 0).1, Go.Proofs.Tryd.f14.results.toList, 9, [], [.ag [.d (.int .i64) none, .d (.int .i64) none, .d (.sl (.int .i64)) none]], [.d (.sl (.int .i64)) (some 3), .d .bool none]⟩
noncomputable def impl_CountColors.tbl (k : Nat) : Tbl := [(9, impl_IsChart.spec k), (37, impl_Chart_colors.spec k)]
theorem impl_CountColors.e (k : Nat) (o : Nat → St → Option (List Int × Bool)) (a0_0 : Int) (a0_1 : Int) (l0_2 : List Int) : impl_CountColors.T.main tyt (impl_CountColors.tbl k) o (a0_0, a0_1, l0_2) = impl_CountColors.m k a0_0 a0_1 l0_2 := by kernel_rfl
theorem impl_CountColors.ok : impl_CountColors.T.ok = true := by kernel_rfl
theorem impl_CountColors.tblok (k : Nat) : TblOk Go.Proofs.Tryd.prog (impl_CountColors.tbl k) := TblOk.cons (impl_IsChart.sound k) (TblOk.cons (impl_Chart_colors.sound k) (TblOk.nil _))
theorem impl_CountColors.sound (k : Nat) : Sound Go.Proofs.Tryd.prog 14 (impl_CountColors.spec k) := by
  have h := fn_ok (F := impl_CountColors.T) (tbl := impl_CountColors.tbl) mixed tyok Go.Proofs.Tryd.func14 (by kernel_rfl) (c0 := bodyOf Go.Proofs.Tryd.f14) rfl (conv_code _ _ _) rfl rfl impl_CountColors.ok k (fun j _ => impl_CountColors.tblok j)
  have e : impl_CountColors.spec k = ⟨impl_CountColors.T.ps, impl_CountColors.T.rs, impl_CountColors.T.ev tyt impl_CountColors.tbl k⟩ := congrArg (FnSpec.mk _ _) (funext fun x => ((impl_CountColors.e k (impl_CountColors.T.run tyt impl_CountColors.tbl k) x.1 x.2.1 x.2.2).trans (by rfl)).symm)
  rw [e]
  exact h
/-! ### spec_CountColors: function 15 -/
def spec_CountColors.b7 (o7 : Int → Int → List Int → List Int → Int → Option (List Int × Bool)) (k : Nat) (x0_7 : Int) (x1_7 : Int) (l2_7 : List Int) (l3_7 : List Int) (x4_7 : Int) : Option (List Int × Bool) := (if x4_7 < (l2_7.length : Int) then ((chk l2_7.length x4_7).bind fun i3 => ((chk l3_7.length (l2_7.getD i3 0)).bind fun i4 => ((chk l3_7.length (l2_7.getD i3 0)).bind fun i5 => (o7 x0_7 x1_7 l2_7 (l3_7.set i5 (w64 ((l3_7.getD i4 0) + 1))) (w64 (x4_7 + 1)))))) else (some (l3_7, true)))
def spec_CountColors.l7 : Nat → Int → Int → List Int → List Int → Int → Option (List Int × Bool)
  | 0, _, _, _, _, _ => none
  | k + 1, x0_7, x1_7, l2_7, l3_7, x4_7 => spec_CountColors.b7 (spec_CountColors.l7 k) k x0_7 x1_7 l2_7 l3_7 x4_7
def spec_CountColors.m (o7 : Int → Int → List Int → List Int → Int → Option (List Int × Bool)) (k : Nat) (a0_0 : Int) (a0_1 : Int) (l0_2 : List Int) : Option (List Int × Bool) := ((spec_l2Good.f k a0_0 a0_1 l0_2).bind fun r1 => (cond (!r1) (some (([] : List (Int)), false)) ((mkl 17592186044416 6 6).bind fun n2 => (o7 a0_0 a0_1 l0_2 (List.replicate n2 (0 : Int)) 0))))
def spec_CountColors.f (k : Nat) (a0_0 : Int) (a0_1 : Int) (l0_2 : List Int) : Option (List Int × Bool) := spec_CountColors.m (spec_CountColors.l7 k) k a0_0 a0_1 l0_2
noncomputable def spec_CountColors.spec (k : Nat) : FnSpec := ⟨[.ag [.d (.int .i64) none, .d (.int .i64) none, .d (.sl (.int .i64)) none]], [.d (.sl (.int .i64)) (some 3), .d .bool none], fun x => spec_CountColors.f k x.1 x.2.1 x.2.2⟩
def spec_CountColors.S7 (x0_7 : Int) (x1_7 : Int) (l2_7 : List Int) (l3_7 : List Int) (x4_7 : Int) : St := ⟨[(1, .ptr 100 0), (4, .ref 101), (5, .val (.int .i64) x4_7)], [(101, some (.row 3 (.int .i64) l3_7)), (100, some (.box [.val (.int .i64) x0_7, .val (.int .i64) x1_7, .val (.sl (.int .i64)) l2_7]))], 1000⟩
noncomputable def spec_CountColors.T : FnText := ⟨(conv [] (bodyOf Go.Proofs.Tryd.f15) 0).1, Go.Proofs.Tryd.f15.results.toList, 33, [(7, [(1, .bx 100 [.rd (.int .i64), .rd (.int .i64), .rd (.sl (.int .i64))]), (4, .own 3 (.int .i64) 101), (5, .rd (.int .i64))])], [.ag [.d (.int .i64) none, .d (.int .i64) none, .d (.sl (.int .i64)) none]], [.d (.sl (.int .i64)) (some 3), .d .bool none]⟩
noncomputable def spec_CountColors.tbl (k : Nat) : Tbl := [(28, spec_l2Good.spec k)]
theorem spec_CountColors.e7 (k : Nat) (o : Nat → St → Option (List Int × Bool)) (x0_7 : Int) (x1_7 : Int) (l2_7 : List Int) (l3_7 : List Int) (x4_7 : Int) : spec_CountColors.T.step tyt (spec_CountColors.tbl k) o 7 (spec_CountColors.S7 x0_7 x1_7 l2_7 l3_7 x4_7) = spec_CountColors.b7 (fun x0_7 x1_7 l2_7 l3_7 x4_7 => o 7 (spec_CountColors.S7 x0_7 x1_7 l2_7 l3_7 x4_7)) k x0_7 x1_7 l2_7 l3_7 x4_7 := by kernel_rfl
theorem spec_CountColors.e (k : Nat) (o : Nat → St → Option (List Int × Bool)) (a0_0 : Int) (a0_1 : Int) (l0_2 : List Int) : spec_CountColors.T.main tyt (spec_CountColors.tbl k) o (a0_0, a0_1, l0_2) = spec_CountColors.m (fun x0_7 x1_7 l2_7 l3_7 x4_7 => o 7 (spec_CountColors.S7 x0_7 x1_7 l2_7 l3_7 x4_7)) k a0_0 a0_1 l0_2 := by kernel_rfl
theorem spec_CountColors.ok : spec_CountColors.T.ok = true := by kernel_rfl
theorem spec_CountColors.run (k : Nat) : (∀ (x0_7 : Int) (x1_7 : Int) (l2_7 : List Int) (l3_7 : List Int) (x4_7 : Int), spec_CountColors.T.run tyt spec_CountColors.tbl k 7 (spec_CountColors.S7 x0_7 x1_7 l2_7 l3_7 x4_7) = spec_CountColors.l7 k x0_7 x1_7 l2_7 l3_7 x4_7) := by
  induction k with
  | zero => exact fun x0_7 x1_7 l2_7 l3_7 x4_7 => rfl
  | succ k ih =>
    exact fun x0_7 x1_7 l2_7 l3_7 x4_7 => by
      have q7 : (fun x0_7 x1_7 l2_7 l3_7 x4_7 => spec_CountColors.T.run tyt spec_CountColors.tbl k 7 (spec_CountColors.S7 x0_7 x1_7 l2_7 l3_7 x4_7)) = spec_CountColors.l7 k := by funext x0_7 x1_7 l2_7 l3_7 x4_7; exact ih x0_7 x1_7 l2_7 l3_7 x4_7
      exact (spec_CountColors.e7 k (spec_CountColors.T.run tyt spec_CountColors.tbl k) x0_7 x1_7 l2_7 l3_7 x4_7).trans (by rw [q7]; rfl)
theorem spec_CountColors.tblok (k : Nat) : TblOk Go.Proofs.Tryd.prog (spec_CountColors.tbl k) := TblOk.cons (spec_l2Good.sound k) (TblOk.nil _)
theorem spec_CountColors.sound (k : Nat) : Sound Go.Proofs.Tryd.prog 15 (spec_CountColors.spec k) := by
  have h := fn_ok (F := spec_CountColors.T) (tbl := spec_CountColors.tbl) mixed tyok Go.Proofs.Tryd.func15 (by kernel_rfl) (c0 := bodyOf Go.Proofs.Tryd.f15) rfl (conv_code _ _ _) rfl rfl spec_CountColors.ok k (fun j _ => spec_CountColors.tblok j)
  have q7 : (fun x0_7 x1_7 l2_7 l3_7 x4_7 => spec_CountColors.T.run tyt spec_CountColors.tbl k 7 (spec_CountColors.S7 x0_7 x1_7 l2_7 l3_7 x4_7)) = spec_CountColors.l7 k := by funext x0_7 x1_7 l2_7 l3_7 x4_7; exact (spec_CountColors.run k) x0_7 x1_7 l2_7 l3_7 x4_7
  have e : spec_CountColors.spec k = ⟨spec_CountColors.T.ps, spec_CountColors.T.rs, spec_CountColors.T.ev tyt spec_CountColors.tbl k⟩ := congrArg (FnSpec.mk _ _) (funext fun x => ((spec_CountColors.e k (spec_CountColors.T.run tyt spec_CountColors.tbl k) x.1 x.2.1 x.2.2).trans (by rw [q7]; rfl)).symm)
  rw [e]
  exact h
/-! ### laws_vSum: function 17 -/
def laws_vSum.b4 (o4 : List Int → Int → Int → Option (Int)) (k : Nat) (l0_4 : List Int) (x1_4 : Int) (x2_4 : Int) : Option (Int) := (if x2_4 < (l0_4.length : Int) then ((chk l0_4.length x2_4).bind fun i1 => (o4 l0_4 (w64 (x1_4 + (l0_4.getD i1 0))) (w64 (x2_4 + 1)))) else (some x1_4))
def laws_vSum.l4 : Nat → List Int → Int → Int → Option (Int)
  | 0, _, _, _ => none
  | k + 1, l0_4, x1_4, x2_4 => laws_vSum.b4 (laws_vSum.l4 k) k l0_4 x1_4 x2_4
def laws_vSum.m (o4 : List Int → Int → Int → Option (Int)) (k : Nat) (l0 : List Int) : Option (Int) := (o4 l0 0 0)
def laws_vSum.f (k : Nat) (l0 : List Int) : Option (Int) := laws_vSum.m (laws_vSum.l4 k) k l0
noncomputable def laws_vSum.spec (k : Nat) : FnSpec := ⟨[.d (.sl (.int .i64)) none], [.d (.int .i64) none], fun x => laws_vSum.f k x⟩
def laws_vSum.S4 (l0_4 : List Int) (x1_4 : Int) (x2_4 : Int) : St := ⟨[(0, .val (.sl (.int .i64)) l0_4), (3, .val (.int .i64) x1_4), (4, .val (.int .i64) x2_4)], [], 1000⟩
noncomputable def laws_vSum.T : FnText := ⟨(conv [] (bodyOf Go.Proofs.Tryd.f17) 0).1, Go.Proofs.Tryd.f17.results.toList, 18, [(4, [(0, .rd (.sl (.int .i64))), (3, .rd (.int .i64)), (4, .rd (.int .i64))])], [.d (.sl (.int .i64)) none], [.d (.int .i64) none]⟩
noncomputable def laws_vSum.tbl (k : Nat) : Tbl := []
theorem laws_vSum.e4 (k : Nat) (o : Nat → St → Option (Int)) (l0_4 : List Int) (x1_4 : Int) (x2_4 : Int) : laws_vSum.T.step tyt (laws_vSum.tbl k) o 4 (laws_vSum.S4 l0_4 x1_4 x2_4) = laws_vSum.b4 (fun l0_4 x1_4 x2_4 => o 4 (laws_vSum.S4 l0_4 x1_4 x2_4)) k l0_4 x1_4 x2_4 := by kernel_rfl
theorem laws_vSum.e (k : Nat) (o : Nat → St → Option (Int)) (l0 : List Int) : laws_vSum.T.main tyt (laws_vSum.tbl k) o l0 = laws_vSum.m (fun l0_4 x1_4 x2_4 => o 4 (laws_vSum.S4 l0_4 x1_4 x2_4)) k l0 := by kernel_rfl
theorem laws_vSum.ok : laws_vSum.T.ok = true := by kernel_rfl
theorem laws_vSum.run (k : Nat) : (∀ (l0_4 : List Int) (x1_4 : Int) (x2_4 : Int), laws_vSum.T.run tyt laws_vSum.tbl k 4 (laws_vSum.S4 l0_4 x1_4 x2_4) = laws_vSum.l4 k l0_4 x1_4 x2_4) := by
  induction k with
  | zero => exact fun l0_4 x1_4 x2_4 => rfl
  | succ k ih =>
    exact fun l0_4 x1_4 x2_4 => by
      have q4 : (fun l0_4 x1_4 x2_4 => laws_vSum.T.run tyt laws_vSum.tbl k 4 (laws_vSum.S4 l0_4 x1_4 x2_4)) = laws_vSum.l4 k := by funext l0_4 x1_4 x2_4; exact ih l0_4 x1_4 x2_4
      exact (laws_vSum.e4 k (laws_vSum.T.run tyt laws_vSum.tbl k) l0_4 x1_4 x2_4).trans (by rw [q4]; rfl)
theorem laws_vSum.tblok (k : Nat) : TblOk Go.Proofs.Tryd.prog (laws_vSum.tbl k) := TblOk.nil _
theorem laws_vSum.sound (k : Nat) : Sound Go.Proofs.Tryd.prog 17 (laws_vSum.spec k) := by
  have h := fn_ok (F := laws_vSum.T) (tbl := laws_vSum.tbl) mixed tyok Go.Proofs.Tryd.func17 (by kernel_rfl) (c0 := bodyOf Go.Proofs.Tryd.f17) rfl (conv_code _ _ _) rfl rfl laws_vSum.ok k (fun j _ => laws_vSum.tblok j)
  have q4 : (fun l0_4 x1_4 x2_4 => laws_vSum.T.run tyt laws_vSum.tbl k 4 (laws_vSum.S4 l0_4 x1_4 x2_4)) = laws_vSum.l4 k := by funext l0_4 x1_4 x2_4; exact (laws_vSum.run k) l0_4 x1_4 x2_4
  have e : laws_vSum.spec k = ⟨laws_vSum.T.ps, laws_vSum.T.rs, laws_vSum.T.ev tyt laws_vSum.tbl k⟩ := congrArg (FnSpec.mk _ _) (funext fun x => ((laws_vSum.e k (laws_vSum.T.run tyt laws_vSum.tbl k) x).trans (by rw [q4]; rfl)).symm)
  rw [e]
  exact h
/-! ### spec_l1Cur_color: function 38 -/
def spec_l1Cur_color.m (k : Nat) (l0_0 : List Int) (a0_1 : Int) (a0_2 : Int) : Option (Int × List Int × Int × Int) := ((spec_l1Cur_among_2.f k l0_0 a0_1 a0_2 [0, 0, 1, 1, 2, 3, 5, 6, (-1)]).bind fun r1 => (some (r1.1, r1.2.1, r1.2.2.1, r1.2.2.2.1)))
def spec_l1Cur_color.f (k : Nat) (l0_0 : List Int) (a0_1 : Int) (a0_2 : Int) : Option (Int × List Int × Int × Int) := spec_l1Cur_color.m k l0_0 a0_1 a0_2
noncomputable def spec_l1Cur_color.spec (k : Nat) : FnSpec := ⟨[.bx [.d (.sl (.int .u8)) none, .d (.int .i64) none, .d (.int .u64) none]], [.d (.int .i64) none], fun x => spec_l1Cur_color.f k x.1 x.2.1 x.2.2⟩
noncomputable def spec_l1Cur_color.T : FnText := ⟨(conv [] (bodyOf Go.Proofs.Tryd.f38) 0).1, Go.Proofs.Tryd.f38.results.toList, 6, [], [.bx [.d (.sl (.int .u8)) none, .d (.int .i64) none, .d (.int .u64) none]], [.d (.int .i64) none]⟩
noncomputable def spec_l1Cur_color.tbl (k : Nat) : Tbl := [(52, spec_l1Cur_among_2.spec k)]
theorem spec_l1Cur_color.e (k : Nat) (o : Nat → St → Option (Int × List Int × Int × Int)) (l0_0 : List Int) (a0_1 : Int) (a0_2 : Int) : spec_l1Cur_color.T.main tyt (spec_l1Cur_color.tbl k) o (l0_0, a0_1, a0_2) = spec_l1Cur_color.m k l0_0 a0_1 a0_2 := by kernel_rfl
theorem spec_l1Cur_color.ok : spec_l1Cur_color.T.ok = true := by kernel_rfl
theorem spec_l1Cur_color.tblok (k : Nat) : TblOk Go.Proofs.Tryd.prog (spec_l1Cur_color.tbl k) := TblOk.cons (spec_l1Cur_among_2.sound k) (TblOk.nil _)
theorem spec_l1Cur_color.sound (k : Nat) : Sound Go.Proofs.Tryd.prog 38 (spec_l1Cur_color.spec k) := by
  have h := fn_ok (F := spec_l1Cur_color.T) (tbl := spec_l1Cur_color.tbl) mixed tyok Go.Proofs.Tryd.func38 (by kernel_rfl) (c0 := bodyOf Go.Proofs.Tryd.f38) rfl (conv_code _ _ _) rfl rfl spec_l1Cur_color.ok k (fun j _ => spec_l1Cur_color.tblok j)
  have e : spec_l1Cur_color.spec k = ⟨spec_l1Cur_color.T.ps, spec_l1Cur_color.T.rs, spec_l1Cur_color.T.ev tyt spec_l1Cur_color.tbl k⟩ := congrArg (FnSpec.mk _ _) (funext fun x => ((spec_l1Cur_color.e k (spec_l1Cur_color.T.run tyt spec_l1Cur_color.tbl k) x.1 x.2.1 x.2.2).trans (by rfl)).symm)
  rw [e]
  exact h
/-! ### spec_DrawChangeColor: function 18 -/
def spec_DrawChangeColor.m (k : Nat) (l0 : List Int) : Option (Int × Int × List Int × Int × Int) := ((spec_l1Cur_chart.f k l0 0 0).bind fun r1 => ((spec_l1Cur_color.f k r1.2.2.2.1 r1.2.2.2.2.1 r1.2.2.2.2.2).bind fun r2 => ((spec_l1Cur_color.f k r2.2.1 r2.2.2.1 r2.2.2.2).bind fun r3 => (some (r1.1, r1.2.1, r1.2.2.1, r2.1, r3.1)))))
def spec_DrawChangeColor.f (k : Nat) (l0 : List Int) : Option (Int × Int × List Int × Int × Int) := spec_DrawChangeColor.m k l0
noncomputable def spec_DrawChangeColor.spec (k : Nat) : FnSpec := ⟨[.d (.sl (.int .u8)) none], [.ag [.d (.int .i64) none, .d (.int .i64) none, .d (.sl (.int .i64)) (some 3)], .d (.int .i64) none, .d (.int .i64) none], fun x => spec_DrawChangeColor.f k x⟩
noncomputable def spec_DrawChangeColor.T : FnText := ⟨(conv [] (bodyOf Go.Proofs.Tryd.f18) 0).1, Go.Proofs.Tryd.f18.results.toList, 15, [], [.d (.sl (.int .u8)) none], [.ag [.d (.int .i64) none, .d (.int .i64) none, .d (.sl (.int .i64)) (some 3)], .d (.int .i64) none, .d (.int .i64) none]⟩
noncomputable def spec_DrawChangeColor.tbl (k : Nat) : Tbl := [(33, spec_l1Cur_chart.spec k), (38, spec_l1Cur_color.spec k)]
theorem spec_DrawChangeColor.e (k : Nat) (o : Nat → St → Option (Int × Int × List Int × Int × Int)) (l0 : List Int) : spec_DrawChangeColor.T.main tyt (spec_DrawChangeColor.tbl k) o l0 = spec_DrawChangeColor.m k l0 := by kernel_rfl
theorem spec_DrawChangeColor.ok : spec_DrawChangeColor.T.ok = true := by kernel_rfl
theorem spec_DrawChangeColor.tblok (k : Nat) : TblOk Go.Proofs.Tryd.prog (spec_DrawChangeColor.tbl k) := TblOk.cons (spec_l1Cur_chart.sound k) (TblOk.cons (spec_l1Cur_color.sound k) (TblOk.nil _))
theorem spec_DrawChangeColor.sound (k : Nat) : Sound Go.Proofs.Tryd.prog 18 (spec_DrawChangeColor.spec k) := by
  have h := fn_ok (F := spec_DrawChangeColor.T) (tbl := spec_DrawChangeColor.tbl) mixed tyok Go.Proofs.Tryd.func18 (by kernel_rfl) (c0 := bodyOf Go.Proofs.Tryd.f18) rfl (conv_code _ _ _) rfl rfl spec_DrawChangeColor.ok k (fun j _ => spec_DrawChangeColor.tblok j)
  have e : spec_DrawChangeColor.spec k = ⟨spec_DrawChangeColor.T.ps, spec_DrawChangeColor.T.rs, spec_DrawChangeColor.T.ev tyt spec_DrawChangeColor.tbl k⟩ := congrArg (FnSpec.mk _ _) (funext fun x => ((spec_DrawChangeColor.e k (spec_DrawChangeColor.T.run tyt spec_DrawChangeColor.tbl k) x).trans (by rfl)).symm)
  rw [e]
  exact h
/-! ### slices_Clone_int_int: function 54, by hand -/
def slices_Clone_int_int.f (k : Nat) (l0 : List Int) : Option (List Int) := app 17592186044416 ([] : List Int) l0
noncomputable def slices_Clone_int_int.spec (k : Nat) : FnSpec := ⟨[.d (.sl (.int .i64)) none], [.d (.sl (.int .i64)) (some 3)], fun x => slices_Clone_int_int.f k x⟩
theorem slices_Clone_int_int.sound (k : Nat) : Sound Go.Proofs.Tryd.prog 54 (slices_Clone_int_int.spec k) := clone_ok (t := 24) (e := 3) (ti := tyt24) (ei := tyt3) (nt := Go.Proofs.Tryd.f54.ntmps) tyok Go.Proofs.Tryd.func54 (by kernel_rfl) rfl rfl rfl rfl (by decide) rfl rfl ⟨rfl, rfl, rfl⟩ ⟨rfl, rfl, rfl⟩ ⟨rfl, rfl, rfl⟩ ⟨rfl, rfl, rfl⟩ ⟨rfl, rfl, rfl⟩ ⟨rfl, rfl, rfl⟩ ⟨rfl, rfl, rfl⟩ ⟨rfl, rfl, rfl⟩
/-! ### impl_Chart_copied: function 39 -/
def impl_Chart_copied.m (k : Nat) (a0_0 : Int) (a0_1 : Int) (l0_2 : List Int) : Option (Int × Int × List Int) := ((slices_Clone_int_int.f k l0_2).bind fun r1 => (some (a0_0, a0_1, r1)))
def impl_Chart_copied.f (k : Nat) (a0_0 : Int) (a0_1 : Int) (l0_2 : List Int) : Option (Int × Int × List Int) := impl_Chart_copied.m k a0_0 a0_1 l0_2
noncomputable def impl_Chart_copied.spec (k : Nat) : FnSpec := ⟨[.ag [.d (.int .i64) none, .d (.int .i64) none, .d (.sl (.int .i64)) none]], [.ag [.d (.int .i64) none, .d (.int .i64) none, .d (.sl (.int .i64)) (some 3)]], fun x => impl_Chart_copied.f k x.1 x.2.1 x.2.2⟩
noncomputable def impl_Chart_copied.T : FnText := ⟨(conv [] (bodyOf Go.Proofs.Tryd.f39) 0).1, Go.Proofs.Tryd.f39.results.toList, 8, [], [.ag [.d (.int .i64) none, .d (.int .i64) none, .d (.sl (.int .i64)) none]], [.ag [.d (.int .i64) none, .d (.int .i64) none, .d (.sl (.int .i64)) (some 3)]]⟩
noncomputable def impl_Chart_copied.tbl (k : Nat) : Tbl := [(54, slices_Clone_int_int.spec k)]
theorem impl_Chart_copied.e (k : Nat) (o : Nat → St → Option (Int × Int × List Int)) (a0_0 : Int) (a0_1 : Int) (l0_2 : List Int) : impl_Chart_copied.T.main tyt (impl_Chart_copied.tbl k) o (a0_0, a0_1, l0_2) = impl_Chart_copied.m k a0_0 a0_1 l0_2 := by kernel_rfl
theorem impl_Chart_copied.ok : impl_Chart_copied.T.ok = true := by kernel_rfl
theorem impl_Chart_copied.tblok (k : Nat) : TblOk Go.Proofs.Tryd.prog (impl_Chart_copied.tbl k) := TblOk.cons (slices_Clone_int_int.sound k) (TblOk.nil _)
theorem impl_Chart_copied.sound (k : Nat) : Sound Go.Proofs.Tryd.prog 39 (impl_Chart_copied.spec k) := by
  have h := fn_ok (F := impl_Chart_copied.T) (tbl := impl_Chart_copied.tbl) mixed tyok Go.Proofs.Tryd.func39 (by kernel_rfl) (c0 := bodyOf Go.Proofs.Tryd.f39) rfl (conv_code _ _ _) rfl rfl impl_Chart_copied.ok k (fun j _ => impl_Chart_copied.tblok j)
  have e : impl_Chart_copied.spec k = ⟨impl_Chart_copied.T.ps, impl_Chart_copied.T.rs, impl_Chart_copied.T.ev tyt impl_Chart_copied.tbl k⟩ := congrArg (FnSpec.mk _ _) (funext fun x => ((impl_Chart_copied.e k (impl_Chart_copied.T.run tyt impl_Chart_copied.tbl k) x.1 x.2.1 x.2.2).trans (by rfl)).symm)
  rw [e]
  exact h
/-! ### impl_ChangeColor: function 19 -/
def impl_ChangeColor.b7 (o7 : Int → Int → Int → Int → List Int → Int → Int → List Int → Int → Int → Option (Int × Int × List Int × Bool)) (k : Nat) (x0_7 : Int) (x1_7 : Int) (x2_7 : Int) (x3_7 : Int) (l4_7 : List Int) (x5_7 : Int) (x6_7 : Int) (l7_7 : List Int) (x8_7 : Int) (x9_7 : Int) : Option (Int × Int × List Int × Bool) := (if x9_7 < x8_7 then ((chk l7_7.length x9_7).bind fun i5 => (if (l7_7.getD i5 0) = x0_7 then ((chk l7_7.length x9_7).bind fun i6 => (o7 x0_7 x1_7 x2_7 x3_7 l4_7 x5_7 x6_7 (l7_7.set i6 x1_7) x8_7 (w64 (x9_7 + 1)))) else (o7 x0_7 x1_7 x2_7 x3_7 l4_7 x5_7 x6_7 l7_7 x8_7 (w64 (x9_7 + 1))))) else (some (x5_7, x6_7, l7_7, true)))
def impl_ChangeColor.l7 : Nat → Int → Int → Int → Int → List Int → Int → Int → List Int → Int → Int → Option (Int × Int × List Int × Bool)
  | 0, _, _, _, _, _, _, _, _, _, _ => none
  | k + 1, x0_7, x1_7, x2_7, x3_7, l4_7, x5_7, x6_7, l7_7, x8_7, x9_7 => impl_ChangeColor.b7 (impl_ChangeColor.l7 k) k x0_7 x1_7 x2_7 x3_7 l4_7 x5_7 x6_7 l7_7 x8_7 x9_7
def impl_ChangeColor.m (o7 : Int → Int → Int → Int → List Int → Int → Int → List Int → Int → Int → Option (Int × Int × List Int × Bool)) (k : Nat) (a0_0 : Int) (a0_1 : Int) (l0_2 : List Int) (a1 : Int) (a2 : Int) : Option (Int × Int × List Int × Bool) := ((impl_IsChart.f k a0_0 a0_1 l0_2).bind fun r1 => (cond (!r1) (some (0, 0, [], false)) ((impl_isColor.f k a1).bind fun r2 => (cond (!r2) (some (0, 0, [], false)) ((impl_isColor.f k a2).bind fun r3 => (cond (!r3) (some (0, 0, [], false)) ((impl_Chart_copied.f k a0_0 a0_1 l0_2).bind fun r4 => (o7 a1 a2 0 0 [] r4.1 r4.2.1 r4.2.2 (r4.2.2.length : Int) 0))))))))
def impl_ChangeColor.f (k : Nat) (a0_0 : Int) (a0_1 : Int) (l0_2 : List Int) (a1 : Int) (a2 : Int) : Option (Int × Int × List Int × Bool) := impl_ChangeColor.m (impl_ChangeColor.l7 k) k a0_0 a0_1 l0_2 a1 a2
noncomputable def impl_ChangeColor.spec (k : Nat) : FnSpec := ⟨[.ag [.d (.int .i64) none, .d (.int .i64) none, .d (.sl (.int .i64)) none], .d (.int .i64) none, .d (.int .i64) none], [.ag [.d (.int .i64) none, .d (.int .i64) none, .d (.sl (.int .i64)) (some 3)], .d .bool none], fun x => impl_ChangeColor.f k x.1 x.2.1 x.2.2.1 x.2.2.2.1 x.2.2.2.2⟩
def impl_ChangeColor.S7 (x0_7 : Int) (x1_7 : Int) (x2_7 : Int) (x3_7 : Int) (l4_7 : List Int) (x5_7 : Int) (x6_7 : Int) (l7_7 : List Int) (x8_7 : Int) (x9_7 : Int) : St := ⟨[(1, .val (.int .i64) x0_7), (2, .val (.int .i64) x1_7), (6, .ptr 100 0), (8, .ptr 101 0), (28, .ref 102), (29, .val (.int .i64) x8_7), (30, .val (.int .i64) x9_7)], [(101, some (.box [.val (.int .i64) x5_7, .val (.int .i64) x6_7, .ref 102])), (102, some (.row 3 (.int .i64) l7_7)), (100, some (.box [.val (.int .i64) x2_7, .val (.int .i64) x3_7, .val (.sl (.int .i64)) l4_7]))], 1000⟩
noncomputable def impl_ChangeColor.T : FnText := ⟨(conv [] (bodyOf Go.Proofs.Tryd.f19) 0).1, Go.Proofs.Tryd.f19.results.toList, 45, [(7, [(1, .rd (.int .i64)), (2, .rd (.int .i64)), (6, .bx 100 [.rd (.int .i64), .rd (.int .i64), .rd (.sl (.int .i64))]), (8, .bx 101 [.rd (.int .i64), .rd (.int .i64), .own 3 (.int .i64) 102]), (28, .own 3 (.int .i64) 102), (29, .rd (.int .i64)), (30, .rd (.int .i64))])], [.ag [.d (.int .i64) none, .d (.int .i64) none, .d (.sl (.int .i64)) none], .d (.int .i64) none, .d (.int .i64) none], [.ag [.d (.int .i64) none, .d (.int .i64) none, .d (.sl (.int .i64)) (some 3)], .d .bool none]⟩
noncomputable def impl_ChangeColor.tbl (k : Nat) : Tbl := [(9, impl_IsChart.spec k), (32, impl_isColor.spec k), (39, impl_Chart_copied.spec k)]
theorem impl_ChangeColor.e7 (k : Nat) (o : Nat → St → Option (Int × Int × List Int × Bool)) (x0_7 : Int) (x1_7 : Int) (x2_7 : Int) (x3_7 : Int) (l4_7 : List Int) (x5_7 : Int) (x6_7 : Int) (l7_7 : List Int) (x8_7 : Int) (x9_7 : Int) : impl_ChangeColor.T.step tyt (impl_ChangeColor.tbl k) o 7 (impl_ChangeColor.S7 x0_7 x1_7 x2_7 x3_7 l4_7 x5_7 x6_7 l7_7 x8_7 x9_7) = impl_ChangeColor.b7 (fun x0_7 x1_7 x2_7 x3_7 l4_7 x5_7 x6_7 l7_7 x8_7 x9_7 => o 7 (impl_ChangeColor.S7 x0_7 x1_7 x2_7 x3_7 l4_7 x5_7 x6_7 l7_7 x8_7 x9_7)) k x0_7 x1_7 x2_7 x3_7 l4_7 x5_7 x6_7 l7_7 x8_7 x9_7 := by kernel_rfl
theorem impl_ChangeColor.e (k : Nat) (o : Nat → St → Option (Int × Int × List Int × Bool)) (a0_0 : Int) (a0_1 : Int) (l0_2 : List Int) (a1 : Int) (a2 : Int) : impl_ChangeColor.T.main tyt (impl_ChangeColor.tbl k) o (a0_0, a0_1, l0_2, a1, a2) = impl_ChangeColor.m (fun x0_7 x1_7 x2_7 x3_7 l4_7 x5_7 x6_7 l7_7 x8_7 x9_7 => o 7 (impl_ChangeColor.S7 x0_7 x1_7 x2_7 x3_7 l4_7 x5_7 x6_7 l7_7 x8_7 x9_7)) k a0_0 a0_1 l0_2 a1 a2 := by kernel_rfl
theorem impl_ChangeColor.ok : impl_ChangeColor.T.ok = true := by kernel_rfl
theorem impl_ChangeColor.run (k : Nat) : (∀ (x0_7 : Int) (x1_7 : Int) (x2_7 : Int) (x3_7 : Int) (l4_7 : List Int) (x5_7 : Int) (x6_7 : Int) (l7_7 : List Int) (x8_7 : Int) (x9_7 : Int), impl_ChangeColor.T.run tyt impl_ChangeColor.tbl k 7 (impl_ChangeColor.S7 x0_7 x1_7 x2_7 x3_7 l4_7 x5_7 x6_7 l7_7 x8_7 x9_7) = impl_ChangeColor.l7 k x0_7 x1_7 x2_7 x3_7 l4_7 x5_7 x6_7 l7_7 x8_7 x9_7) := by
  induction k with
  | zero => exact fun x0_7 x1_7 x2_7 x3_7 l4_7 x5_7 x6_7 l7_7 x8_7 x9_7 => rfl
  | succ k ih =>
    exact fun x0_7 x1_7 x2_7 x3_7 l4_7 x5_7 x6_7 l7_7 x8_7 x9_7 => by
      have q7 : (fun x0_7 x1_7 x2_7 x3_7 l4_7 x5_7 x6_7 l7_7 x8_7 x9_7 => impl_ChangeColor.T.run tyt impl_ChangeColor.tbl k 7 (impl_ChangeColor.S7 x0_7 x1_7 x2_7 x3_7 l4_7 x5_7 x6_7 l7_7 x8_7 x9_7)) = impl_ChangeColor.l7 k := by funext x0_7 x1_7 x2_7 x3_7 l4_7 x5_7 x6_7 l7_7 x8_7 x9_7; exact ih x0_7 x1_7 x2_7 x3_7 l4_7 x5_7 x6_7 l7_7 x8_7 x9_7
      exact (impl_ChangeColor.e7 k (impl_ChangeColor.T.run tyt impl_ChangeColor.tbl k) x0_7 x1_7 x2_7 x3_7 l4_7 x5_7 x6_7 l7_7 x8_7 x9_7).trans (by rw [q7]; rfl)
theorem impl_ChangeColor.tblok (k : Nat) : TblOk Go.Proofs.Tryd.prog (impl_ChangeColor.tbl k) := TblOk.cons (impl_IsChart.sound k) (TblOk.cons (impl_isColor.sound k) (TblOk.cons (impl_Chart_copied.sound k) (TblOk.nil _)))
theorem impl_ChangeColor.sound (k : Nat) : Sound Go.Proofs.Tryd.prog 19 (impl_ChangeColor.spec k) := by
  have h := fn_ok (F := impl_ChangeColor.T) (tbl := impl_ChangeColor.tbl) mixed tyok Go.Proofs.Tryd.func19 (by kernel_rfl) (c0 := bodyOf Go.Proofs.Tryd.f19) rfl (conv_code _ _ _) rfl rfl impl_ChangeColor.ok k (fun j _ => impl_ChangeColor.tblok j)
  have q7 : (fun x0_7 x1_7 x2_7 x3_7 l4_7 x5_7 x6_7 l7_7 x8_7 x9_7 => impl_ChangeColor.T.run tyt impl_ChangeColor.tbl k 7 (impl_ChangeColor.S7 x0_7 x1_7 x2_7 x3_7 l4_7 x5_7 x6_7 l7_7 x8_7 x9_7)) = impl_ChangeColor.l7 k := by funext x0_7 x1_7 x2_7 x3_7 l4_7 x5_7 x6_7 l7_7 x8_7 x9_7; exact (impl_ChangeColor.run k) x0_7 x1_7 x2_7 x3_7 l4_7 x5_7 x6_7 l7_7 x8_7 x9_7
  have e : impl_ChangeColor.spec k = ⟨impl_ChangeColor.T.ps, impl_ChangeColor.T.rs, impl_ChangeColor.T.ev tyt impl_ChangeColor.tbl k⟩ := congrArg (FnSpec.mk _ _) (funext fun x => ((impl_ChangeColor.e k (impl_ChangeColor.T.run tyt impl_ChangeColor.tbl k) x.1 x.2.1 x.2.2.1 x.2.2.2.1 x.2.2.2.2).trans (by rw [q7]; rfl)).symm)
  rw [e]
  exact h
/-! ### spec_l1Own: function 56 -/
def spec_l1Own.m (k : Nat) (l0 : List Int) : Option (List Int) := ((app 17592186044416 ([] : List (Int)) l0).bind fun l1 => (some l1))
def spec_l1Own.f (k : Nat) (l0 : List Int) : Option (List Int) := spec_l1Own.m k l0
noncomputable def spec_l1Own.spec (k : Nat) : FnSpec := ⟨[.d (.sl (.int .i64)) none], [.d (.sl (.int .i64)) (some 3)], fun x => spec_l1Own.f k x⟩
noncomputable def spec_l1Own.T : FnText := ⟨(conv [] (bodyOf Go.Proofs.Tryd.f56) 0).1, Go.Proofs.Tryd.f56.results.toList, 6, [], [.d (.sl (.int .i64)) none], [.d (.sl (.int .i64)) (some 3)]⟩
noncomputable def spec_l1Own.tbl (k : Nat) : Tbl := []
theorem spec_l1Own.e (k : Nat) (o : Nat → St → Option (List Int)) (l0 : List Int) : spec_l1Own.T.main tyt (spec_l1Own.tbl k) o l0 = spec_l1Own.m k l0 := by kernel_rfl
theorem spec_l1Own.ok : spec_l1Own.T.ok = true := by kernel_rfl
theorem spec_l1Own.tblok (k : Nat) : TblOk Go.Proofs.Tryd.prog (spec_l1Own.tbl k) := TblOk.nil _
theorem spec_l1Own.sound (k : Nat) : Sound Go.Proofs.Tryd.prog 56 (spec_l1Own.spec k) := by
  have h := fn_ok (F := spec_l1Own.T) (tbl := spec_l1Own.tbl) mixed tyok Go.Proofs.Tryd.func56 (by kernel_rfl) (c0 := bodyOf Go.Proofs.Tryd.f56) rfl (conv_code _ _ _) rfl rfl spec_l1Own.ok k (fun j _ => spec_l1Own.tblok j)
  have e : spec_l1Own.spec k = ⟨spec_l1Own.T.ps, spec_l1Own.T.rs, spec_l1Own.T.ev tyt spec_l1Own.tbl k⟩ := congrArg (FnSpec.mk _ _) (funext fun x => ((spec_l1Own.e k (spec_l1Own.T.run tyt spec_l1Own.tbl k) x).trans (by rfl)).symm)
  rw [e]
  exact h
/-! ### spec_l2Own: function 41 -/
def spec_l2Own.m (k : Nat) (a0_0 : Int) (a0_1 : Int) (l0_2 : List Int) : Option (Int × Int × List Int) := ((spec_l1Own.f k l0_2).bind fun r1 => (some (a0_0, a0_1, r1)))
def spec_l2Own.f (k : Nat) (a0_0 : Int) (a0_1 : Int) (l0_2 : List Int) : Option (Int × Int × List Int) := spec_l2Own.m k a0_0 a0_1 l0_2
noncomputable def spec_l2Own.spec (k : Nat) : FnSpec := ⟨[.ag [.d (.int .i64) none, .d (.int .i64) none, .d (.sl (.int .i64)) none]], [.ag [.d (.int .i64) none, .d (.int .i64) none, .d (.sl (.int .i64)) (some 3)]], fun x => spec_l2Own.f k x.1 x.2.1 x.2.2⟩
noncomputable def spec_l2Own.T : FnText := ⟨(conv [] (bodyOf Go.Proofs.Tryd.f41) 0).1, Go.Proofs.Tryd.f41.results.toList, 11, [], [.ag [.d (.int .i64) none, .d (.int .i64) none, .d (.sl (.int .i64)) none]], [.ag [.d (.int .i64) none, .d (.int .i64) none, .d (.sl (.int .i64)) (some 3)]]⟩
noncomputable def spec_l2Own.tbl (k : Nat) : Tbl := [(56, spec_l1Own.spec k)]
theorem spec_l2Own.e (k : Nat) (o : Nat → St → Option (Int × Int × List Int)) (a0_0 : Int) (a0_1 : Int) (l0_2 : List Int) : spec_l2Own.T.main tyt (spec_l2Own.tbl k) o (a0_0, a0_1, l0_2) = spec_l2Own.m k a0_0 a0_1 l0_2 := by kernel_rfl
theorem spec_l2Own.ok : spec_l2Own.T.ok = true := by kernel_rfl
theorem spec_l2Own.tblok (k : Nat) : TblOk Go.Proofs.Tryd.prog (spec_l2Own.tbl k) := TblOk.cons (spec_l1Own.sound k) (TblOk.nil _)
theorem spec_l2Own.sound (k : Nat) : Sound Go.Proofs.Tryd.prog 41 (spec_l2Own.spec k) := by
  have h := fn_ok (F := spec_l2Own.T) (tbl := spec_l2Own.tbl) mixed tyok Go.Proofs.Tryd.func41 (by kernel_rfl) (c0 := bodyOf Go.Proofs.Tryd.f41) rfl (conv_code _ _ _) rfl rfl spec_l2Own.ok k (fun j _ => spec_l2Own.tblok j)
  have e : spec_l2Own.spec k = ⟨spec_l2Own.T.ps, spec_l2Own.T.rs, spec_l2Own.T.ev tyt spec_l2Own.tbl k⟩ := congrArg (FnSpec.mk _ _) (funext fun x => ((spec_l2Own.e k (spec_l2Own.T.run tyt spec_l2Own.tbl k) x.1 x.2.1 x.2.2).trans (by rfl)).symm)
  rw [e]
  exact h
/-! ### spec_ChangeColor: function 20 -/
def spec_ChangeColor.b7 (o7 : Int → Int → Int → Int → List Int → Int → Int → List Int → Int → Option (Int × Int × List Int × Bool)) (k : Nat) (x0_7 : Int) (x1_7 : Int) (x2_7 : Int) (x3_7 : Int) (l4_7 : List Int) (x5_7 : Int) (x6_7 : Int) (l7_7 : List Int) (x8_7 : Int) : Option (Int × Int × List Int × Bool) := (if x8_7 < (l7_7.length : Int) then ((chk l7_7.length x8_7).bind fun i5 => (if (l7_7.getD i5 0) = x0_7 then ((chk l7_7.length x8_7).bind fun i6 => (o7 x0_7 x1_7 x2_7 x3_7 l4_7 x5_7 x6_7 (l7_7.set i6 x1_7) (w64 (x8_7 + 1)))) else (o7 x0_7 x1_7 x2_7 x3_7 l4_7 x5_7 x6_7 l7_7 (w64 (x8_7 + 1))))) else (some (x5_7, x6_7, l7_7, true)))
def spec_ChangeColor.l7 : Nat → Int → Int → Int → Int → List Int → Int → Int → List Int → Int → Option (Int × Int × List Int × Bool)
  | 0, _, _, _, _, _, _, _, _, _ => none
  | k + 1, x0_7, x1_7, x2_7, x3_7, l4_7, x5_7, x6_7, l7_7, x8_7 => spec_ChangeColor.b7 (spec_ChangeColor.l7 k) k x0_7 x1_7 x2_7 x3_7 l4_7 x5_7 x6_7 l7_7 x8_7
def spec_ChangeColor.m (o7 : Int → Int → Int → Int → List Int → Int → Int → List Int → Int → Option (Int × Int × List Int × Bool)) (k : Nat) (a0_0 : Int) (a0_1 : Int) (l0_2 : List Int) (a1 : Int) (a2 : Int) : Option (Int × Int × List Int × Bool) := ((spec_l2Good.f k a0_0 a0_1 l0_2).bind fun r1 => (cond (!r1) (some (0, 0, [], false)) ((spec_l2Color.f k a1).bind fun r2 => (cond (!r2) (some (0, 0, [], false)) ((spec_l2Color.f k a2).bind fun r3 => (cond (!r3) (some (0, 0, [], false)) ((spec_l2Own.f k a0_0 a0_1 l0_2).bind fun r4 => (o7 a1 a2 0 0 [] r4.1 r4.2.1 r4.2.2 0))))))))
def spec_ChangeColor.f (k : Nat) (a0_0 : Int) (a0_1 : Int) (l0_2 : List Int) (a1 : Int) (a2 : Int) : Option (Int × Int × List Int × Bool) := spec_ChangeColor.m (spec_ChangeColor.l7 k) k a0_0 a0_1 l0_2 a1 a2
noncomputable def spec_ChangeColor.spec (k : Nat) : FnSpec := ⟨[.ag [.d (.int .i64) none, .d (.int .i64) none, .d (.sl (.int .i64)) none], .d (.int .i64) none, .d (.int .i64) none], [.ag [.d (.int .i64) none, .d (.int .i64) none, .d (.sl (.int .i64)) (some 3)], .d .bool none], fun x => spec_ChangeColor.f k x.1 x.2.1 x.2.2.1 x.2.2.2.1 x.2.2.2.2⟩
def spec_ChangeColor.S7 (x0_7 : Int) (x1_7 : Int) (x2_7 : Int) (x3_7 : Int) (l4_7 : List Int) (x5_7 : Int) (x6_7 : Int) (l7_7 : List Int) (x8_7 : Int) : St := ⟨[(1, .val (.int .i64) x0_7), (2, .val (.int .i64) x1_7), (6, .ptr 100 0), (8, .ptr 101 0), (9, .val (.int .i64) x8_7)], [(101, some (.box [.val (.int .i64) x5_7, .val (.int .i64) x6_7, .ref 102])), (102, some (.row 3 (.int .i64) l7_7)), (100, some (.box [.val (.int .i64) x2_7, .val (.int .i64) x3_7, .val (.sl (.int .i64)) l4_7]))], 1000⟩
noncomputable def spec_ChangeColor.T : FnText := ⟨(conv [] (bodyOf Go.Proofs.Tryd.f20) 0).1, Go.Proofs.Tryd.f20.results.toList, 46, [(7, [(1, .rd (.int .i64)), (2, .rd (.int .i64)), (6, .bx 100 [.rd (.int .i64), .rd (.int .i64), .rd (.sl (.int .i64))]), (8, .bx 101 [.rd (.int .i64), .rd (.int .i64), .own 3 (.int .i64) 102]), (9, .rd (.int .i64))])], [.ag [.d (.int .i64) none, .d (.int .i64) none, .d (.sl (.int .i64)) none], .d (.int .i64) none, .d (.int .i64) none], [.ag [.d (.int .i64) none, .d (.int .i64) none, .d (.sl (.int .i64)) (some 3)], .d .bool none]⟩
noncomputable def spec_ChangeColor.tbl (k : Nat) : Tbl := [(28, spec_l2Good.spec k), (40, spec_l2Color.spec k), (41, spec_l2Own.spec k)]
theorem spec_ChangeColor.e7 (k : Nat) (o : Nat → St → Option (Int × Int × List Int × Bool)) (x0_7 : Int) (x1_7 : Int) (x2_7 : Int) (x3_7 : Int) (l4_7 : List Int) (x5_7 : Int) (x6_7 : Int) (l7_7 : List Int) (x8_7 : Int) : spec_ChangeColor.T.step tyt (spec_ChangeColor.tbl k) o 7 (spec_ChangeColor.S7 x0_7 x1_7 x2_7 x3_7 l4_7 x5_7 x6_7 l7_7 x8_7) = spec_ChangeColor.b7 (fun x0_7 x1_7 x2_7 x3_7 l4_7 x5_7 x6_7 l7_7 x8_7 => o 7 (spec_ChangeColor.S7 x0_7 x1_7 x2_7 x3_7 l4_7 x5_7 x6_7 l7_7 x8_7)) k x0_7 x1_7 x2_7 x3_7 l4_7 x5_7 x6_7 l7_7 x8_7 := by kernel_rfl
theorem spec_ChangeColor.e (k : Nat) (o : Nat → St → Option (Int × Int × List Int × Bool)) (a0_0 : Int) (a0_1 : Int) (l0_2 : List Int) (a1 : Int) (a2 : Int) : spec_ChangeColor.T.main tyt (spec_ChangeColor.tbl k) o (a0_0, a0_1, l0_2, a1, a2) = spec_ChangeColor.m (fun x0_7 x1_7 x2_7 x3_7 l4_7 x5_7 x6_7 l7_7 x8_7 => o 7 (spec_ChangeColor.S7 x0_7 x1_7 x2_7 x3_7 l4_7 x5_7 x6_7 l7_7 x8_7)) k a0_0 a0_1 l0_2 a1 a2 := by kernel_rfl
theorem spec_ChangeColor.ok : spec_ChangeColor.T.ok = true := by kernel_rfl
theorem spec_ChangeColor.run (k : Nat) : (∀ (x0_7 : Int) (x1_7 : Int) (x2_7 : Int) (x3_7 : Int) (l4_7 : List Int) (x5_7 : Int) (x6_7 : Int) (l7_7 : List Int) (x8_7 : Int), spec_ChangeColor.T.run tyt spec_ChangeColor.tbl k 7 (spec_ChangeColor.S7 x0_7 x1_7 x2_7 x3_7 l4_7 x5_7 x6_7 l7_7 x8_7) = spec_ChangeColor.l7 k x0_7 x1_7 x2_7 x3_7 l4_7 x5_7 x6_7 l7_7 x8_7) := by
  induction k with
  | zero => exact fun x0_7 x1_7 x2_7 x3_7 l4_7 x5_7 x6_7 l7_7 x8_7 => rfl
  | succ k ih =>
    exact fun x0_7 x1_7 x2_7 x3_7 l4_7 x5_7 x6_7 l7_7 x8_7 => by
      have q7 : (fun x0_7 x1_7 x2_7 x3_7 l4_7 x5_7 x6_7 l7_7 x8_7 => spec_ChangeColor.T.run tyt spec_ChangeColor.tbl k 7 (spec_ChangeColor.S7 x0_7 x1_7 x2_7 x3_7 l4_7 x5_7 x6_7 l7_7 x8_7)) = spec_ChangeColor.l7 k := by funext x0_7 x1_7 x2_7 x3_7 l4_7 x5_7 x6_7 l7_7 x8_7; exact ih x0_7 x1_7 x2_7 x3_7 l4_7 x5_7 x6_7 l7_7 x8_7
      exact (spec_ChangeColor.e7 k (spec_ChangeColor.T.run tyt spec_ChangeColor.tbl k) x0_7 x1_7 x2_7 x3_7 l4_7 x5_7 x6_7 l7_7 x8_7).trans (by rw [q7]; rfl)
theorem spec_ChangeColor.tblok (k : Nat) : TblOk Go.Proofs.Tryd.prog (spec_ChangeColor.tbl k) := TblOk.cons (spec_l2Good.sound k) (TblOk.cons (spec_l2Color.sound k) (TblOk.cons (spec_l2Own.sound k) (TblOk.nil _)))
theorem spec_ChangeColor.sound (k : Nat) : Sound Go.Proofs.Tryd.prog 20 (spec_ChangeColor.spec k) := by
  have h := fn_ok (F := spec_ChangeColor.T) (tbl := spec_ChangeColor.tbl) mixed tyok Go.Proofs.Tryd.func20 (by kernel_rfl) (c0 := bodyOf Go.Proofs.Tryd.f20) rfl (conv_code _ _ _) rfl rfl spec_ChangeColor.ok k (fun j _ => spec_ChangeColor.tblok j)
  have q7 : (fun x0_7 x1_7 x2_7 x3_7 l4_7 x5_7 x6_7 l7_7 x8_7 => spec_ChangeColor.T.run tyt spec_ChangeColor.tbl k 7 (spec_ChangeColor.S7 x0_7 x1_7 x2_7 x3_7 l4_7 x5_7 x6_7 l7_7 x8_7)) = spec_ChangeColor.l7 k := by funext x0_7 x1_7 x2_7 x3_7 l4_7 x5_7 x6_7 l7_7 x8_7; exact (spec_ChangeColor.run k) x0_7 x1_7 x2_7 x3_7 l4_7 x5_7 x6_7 l7_7 x8_7
  have e : spec_ChangeColor.spec k = ⟨spec_ChangeColor.T.ps, spec_ChangeColor.T.rs, spec_ChangeColor.T.ev tyt spec_ChangeColor.tbl k⟩ := congrArg (FnSpec.mk _ _) (funext fun x => ((spec_ChangeColor.e k (spec_ChangeColor.T.run tyt spec_ChangeColor.tbl k) x.1 x.2.1 x.2.2.1 x.2.2.2.1 x.2.2.2.2).trans (by rw [q7]; rfl)).symm)
  rw [e]
  exact h
/-! ### spec_DrawLongestRun: function 21 -/
def spec_DrawLongestRun.m (k : Nat) (l0 : List Int) : Option (Int × Int × List Int) := ((spec_DrawIsChart.f k l0).bind fun r1 => (some (r1.1, r1.2.1, r1.2.2)))
def spec_DrawLongestRun.f (k : Nat) (l0 : List Int) : Option (Int × Int × List Int) := spec_DrawLongestRun.m k l0
noncomputable def spec_DrawLongestRun.spec (k : Nat) : FnSpec := ⟨[.d (.sl (.int .u8)) none], [.ag [.d (.int .i64) none, .d (.int .i64) none, .d (.sl (.int .i64)) (some 3)]], fun x => spec_DrawLongestRun.f k x⟩
noncomputable def spec_DrawLongestRun.T : FnText := ⟨(conv [] (bodyOf Go.Proofs.Tryd.f21) 0).1, Go.Proofs.Tryd.f21.results.toList, 5, [], [.d (.sl (.int .u8)) none], [.ag [.d (.int .i64) none, .d (.int .i64) none, .d (.sl (.int .i64)) (some 3)]]⟩
noncomputable def spec_DrawLongestRun.tbl (k : Nat) : Tbl := [(24, spec_DrawIsChart.spec k)]
theorem spec_DrawLongestRun.e (k : Nat) (o : Nat → St → Option (Int × Int × List Int)) (l0 : List Int) : spec_DrawLongestRun.T.main tyt (spec_DrawLongestRun.tbl k) o l0 = spec_DrawLongestRun.m k l0 := by kernel_rfl
theorem spec_DrawLongestRun.ok : spec_DrawLongestRun.T.ok = true := by kernel_rfl
theorem spec_DrawLongestRun.tblok (k : Nat) : TblOk Go.Proofs.Tryd.prog (spec_DrawLongestRun.tbl k) := TblOk.cons (spec_DrawIsChart.sound k) (TblOk.nil _)
theorem spec_DrawLongestRun.sound (k : Nat) : Sound Go.Proofs.Tryd.prog 21 (spec_DrawLongestRun.spec k) := by
  have h := fn_ok (F := spec_DrawLongestRun.T) (tbl := spec_DrawLongestRun.tbl) mixed tyok Go.Proofs.Tryd.func21 (by kernel_rfl) (c0 := bodyOf Go.Proofs.Tryd.f21) rfl (conv_code _ _ _) rfl rfl spec_DrawLongestRun.ok k (fun j _ => spec_DrawLongestRun.tblok j)
  have e : spec_DrawLongestRun.spec k = ⟨spec_DrawLongestRun.T.ps, spec_DrawLongestRun.T.rs, spec_DrawLongestRun.T.ev tyt spec_DrawLongestRun.tbl k⟩ := congrArg (FnSpec.mk _ _) (funext fun x => ((spec_DrawLongestRun.e k (spec_DrawLongestRun.T.run tyt spec_DrawLongestRun.tbl k) x).trans (by rfl)).symm)
  rw [e]
  exact h
/-! ### impl_LongestRun: function 22 -/
def impl_LongestRun.b7 (o14 : Int → Int → List Int → Int → Int → Int → Int → Int → Int → Int → Int → Option (Int × Int × Bool)) (k : Nat) (x0_7 : Int) (x1_7 : Int) (l2_7 : List Int) (x3_7 : Int) (x4_7 : Int) (x5_7 : Int) (x6_7 : Int) : Option (Int × Int × Bool) := (if x6_7 < x5_7 then (o14 x0_7 x1_7 l2_7 x3_7 x4_7 x6_7 0 x5_7 x6_7 x0_7 0) else (some (x3_7, x4_7, true)))
def impl_LongestRun.b14 (o7 : Int → Int → List Int → Int → Int → Int → Int → Option (Int × Int × Bool)) (o14 : Int → Int → List Int → Int → Int → Int → Int → Int → Int → Int → Int → Option (Int × Int × Bool)) (k : Nat) (x0_14 : Int) (x1_14 : Int) (l2_14 : List Int) (x3_14 : Int) (x4_14 : Int) (x5_14 : Int) (x6_14 : Int) (x7_14 : Int) (x8_14 : Int) (x9_14 : Int) (x10_14 : Int) : Option (Int × Int × Bool) := (if x10_14 < x9_14 then (if x10_14 = 0 then (if x3_14 < (w64 ((0 : Int) + 1)) then (o14 x0_14 x1_14 l2_14 (w64 ((0 : Int) + 1)) x5_14 x5_14 (w64 ((0 : Int) + 1)) x7_14 x8_14 x9_14 (w64 (x10_14 + 1))) else (o14 x0_14 x1_14 l2_14 x3_14 x4_14 x5_14 (w64 ((0 : Int) + 1)) x7_14 x8_14 x9_14 (w64 (x10_14 + 1)))) else ((impl_Chart_at.f k x0_14 x1_14 l2_14 x5_14 x10_14).bind fun r2 => ((impl_Chart_at.f k x0_14 x1_14 l2_14 x5_14 (w64 (x10_14 - 1))).bind fun r3 => (if ¬ r2 = r3 then (if x3_14 < (w64 ((0 : Int) + 1)) then (o14 x0_14 x1_14 l2_14 (w64 ((0 : Int) + 1)) x5_14 x5_14 (w64 ((0 : Int) + 1)) x7_14 x8_14 x9_14 (w64 (x10_14 + 1))) else (o14 x0_14 x1_14 l2_14 x3_14 x4_14 x5_14 (w64 ((0 : Int) + 1)) x7_14 x8_14 x9_14 (w64 (x10_14 + 1)))) else (if x3_14 < (w64 (x6_14 + 1)) then (o14 x0_14 x1_14 l2_14 (w64 (x6_14 + 1)) x5_14 x5_14 (w64 (x6_14 + 1)) x7_14 x8_14 x9_14 (w64 (x10_14 + 1))) else (o14 x0_14 x1_14 l2_14 x3_14 x4_14 x5_14 (w64 (x6_14 + 1)) x7_14 x8_14 x9_14 (w64 (x10_14 + 1)))))))) else (o7 x0_14 x1_14 l2_14 x3_14 x4_14 x7_14 (w64 (x8_14 + 1))))
mutual
def impl_LongestRun.l7 : Nat → Int → Int → List Int → Int → Int → Int → Int → Option (Int × Int × Bool)
  | 0, _, _, _, _, _, _, _ => none
  | k + 1, x0_7, x1_7, l2_7, x3_7, x4_7, x5_7, x6_7 => impl_LongestRun.b7 (impl_LongestRun.l14 k) k x0_7 x1_7 l2_7 x3_7 x4_7 x5_7 x6_7
def impl_LongestRun.l14 : Nat → Int → Int → List Int → Int → Int → Int → Int → Int → Int → Int → Int → Option (Int × Int × Bool)
  | 0, _, _, _, _, _, _, _, _, _, _, _ => none
  | k + 1, x0_14, x1_14, l2_14, x3_14, x4_14, x5_14, x6_14, x7_14, x8_14, x9_14, x10_14 => impl_LongestRun.b14 (impl_LongestRun.l7 k) (impl_LongestRun.l14 k) k x0_14 x1_14 l2_14 x3_14 x4_14 x5_14 x6_14 x7_14 x8_14 x9_14 x10_14
end
def impl_LongestRun.m (o7 : Int → Int → List Int → Int → Int → Int → Int → Option (Int × Int × Bool)) (k : Nat) (a0_0 : Int) (a0_1 : Int) (l0_2 : List Int) : Option (Int × Int × Bool) := ((impl_IsChart.f k a0_0 a0_1 l0_2).bind fun r1 => (cond (!r1) (some (0, 0, false)) (o7 a0_0 a0_1 l0_2 0 0 a0_1 0)))
def impl_LongestRun.f (k : Nat) (a0_0 : Int) (a0_1 : Int) (l0_2 : List Int) : Option (Int × Int × Bool) := impl_LongestRun.m (impl_LongestRun.l7 k) k a0_0 a0_1 l0_2
noncomputable def impl_LongestRun.spec (k : Nat) : FnSpec := ⟨[.ag [.d (.int .i64) none, .d (.int .i64) none, .d (.sl (.int .i64)) none]], [.d (.int .i64) none, .d (.int .i64) none, .d .bool none], fun x => impl_LongestRun.f k x.1 x.2.1 x.2.2⟩
def impl_LongestRun.S7 (x0_7 : Int) (x1_7 : Int) (l2_7 : List Int) (x3_7 : Int) (x4_7 : Int) (x5_7 : Int) (x6_7 : Int) : St := ⟨[(1, .ptr 100 0), (5, .val (.int .i64) x3_7), (6, .val (.int .i64) x4_7), (14, .val (.int .i64) x5_7), (15, .val (.int .i64) x6_7)], [(100, some (.box [.val (.int .i64) x0_7, .val (.int .i64) x1_7, .val (.sl (.int .i64)) l2_7]))], 1000⟩
def impl_LongestRun.S14 (x0_14 : Int) (x1_14 : Int) (l2_14 : List Int) (x3_14 : Int) (x4_14 : Int) (x5_14 : Int) (x6_14 : Int) (x7_14 : Int) (x8_14 : Int) (x9_14 : Int) (x10_14 : Int) : St := ⟨[(1, .ptr 100 0), (5, .val (.int .i64) x3_14), (6, .val (.int .i64) x4_14), (7, .val (.int .i64) x5_14), (8, .val (.int .i64) x6_14), (14, .val (.int .i64) x7_14), (15, .val (.int .i64) x8_14), (19, .val (.int .i64) x9_14), (20, .val (.int .i64) x10_14)], [(100, some (.box [.val (.int .i64) x0_14, .val (.int .i64) x1_14, .val (.sl (.int .i64)) l2_14]))], 1000⟩
noncomputable def impl_LongestRun.T : FnText := ⟨(conv [] (bodyOf Go.Proofs.Tryd.f22) 0).1, Go.Proofs.Tryd.f22.results.toList, 48, [(7, [(1, .bx 100 [.rd (.int .i64), .rd (.int .i64), .rd (.sl (.int .i64))]), (5, .rd (.int .i64)), (6, .rd (.int .i64)), (14, .rd (.int .i64)), (15, .rd (.int .i64))]), (14, [(1, .bx 100 [.rd (.int .i64), .rd (.int .i64), .rd (.sl (.int .i64))]), (5, .rd (.int .i64)), (6, .rd (.int .i64)), (7, .rd (.int .i64)), (8, .rd (.int .i64)), (14, .rd (.int .i64)), (15, .rd (.int .i64)), (19, .rd (.int .i64)), (20, .rd (.int .i64))])], [.ag [.d (.int .i64) none, .d (.int .i64) none, .d (.sl (.int .i64)) none]], [.d (.int .i64) none, .d (.int .i64) none, .d .bool none]⟩
noncomputable def impl_LongestRun.tbl (k : Nat) : Tbl := [(9, impl_IsChart.spec k), (25, impl_Chart_at.spec k)]
theorem impl_LongestRun.e7 (k : Nat) (o : Nat → St → Option (Int × Int × Bool)) (x0_7 : Int) (x1_7 : Int) (l2_7 : List Int) (x3_7 : Int) (x4_7 : Int) (x5_7 : Int) (x6_7 : Int) : impl_LongestRun.T.step tyt (impl_LongestRun.tbl k) o 7 (impl_LongestRun.S7 x0_7 x1_7 l2_7 x3_7 x4_7 x5_7 x6_7) = impl_LongestRun.b7 (fun x0_14 x1_14 l2_14 x3_14 x4_14 x5_14 x6_14 x7_14 x8_14 x9_14 x10_14 => o 14 (impl_LongestRun.S14 x0_14 x1_14 l2_14 x3_14 x4_14 x5_14 x6_14 x7_14 x8_14 x9_14 x10_14)) k x0_7 x1_7 l2_7 x3_7 x4_7 x5_7 x6_7 := by kernel_rfl
theorem impl_LongestRun.e14 (k : Nat) (o : Nat → St → Option (Int × Int × Bool)) (x0_14 : Int) (x1_14 : Int) (l2_14 : List Int) (x3_14 : Int) (x4_14 : Int) (x5_14 : Int) (x6_14 : Int) (x7_14 : Int) (x8_14 : Int) (x9_14 : Int) (x10_14 : Int) : impl_LongestRun.T.step tyt (impl_LongestRun.tbl k) o 14 (impl_LongestRun.S14 x0_14 x1_14 l2_14 x3_14 x4_14 x5_14 x6_14 x7_14 x8_14 x9_14 x10_14) = impl_LongestRun.b14 (fun x0_7 x1_7 l2_7 x3_7 x4_7 x5_7 x6_7 => o 7 (impl_LongestRun.S7 x0_7 x1_7 l2_7 x3_7 x4_7 x5_7 x6_7)) (fun x0_14 x1_14 l2_14 x3_14 x4_14 x5_14 x6_14 x7_14 x8_14 x9_14 x10_14 => o 14 (impl_LongestRun.S14 x0_14 x1_14 l2_14 x3_14 x4_14 x5_14 x6_14 x7_14 x8_14 x9_14 x10_14)) k x0_14 x1_14 l2_14 x3_14 x4_14 x5_14 x6_14 x7_14 x8_14 x9_14 x10_14 := by kernel_rfl
theorem impl_LongestRun.e (k : Nat) (o : Nat → St → Option (Int × Int × Bool)) (a0_0 : Int) (a0_1 : Int) (l0_2 : List Int) : impl_LongestRun.T.main tyt (impl_LongestRun.tbl k) o (a0_0, a0_1, l0_2) = impl_LongestRun.m (fun x0_7 x1_7 l2_7 x3_7 x4_7 x5_7 x6_7 => o 7 (impl_LongestRun.S7 x0_7 x1_7 l2_7 x3_7 x4_7 x5_7 x6_7)) k a0_0 a0_1 l0_2 := by kernel_rfl
theorem impl_LongestRun.ok : impl_LongestRun.T.ok = true := by kernel_rfl
theorem impl_LongestRun.run (k : Nat) : (∀ (x0_7 : Int) (x1_7 : Int) (l2_7 : List Int) (x3_7 : Int) (x4_7 : Int) (x5_7 : Int) (x6_7 : Int), impl_LongestRun.T.run tyt impl_LongestRun.tbl k 7 (impl_LongestRun.S7 x0_7 x1_7 l2_7 x3_7 x4_7 x5_7 x6_7) = impl_LongestRun.l7 k x0_7 x1_7 l2_7 x3_7 x4_7 x5_7 x6_7) ∧ (∀ (x0_14 : Int) (x1_14 : Int) (l2_14 : List Int) (x3_14 : Int) (x4_14 : Int) (x5_14 : Int) (x6_14 : Int) (x7_14 : Int) (x8_14 : Int) (x9_14 : Int) (x10_14 : Int), impl_LongestRun.T.run tyt impl_LongestRun.tbl k 14 (impl_LongestRun.S14 x0_14 x1_14 l2_14 x3_14 x4_14 x5_14 x6_14 x7_14 x8_14 x9_14 x10_14) = impl_LongestRun.l14 k x0_14 x1_14 l2_14 x3_14 x4_14 x5_14 x6_14 x7_14 x8_14 x9_14 x10_14) := by
  induction k with
  | zero => exact ⟨fun x0_7 x1_7 l2_7 x3_7 x4_7 x5_7 x6_7 => rfl, fun x0_14 x1_14 l2_14 x3_14 x4_14 x5_14 x6_14 x7_14 x8_14 x9_14 x10_14 => rfl⟩
  | succ k ih =>
    exact ⟨fun x0_7 x1_7 l2_7 x3_7 x4_7 x5_7 x6_7 => by
      have q14 : (fun x0_14 x1_14 l2_14 x3_14 x4_14 x5_14 x6_14 x7_14 x8_14 x9_14 x10_14 => impl_LongestRun.T.run tyt impl_LongestRun.tbl k 14 (impl_LongestRun.S14 x0_14 x1_14 l2_14 x3_14 x4_14 x5_14 x6_14 x7_14 x8_14 x9_14 x10_14)) = impl_LongestRun.l14 k := by funext x0_14 x1_14 l2_14 x3_14 x4_14 x5_14 x6_14 x7_14 x8_14 x9_14 x10_14; exact ih.2 x0_14 x1_14 l2_14 x3_14 x4_14 x5_14 x6_14 x7_14 x8_14 x9_14 x10_14
      exact (impl_LongestRun.e7 k (impl_LongestRun.T.run tyt impl_LongestRun.tbl k) x0_7 x1_7 l2_7 x3_7 x4_7 x5_7 x6_7).trans (by rw [q14]; rfl), fun x0_14 x1_14 l2_14 x3_14 x4_14 x5_14 x6_14 x7_14 x8_14 x9_14 x10_14 => by
      have q7 : (fun x0_7 x1_7 l2_7 x3_7 x4_7 x5_7 x6_7 => impl_LongestRun.T.run tyt impl_LongestRun.tbl k 7 (impl_LongestRun.S7 x0_7 x1_7 l2_7 x3_7 x4_7 x5_7 x6_7)) = impl_LongestRun.l7 k := by funext x0_7 x1_7 l2_7 x3_7 x4_7 x5_7 x6_7; exact ih.1 x0_7 x1_7 l2_7 x3_7 x4_7 x5_7 x6_7
      have q14 : (fun x0_14 x1_14 l2_14 x3_14 x4_14 x5_14 x6_14 x7_14 x8_14 x9_14 x10_14 => impl_LongestRun.T.run tyt impl_LongestRun.tbl k 14 (impl_LongestRun.S14 x0_14 x1_14 l2_14 x3_14 x4_14 x5_14 x6_14 x7_14 x8_14 x9_14 x10_14)) = impl_LongestRun.l14 k := by funext x0_14 x1_14 l2_14 x3_14 x4_14 x5_14 x6_14 x7_14 x8_14 x9_14 x10_14; exact ih.2 x0_14 x1_14 l2_14 x3_14 x4_14 x5_14 x6_14 x7_14 x8_14 x9_14 x10_14
      exact (impl_LongestRun.e14 k (impl_LongestRun.T.run tyt impl_LongestRun.tbl k) x0_14 x1_14 l2_14 x3_14 x4_14 x5_14 x6_14 x7_14 x8_14 x9_14 x10_14).trans (by rw [q7, q14]; rfl)⟩
theorem impl_LongestRun.tblok (k : Nat) : TblOk Go.Proofs.Tryd.prog (impl_LongestRun.tbl k) := TblOk.cons (impl_IsChart.sound k) (TblOk.cons (impl_Chart_at.sound k) (TblOk.nil _))
theorem impl_LongestRun.sound (k : Nat) : Sound Go.Proofs.Tryd.prog 22 (impl_LongestRun.spec k) := by
  have h := fn_ok (F := impl_LongestRun.T) (tbl := impl_LongestRun.tbl) mixed tyok Go.Proofs.Tryd.func22 (by kernel_rfl) (c0 := bodyOf Go.Proofs.Tryd.f22) rfl (conv_code _ _ _) rfl rfl impl_LongestRun.ok k (fun j _ => impl_LongestRun.tblok j)
  have q7 : (fun x0_7 x1_7 l2_7 x3_7 x4_7 x5_7 x6_7 => impl_LongestRun.T.run tyt impl_LongestRun.tbl k 7 (impl_LongestRun.S7 x0_7 x1_7 l2_7 x3_7 x4_7 x5_7 x6_7)) = impl_LongestRun.l7 k := by funext x0_7 x1_7 l2_7 x3_7 x4_7 x5_7 x6_7; exact (impl_LongestRun.run k).1 x0_7 x1_7 l2_7 x3_7 x4_7 x5_7 x6_7
  have e : impl_LongestRun.spec k = ⟨impl_LongestRun.T.ps, impl_LongestRun.T.rs, impl_LongestRun.T.ev tyt impl_LongestRun.tbl k⟩ := congrArg (FnSpec.mk _ _) (funext fun x => ((impl_LongestRun.e k (impl_LongestRun.T.run tyt impl_LongestRun.tbl k) x.1 x.2.1 x.2.2).trans (by rw [q7]; rfl)).symm)
  rw [e]
  exact h
/-! ### spec_l2At: function 42 -/
def spec_l2At.m (k : Nat) (a0_0 : Int) (a0_1 : Int) (l0_2 : List Int) (a1 : Int) (a2 : Int) : Option (Int) := ((chk l0_2.length (w64 ((w64 (a1 * a0_0)) + a2))).bind fun i1 => (some (l0_2.getD i1 0)))
def spec_l2At.f (k : Nat) (a0_0 : Int) (a0_1 : Int) (l0_2 : List Int) (a1 : Int) (a2 : Int) : Option (Int) := spec_l2At.m k a0_0 a0_1 l0_2 a1 a2
noncomputable def spec_l2At.spec (k : Nat) : FnSpec := ⟨[.ag [.d (.int .i64) none, .d (.int .i64) none, .d (.sl (.int .i64)) none], .d (.int .i64) none, .d (.int .i64) none], [.d (.int .i64) none], fun x => spec_l2At.f k x.1 x.2.1 x.2.2.1 x.2.2.2.1 x.2.2.2.2⟩
noncomputable def spec_l2At.T : FnText := ⟨(conv [] (bodyOf Go.Proofs.Tryd.f42) 0).1, Go.Proofs.Tryd.f42.results.toList, 17, [], [.ag [.d (.int .i64) none, .d (.int .i64) none, .d (.sl (.int .i64)) none], .d (.int .i64) none, .d (.int .i64) none], [.d (.int .i64) none]⟩
noncomputable def spec_l2At.tbl (k : Nat) : Tbl := []
theorem spec_l2At.e (k : Nat) (o : Nat → St → Option (Int)) (a0_0 : Int) (a0_1 : Int) (l0_2 : List Int) (a1 : Int) (a2 : Int) : spec_l2At.T.main tyt (spec_l2At.tbl k) o (a0_0, a0_1, l0_2, a1, a2) = spec_l2At.m k a0_0 a0_1 l0_2 a1 a2 := by kernel_rfl
theorem spec_l2At.ok : spec_l2At.T.ok = true := by kernel_rfl
theorem spec_l2At.tblok (k : Nat) : TblOk Go.Proofs.Tryd.prog (spec_l2At.tbl k) := TblOk.nil _
theorem spec_l2At.sound (k : Nat) : Sound Go.Proofs.Tryd.prog 42 (spec_l2At.spec k) := by
  have h := fn_ok (F := spec_l2At.T) (tbl := spec_l2At.tbl) mixed tyok Go.Proofs.Tryd.func42 (by kernel_rfl) (c0 := bodyOf Go.Proofs.Tryd.f42) rfl (conv_code _ _ _) rfl rfl spec_l2At.ok k (fun j _ => spec_l2At.tblok j)
  have e : spec_l2At.spec k = ⟨spec_l2At.T.ps, spec_l2At.T.rs, spec_l2At.T.ev tyt spec_l2At.tbl k⟩ := congrArg (FnSpec.mk _ _) (funext fun x => ((spec_l2At.e k (spec_l2At.T.run tyt spec_l2At.tbl k) x.1 x.2.1 x.2.2.1 x.2.2.2.1 x.2.2.2.2).trans (by rfl)).symm)
  rw [e]
  exact h
/-! ### spec_LongestRun: function 23 -/
def spec_LongestRun.b7 (o13 : Int → Int → List Int → Int → Int → Int → Int → Int → Option (Int × Int × Bool)) (k : Nat) (x0_7 : Int) (x1_7 : Int) (l2_7 : List Int) (x3_7 : Int) (x4_7 : Int) (x5_7 : Int) : Option (Int × Int × Bool) := (if x5_7 < x1_7 then (o13 x0_7 x1_7 l2_7 x3_7 x4_7 x5_7 0 0) else (some (x3_7, x4_7, true)))
def spec_LongestRun.b13 (o7 : Int → Int → List Int → Int → Int → Int → Option (Int × Int × Bool)) (o13 : Int → Int → List Int → Int → Int → Int → Int → Int → Option (Int × Int × Bool)) (k : Nat) (x0_13 : Int) (x1_13 : Int) (l2_13 : List Int) (x3_13 : Int) (x4_13 : Int) (x5_13 : Int) (x6_13 : Int) (x7_13 : Int) : Option (Int × Int × Bool) := (if x7_13 < x0_13 then (if 0 < x7_13 then ((spec_l2At.f k x0_13 x1_13 l2_13 x5_13 x7_13).bind fun r2 => ((spec_l2At.f k x0_13 x1_13 l2_13 x5_13 (w64 (x7_13 - 1))).bind fun r3 => (if r2 = r3 then (if x3_13 < (w64 (x6_13 + 1)) then (o13 x0_13 x1_13 l2_13 (w64 (x6_13 + 1)) x5_13 x5_13 (w64 (x6_13 + 1)) (w64 (x7_13 + 1))) else (o13 x0_13 x1_13 l2_13 x3_13 x4_13 x5_13 (w64 (x6_13 + 1)) (w64 (x7_13 + 1)))) else (if x3_13 < 1 then (o13 x0_13 x1_13 l2_13 1 x5_13 x5_13 1 (w64 (x7_13 + 1))) else (o13 x0_13 x1_13 l2_13 x3_13 x4_13 x5_13 1 (w64 (x7_13 + 1))))))) else (if x3_13 < 1 then (o13 x0_13 x1_13 l2_13 1 x5_13 x5_13 1 (w64 (x7_13 + 1))) else (o13 x0_13 x1_13 l2_13 x3_13 x4_13 x5_13 1 (w64 (x7_13 + 1))))) else (o7 x0_13 x1_13 l2_13 x3_13 x4_13 (w64 (x5_13 + 1))))
mutual
def spec_LongestRun.l7 : Nat → Int → Int → List Int → Int → Int → Int → Option (Int × Int × Bool)
  | 0, _, _, _, _, _, _ => none
  | k + 1, x0_7, x1_7, l2_7, x3_7, x4_7, x5_7 => spec_LongestRun.b7 (spec_LongestRun.l13 k) k x0_7 x1_7 l2_7 x3_7 x4_7 x5_7
def spec_LongestRun.l13 : Nat → Int → Int → List Int → Int → Int → Int → Int → Int → Option (Int × Int × Bool)
  | 0, _, _, _, _, _, _, _, _ => none
  | k + 1, x0_13, x1_13, l2_13, x3_13, x4_13, x5_13, x6_13, x7_13 => spec_LongestRun.b13 (spec_LongestRun.l7 k) (spec_LongestRun.l13 k) k x0_13 x1_13 l2_13 x3_13 x4_13 x5_13 x6_13 x7_13
end
def spec_LongestRun.m (o7 : Int → Int → List Int → Int → Int → Int → Option (Int × Int × Bool)) (k : Nat) (a0_0 : Int) (a0_1 : Int) (l0_2 : List Int) : Option (Int × Int × Bool) := ((spec_l2Good.f k a0_0 a0_1 l0_2).bind fun r1 => (cond (!r1) (some (0, 0, false)) (o7 a0_0 a0_1 l0_2 0 0 0)))
def spec_LongestRun.f (k : Nat) (a0_0 : Int) (a0_1 : Int) (l0_2 : List Int) : Option (Int × Int × Bool) := spec_LongestRun.m (spec_LongestRun.l7 k) k a0_0 a0_1 l0_2
noncomputable def spec_LongestRun.spec (k : Nat) : FnSpec := ⟨[.ag [.d (.int .i64) none, .d (.int .i64) none, .d (.sl (.int .i64)) none]], [.d (.int .i64) none, .d (.int .i64) none, .d .bool none], fun x => spec_LongestRun.f k x.1 x.2.1 x.2.2⟩
def spec_LongestRun.S7 (x0_7 : Int) (x1_7 : Int) (l2_7 : List Int) (x3_7 : Int) (x4_7 : Int) (x5_7 : Int) : St := ⟨[(1, .ptr 100 0), (5, .val (.int .i64) x3_7), (6, .val (.int .i64) x4_7), (7, .val (.int .i64) x5_7)], [(100, some (.box [.val (.int .i64) x0_7, .val (.int .i64) x1_7, .val (.sl (.int .i64)) l2_7]))], 1000⟩
def spec_LongestRun.S13 (x0_13 : Int) (x1_13 : Int) (l2_13 : List Int) (x3_13 : Int) (x4_13 : Int) (x5_13 : Int) (x6_13 : Int) (x7_13 : Int) : St := ⟨[(1, .ptr 100 0), (5, .val (.int .i64) x3_13), (6, .val (.int .i64) x4_13), (7, .val (.int .i64) x5_13), (8, .val (.int .i64) x6_13), (9, .val (.int .i64) x7_13)], [(100, some (.box [.val (.int .i64) x0_13, .val (.int .i64) x1_13, .val (.sl (.int .i64)) l2_13]))], 1000⟩
noncomputable def spec_LongestRun.T : FnText := ⟨(conv [] (bodyOf Go.Proofs.Tryd.f23) 0).1, Go.Proofs.Tryd.f23.results.toList, 48, [(7, [(1, .bx 100 [.rd (.int .i64), .rd (.int .i64), .rd (.sl (.int .i64))]), (5, .rd (.int .i64)), (6, .rd (.int .i64)), (7, .rd (.int .i64))]), (13, [(1, .bx 100 [.rd (.int .i64), .rd (.int .i64), .rd (.sl (.int .i64))]), (5, .rd (.int .i64)), (6, .rd (.int .i64)), (7, .rd (.int .i64)), (8, .rd (.int .i64)), (9, .rd (.int .i64))])], [.ag [.d (.int .i64) none, .d (.int .i64) none, .d (.sl (.int .i64)) none]], [.d (.int .i64) none, .d (.int .i64) none, .d .bool none]⟩
noncomputable def spec_LongestRun.tbl (k : Nat) : Tbl := [(28, spec_l2Good.spec k), (42, spec_l2At.spec k)]
theorem spec_LongestRun.e7 (k : Nat) (o : Nat → St → Option (Int × Int × Bool)) (x0_7 : Int) (x1_7 : Int) (l2_7 : List Int) (x3_7 : Int) (x4_7 : Int) (x5_7 : Int) : spec_LongestRun.T.step tyt (spec_LongestRun.tbl k) o 7 (spec_LongestRun.S7 x0_7 x1_7 l2_7 x3_7 x4_7 x5_7) = spec_LongestRun.b7 (fun x0_13 x1_13 l2_13 x3_13 x4_13 x5_13 x6_13 x7_13 => o 13 (spec_LongestRun.S13 x0_13 x1_13 l2_13 x3_13 x4_13 x5_13 x6_13 x7_13)) k x0_7 x1_7 l2_7 x3_7 x4_7 x5_7 := by kernel_rfl
theorem spec_LongestRun.e13 (k : Nat) (o : Nat → St → Option (Int × Int × Bool)) (x0_13 : Int) (x1_13 : Int) (l2_13 : List Int) (x3_13 : Int) (x4_13 : Int) (x5_13 : Int) (x6_13 : Int) (x7_13 : Int) : spec_LongestRun.T.step tyt (spec_LongestRun.tbl k) o 13 (spec_LongestRun.S13 x0_13 x1_13 l2_13 x3_13 x4_13 x5_13 x6_13 x7_13) = spec_LongestRun.b13 (fun x0_7 x1_7 l2_7 x3_7 x4_7 x5_7 => o 7 (spec_LongestRun.S7 x0_7 x1_7 l2_7 x3_7 x4_7 x5_7)) (fun x0_13 x1_13 l2_13 x3_13 x4_13 x5_13 x6_13 x7_13 => o 13 (spec_LongestRun.S13 x0_13 x1_13 l2_13 x3_13 x4_13 x5_13 x6_13 x7_13)) k x0_13 x1_13 l2_13 x3_13 x4_13 x5_13 x6_13 x7_13 := by kernel_rfl
theorem spec_LongestRun.e (k : Nat) (o : Nat → St → Option (Int × Int × Bool)) (a0_0 : Int) (a0_1 : Int) (l0_2 : List Int) : spec_LongestRun.T.main tyt (spec_LongestRun.tbl k) o (a0_0, a0_1, l0_2) = spec_LongestRun.m (fun x0_7 x1_7 l2_7 x3_7 x4_7 x5_7 => o 7 (spec_LongestRun.S7 x0_7 x1_7 l2_7 x3_7 x4_7 x5_7)) k a0_0 a0_1 l0_2 := by kernel_rfl
theorem spec_LongestRun.ok : spec_LongestRun.T.ok = true := by kernel_rfl
theorem spec_LongestRun.run (k : Nat) : (∀ (x0_7 : Int) (x1_7 : Int) (l2_7 : List Int) (x3_7 : Int) (x4_7 : Int) (x5_7 : Int), spec_LongestRun.T.run tyt spec_LongestRun.tbl k 7 (spec_LongestRun.S7 x0_7 x1_7 l2_7 x3_7 x4_7 x5_7) = spec_LongestRun.l7 k x0_7 x1_7 l2_7 x3_7 x4_7 x5_7) ∧ (∀ (x0_13 : Int) (x1_13 : Int) (l2_13 : List Int) (x3_13 : Int) (x4_13 : Int) (x5_13 : Int) (x6_13 : Int) (x7_13 : Int), spec_LongestRun.T.run tyt spec_LongestRun.tbl k 13 (spec_LongestRun.S13 x0_13 x1_13 l2_13 x3_13 x4_13 x5_13 x6_13 x7_13) = spec_LongestRun.l13 k x0_13 x1_13 l2_13 x3_13 x4_13 x5_13 x6_13 x7_13) := by
  induction k with
  | zero => exact ⟨fun x0_7 x1_7 l2_7 x3_7 x4_7 x5_7 => rfl, fun x0_13 x1_13 l2_13 x3_13 x4_13 x5_13 x6_13 x7_13 => rfl⟩
  | succ k ih =>
    exact ⟨fun x0_7 x1_7 l2_7 x3_7 x4_7 x5_7 => by
      have q13 : (fun x0_13 x1_13 l2_13 x3_13 x4_13 x5_13 x6_13 x7_13 => spec_LongestRun.T.run tyt spec_LongestRun.tbl k 13 (spec_LongestRun.S13 x0_13 x1_13 l2_13 x3_13 x4_13 x5_13 x6_13 x7_13)) = spec_LongestRun.l13 k := by funext x0_13 x1_13 l2_13 x3_13 x4_13 x5_13 x6_13 x7_13; exact ih.2 x0_13 x1_13 l2_13 x3_13 x4_13 x5_13 x6_13 x7_13
      exact (spec_LongestRun.e7 k (spec_LongestRun.T.run tyt spec_LongestRun.tbl k) x0_7 x1_7 l2_7 x3_7 x4_7 x5_7).trans (by rw [q13]; rfl), fun x0_13 x1_13 l2_13 x3_13 x4_13 x5_13 x6_13 x7_13 => by
      have q7 : (fun x0_7 x1_7 l2_7 x3_7 x4_7 x5_7 => spec_LongestRun.T.run tyt spec_LongestRun.tbl k 7 (spec_LongestRun.S7 x0_7 x1_7 l2_7 x3_7 x4_7 x5_7)) = spec_LongestRun.l7 k := by funext x0_7 x1_7 l2_7 x3_7 x4_7 x5_7; exact ih.1 x0_7 x1_7 l2_7 x3_7 x4_7 x5_7
      have q13 : (fun x0_13 x1_13 l2_13 x3_13 x4_13 x5_13 x6_13 x7_13 => spec_LongestRun.T.run tyt spec_LongestRun.tbl k 13 (spec_LongestRun.S13 x0_13 x1_13 l2_13 x3_13 x4_13 x5_13 x6_13 x7_13)) = spec_LongestRun.l13 k := by funext x0_13 x1_13 l2_13 x3_13 x4_13 x5_13 x6_13 x7_13; exact ih.2 x0_13 x1_13 l2_13 x3_13 x4_13 x5_13 x6_13 x7_13
      exact (spec_LongestRun.e13 k (spec_LongestRun.T.run tyt spec_LongestRun.tbl k) x0_13 x1_13 l2_13 x3_13 x4_13 x5_13 x6_13 x7_13).trans (by rw [q7, q13]; rfl)⟩
theorem spec_LongestRun.tblok (k : Nat) : TblOk Go.Proofs.Tryd.prog (spec_LongestRun.tbl k) := TblOk.cons (spec_l2Good.sound k) (TblOk.cons (spec_l2At.sound k) (TblOk.nil _))
theorem spec_LongestRun.sound (k : Nat) : Sound Go.Proofs.Tryd.prog 23 (spec_LongestRun.spec k) := by
  have h := fn_ok (F := spec_LongestRun.T) (tbl := spec_LongestRun.tbl) mixed tyok Go.Proofs.Tryd.func23 (by kernel_rfl) (c0 := bodyOf Go.Proofs.Tryd.f23) rfl (conv_code _ _ _) rfl rfl spec_LongestRun.ok k (fun j _ => spec_LongestRun.tblok j)
  have q7 : (fun x0_7 x1_7 l2_7 x3_7 x4_7 x5_7 => spec_LongestRun.T.run tyt spec_LongestRun.tbl k 7 (spec_LongestRun.S7 x0_7 x1_7 l2_7 x3_7 x4_7 x5_7)) = spec_LongestRun.l7 k := by funext x0_7 x1_7 l2_7 x3_7 x4_7 x5_7; exact (spec_LongestRun.run k).1 x0_7 x1_7 l2_7 x3_7 x4_7 x5_7
  have e : spec_LongestRun.spec k = ⟨spec_LongestRun.T.ps, spec_LongestRun.T.rs, spec_LongestRun.T.ev tyt spec_LongestRun.tbl k⟩ := congrArg (FnSpec.mk _ _) (funext fun x => ((spec_LongestRun.e k (spec_LongestRun.T.run tyt spec_LongestRun.tbl k) x.1 x.2.1 x.2.2).trans (by rw [q7]; rfl)).symm)
  rw [e]
  exact h
/-! ### laws_FnCharts: function 3 -/
def laws_FnCharts.b7 (o14 : List Int → Option (Bool)) (k : Nat) (l0_7 : List Int) : Option (Bool) := ((spec_DrawParseChart.f k l0_7).bind fun r8 => ((impl_ParseChart.f k r8).bind fun r9 => ((impl_ChartText.f k r9.1 r9.2.1 r9.2.2.1).bind fun r10 => ((spec_ParseChart.f k r8).bind fun r11 => (if ¬ r9.2.2.2 = r11.2.2.2 then (some false) else ((laws_vChart.f k r9.1 r9.2.1 r9.2.2.1 r11.1 r11.2.1 r11.2.2.1).bind fun r12 => (cond (!r12) (some false) (cond r9.2.2.2 (cond (!r10.2) (some false) (if ¬ r10.1 = r8 then (some false) else (o14 l0_7))) (o14 l0_7)))))))))
def laws_FnCharts.b14 (o20 : List Int → Option (Bool)) (k : Nat) (l0_14 : List Int) : Option (Bool) := ((spec_DrawCountColors.f k l0_14).bind fun r13 => ((impl_CountColors.f k r13.1 r13.2.1 r13.2.2).bind fun r14 => ((spec_CountColors.f k r13.1 r13.2.1 r13.2.2).bind fun r15 => (if ¬ r14.2 = r15.2 then (some false) else ((laws_vInts.f k r14.1 r15.1).bind fun r16 => (cond (!r16) (some false) (cond r14.2 ((laws_vSum.f k r14.1).bind fun r17 => (if ¬ r17 = (w64 (r13.1 * r13.2.1)) then (some false) else (o20 l0_14))) (o20 l0_14))))))))
def laws_FnCharts.b20 (o31 : List Int → Int → Int → List Int → Int → Int → Int → Int → List Int → Bool → Option (Bool)) (k : Nat) (l0_20 : List Int) : Option (Bool) := ((spec_DrawChangeColor.f k l0_20).bind fun r18 => ((impl_ChangeColor.f k r18.1 r18.2.1 r18.2.2.1 r18.2.2.2.1 r18.2.2.2.2).bind fun r19 => ((spec_ChangeColor.f k r18.1 r18.2.1 r18.2.2.1 r18.2.2.2.1 r18.2.2.2.2).bind fun r20 => (if ¬ r19.2.2.2 = r20.2.2.2 then (some false) else ((laws_vChart.f k r19.1 r19.2.1 r19.2.2.1 r20.1 r20.2.1 r20.2.2.1).bind fun r21 => (cond (!r21) (some false) (cond r19.2.2.2 (o31 l0_20 r18.1 r18.2.1 r18.2.2.1 r18.2.2.2.1 r18.2.2.2.2 r19.1 r19.2.1 r19.2.2.1 (decide (¬ r18.2.2.2.1 = r18.2.2.2.2))) (o31 l0_20 r18.1 r18.2.1 r18.2.2.1 r18.2.2.2.1 r18.2.2.2.2 r19.1 r19.2.1 r19.2.2.1 false))))))))
def laws_FnCharts.b30 (k : Nat) (l0_30 : List Int) : Option (Bool) := ((spec_DrawLongestRun.f k l0_30).bind fun r28 => ((impl_LongestRun.f k r28.1 r28.2.1 r28.2.2).bind fun r29 => ((spec_LongestRun.f k r28.1 r28.2.1 r28.2.2).bind fun r30 => (if r29.1 = r30.1 then (if r29.2.1 = r30.2.1 then (if r29.2.2 = r30.2.2 then (cond (!r29.2.2) (some true) (if 1 ≤ r29.1 then (some (decide (r29.1 ≤ r28.1))) else (some false))) else (some false)) else (some false)) else (some false)))))
def laws_FnCharts.b31 (o30 : List Int → Option (Bool)) (k : Nat) (l0_31 : List Int) (x1_31 : Int) (x2_31 : Int) (l3_31 : List Int) (x4_31 : Int) (x5_31 : Int) (x6_31 : Int) (x7_31 : Int) (l8_31 : List Int) (x9_31 : Bool) : Option (Bool) := (cond x9_31 ((impl_CountColors.f k x6_31 x7_31 l8_31).bind fun r22 => ((impl_CountColors.f k x1_31 x2_31 l3_31).bind fun r23 => (cond (!r22.2) (some false) (cond (!r23.2) (some false) (if ¬ (r22.1.length : Int) = 6 then (some false) else (if ¬ (r23.1.length : Int) = 6 then (some false) else ((chk r22.1.length x4_31).bind fun i24 => (if ¬ (r22.1.getD i24 0) = 0 then (some false) else ((chk r22.1.length x5_31).bind fun i25 => ((chk r23.1.length x4_31).bind fun i26 => ((chk r23.1.length x5_31).bind fun i27 => (if ¬ (r22.1.getD i25 0) = (w64 ((r23.1.getD i26 0) + (r23.1.getD i27 0))) then (some false) else (o30 l0_31))))))))))))) (o30 l0_31))
mutual
def laws_FnCharts.l7 : Nat → List Int → Option (Bool)
  | 0, _ => none
  | k + 1, l0_7 => laws_FnCharts.b7 (laws_FnCharts.l14 k) k l0_7
def laws_FnCharts.l14 : Nat → List Int → Option (Bool)
  | 0, _ => none
  | k + 1, l0_14 => laws_FnCharts.b14 (laws_FnCharts.l20 k) k l0_14
def laws_FnCharts.l20 : Nat → List Int → Option (Bool)
  | 0, _ => none
  | k + 1, l0_20 => laws_FnCharts.b20 (laws_FnCharts.l31 k) k l0_20
def laws_FnCharts.l30 : Nat → List Int → Option (Bool)
  | 0, _ => none
  | k + 1, l0_30 => laws_FnCharts.b30 k l0_30
def laws_FnCharts.l31 : Nat → List Int → Int → Int → List Int → Int → Int → Int → Int → List Int → Bool → Option (Bool)
  | 0, _, _, _, _, _, _, _, _, _, _ => none
  | k + 1, l0_31, x1_31, x2_31, l3_31, x4_31, x5_31, x6_31, x7_31, l8_31, x9_31 => laws_FnCharts.b31 (laws_FnCharts.l30 k) k l0_31 x1_31 x2_31 l3_31 x4_31 x5_31 x6_31 x7_31 l8_31 x9_31
end
def laws_FnCharts.m (o7 : List Int → Option (Bool)) (k : Nat) (l0 : List Int) : Option (Bool) := ((laws_vBig.f k l0).bind fun r1 => (cond r1 (some true) ((spec_DrawChartText.f k l0).bind fun r2 => ((impl_ChartText.f k r2.1 r2.2.1 r2.2.2).bind fun r3 => ((impl_ParseChart.f k r3.1).bind fun r4 => ((spec_ChartText.f k r2.1 r2.2.1 r2.2.2).bind fun r5 => (if ¬ r3.1 = r5.1 then (some false) else (if ¬ r3.2 = r5.2 then (some false) else ((impl_IsChart.f k r2.1 r2.2.1 r2.2.2).bind fun r6 => (if ¬ r3.2 = r6 then (some false) else (cond r3.2 (cond (!r4.2.2.2) (some false) ((laws_vChart.f k r4.1 r4.2.1 r4.2.2.1 r2.1 r2.2.1 r2.2.2).bind fun r7 => (cond (!r7) (some false) (o7 l0)))) (o7 l0))))))))))))
def laws_FnCharts.f (k : Nat) (l0 : List Int) : Option (Bool) := laws_FnCharts.m (laws_FnCharts.l7 k) k l0
noncomputable def laws_FnCharts.spec (k : Nat) : FnSpec := ⟨[.d (.sl (.int .u8)) none], [.d .bool none], fun x => laws_FnCharts.f k x⟩
def laws_FnCharts.S7 (l0_7 : List Int) : St := ⟨[(0, .val (.sl (.int .u8)) l0_7)], [], 1000⟩
def laws_FnCharts.S14 (l0_14 : List Int) : St := ⟨[(0, .val (.sl (.int .u8)) l0_14)], [], 1000⟩
def laws_FnCharts.S20 (l0_20 : List Int) : St := ⟨[(0, .val (.sl (.int .u8)) l0_20)], [], 1000⟩
def laws_FnCharts.S30 (l0_30 : List Int) : St := ⟨[(0, .val (.sl (.int .u8)) l0_30)], [], 1000⟩
def laws_FnCharts.S31 (l0_31 : List Int) (x1_31 : Int) (x2_31 : Int) (l3_31 : List Int) (x4_31 : Int) (x5_31 : Int) (x6_31 : Int) (x7_31 : Int) (l8_31 : List Int) (x9_31 : Bool) : St := ⟨[(0, .val (.sl (.int .u8)) l0_31), (22, .ptr 100 0), (23, .val (.int .i64) x4_31), (24, .val (.int .i64) x5_31), (25, .ptr 102 0), (192, .val .bool x9_31)], [(102, some (.box [.val (.int .i64) x6_31, .val (.int .i64) x7_31, .ref 103])), (103, some (.row 3 (.int .i64) l8_31)), (100, some (.box [.val (.int .i64) x1_31, .val (.int .i64) x2_31, .ref 101])), (101, some (.row 3 (.int .i64) l3_31))], 1000⟩
noncomputable def laws_FnCharts.T : FnText := ⟨(conv [7, 14, 20, 30, 31] (bodyOf Go.Proofs.Tryd.f3) 0).1, Go.Proofs.Tryd.f3.results.toList, 283, [(7, [(0, .rd (.sl (.int .u8)))]), (14, [(0, .rd (.sl (.int .u8)))]), (20, [(0, .rd (.sl (.int .u8)))]), (30, [(0, .rd (.sl (.int .u8)))]), (31, [(0, .rd (.sl (.int .u8))), (22, .bx 100 [.rd (.int .i64), .rd (.int .i64), .own 3 (.int .i64) 101]), (23, .rd (.int .i64)), (24, .rd (.int .i64)), (25, .bx 102 [.rd (.int .i64), .rd (.int .i64), .own 3 (.int .i64) 103]), (192, .rd .bool)])], [.d (.sl (.int .u8)) none], [.d .bool none]⟩
noncomputable def laws_FnCharts.tbl (k : Nat) : Tbl := [(4, laws_vBig.spec k), (5, spec_DrawChartText.spec k), (6, impl_ChartText.spec k), (7, impl_ParseChart.spec k), (8, spec_ChartText.spec k), (9, impl_IsChart.spec k), (10, laws_vChart.spec k), (11, spec_DrawParseChart.spec k), (12, spec_ParseChart.spec k), (13, spec_DrawCountColors.spec k), (14, impl_CountColors.spec k), (15, spec_CountColors.spec k), (16, laws_vInts.spec k), (17, laws_vSum.spec k), (18, spec_DrawChangeColor.spec k), (19, impl_ChangeColor.spec k), (20, spec_ChangeColor.spec k), (21, spec_DrawLongestRun.spec k), (22, impl_LongestRun.spec k), (23, spec_LongestRun.spec k)]
theorem laws_FnCharts.e7 (k : Nat) (o : Nat → St → Option (Bool)) (l0_7 : List Int) : laws_FnCharts.T.step tyt (laws_FnCharts.tbl k) o 7 (laws_FnCharts.S7 l0_7) = laws_FnCharts.b7 (fun l0_14 => o 14 (laws_FnCharts.S14 l0_14)) k l0_7 := by kernel_rfl
theorem laws_FnCharts.e14 (k : Nat) (o : Nat → St → Option (Bool)) (l0_14 : List Int) : laws_FnCharts.T.step tyt (laws_FnCharts.tbl k) o 14 (laws_FnCharts.S14 l0_14) = laws_FnCharts.b14 (fun l0_20 => o 20 (laws_FnCharts.S20 l0_20)) k l0_14 := by kernel_rfl
theorem laws_FnCharts.e20 (k : Nat) (o : Nat → St → Option (Bool)) (l0_20 : List Int) : laws_FnCharts.T.step tyt (laws_FnCharts.tbl k) o 20 (laws_FnCharts.S20 l0_20) = laws_FnCharts.b20 (fun l0_31 x1_31 x2_31 l3_31 x4_31 x5_31 x6_31 x7_31 l8_31 x9_31 => o 31 (laws_FnCharts.S31 l0_31 x1_31 x2_31 l3_31 x4_31 x5_31 x6_31 x7_31 l8_31 x9_31)) k l0_20 := by kernel_rfl
theorem laws_FnCharts.e30 (k : Nat) (o : Nat → St → Option (Bool)) (l0_30 : List Int) : laws_FnCharts.T.step tyt (laws_FnCharts.tbl k) o 30 (laws_FnCharts.S30 l0_30) = laws_FnCharts.b30 k l0_30 := by kernel_rfl
theorem laws_FnCharts.e31 (k : Nat) (o : Nat → St → Option (Bool)) (l0_31 : List Int) (x1_31 : Int) (x2_31 : Int) (l3_31 : List Int) (x4_31 : Int) (x5_31 : Int) (x6_31 : Int) (x7_31 : Int) (l8_31 : List Int) (x9_31 : Bool) : laws_FnCharts.T.step tyt (laws_FnCharts.tbl k) o 31 (laws_FnCharts.S31 l0_31 x1_31 x2_31 l3_31 x4_31 x5_31 x6_31 x7_31 l8_31 x9_31) = laws_FnCharts.b31 (fun l0_30 => o 30 (laws_FnCharts.S30 l0_30)) k l0_31 x1_31 x2_31 l3_31 x4_31 x5_31 x6_31 x7_31 l8_31 x9_31 := by kernel_rfl
theorem laws_FnCharts.e (k : Nat) (o : Nat → St → Option (Bool)) (l0 : List Int) : laws_FnCharts.T.main tyt (laws_FnCharts.tbl k) o l0 = laws_FnCharts.m (fun l0_7 => o 7 (laws_FnCharts.S7 l0_7)) k l0 := by kernel_rfl
theorem laws_FnCharts.ok : laws_FnCharts.T.ok = true := by kernel_rfl
theorem laws_FnCharts.run (k : Nat) : (∀ (l0_7 : List Int), laws_FnCharts.T.run tyt laws_FnCharts.tbl k 7 (laws_FnCharts.S7 l0_7) = laws_FnCharts.l7 k l0_7) ∧ (∀ (l0_14 : List Int), laws_FnCharts.T.run tyt laws_FnCharts.tbl k 14 (laws_FnCharts.S14 l0_14) = laws_FnCharts.l14 k l0_14) ∧ (∀ (l0_20 : List Int), laws_FnCharts.T.run tyt laws_FnCharts.tbl k 20 (laws_FnCharts.S20 l0_20) = laws_FnCharts.l20 k l0_20) ∧ (∀ (l0_30 : List Int), laws_FnCharts.T.run tyt laws_FnCharts.tbl k 30 (laws_FnCharts.S30 l0_30) = laws_FnCharts.l30 k l0_30) ∧ (∀ (l0_31 : List Int) (x1_31 : Int) (x2_31 : Int) (l3_31 : List Int) (x4_31 : Int) (x5_31 : Int) (x6_31 : Int) (x7_31 : Int) (l8_31 : List Int) (x9_31 : Bool), laws_FnCharts.T.run tyt laws_FnCharts.tbl k 31 (laws_FnCharts.S31 l0_31 x1_31 x2_31 l3_31 x4_31 x5_31 x6_31 x7_31 l8_31 x9_31) = laws_FnCharts.l31 k l0_31 x1_31 x2_31 l3_31 x4_31 x5_31 x6_31 x7_31 l8_31 x9_31) := by
  induction k with
  | zero => exact ⟨fun l0_7 => rfl, fun l0_14 => rfl, fun l0_20 => rfl, fun l0_30 => rfl, fun l0_31 x1_31 x2_31 l3_31 x4_31 x5_31 x6_31 x7_31 l8_31 x9_31 => rfl⟩
  | succ k ih =>
    exact ⟨fun l0_7 => by
      have q14 : (fun l0_14 => laws_FnCharts.T.run tyt laws_FnCharts.tbl k 14 (laws_FnCharts.S14 l0_14)) = laws_FnCharts.l14 k := by funext l0_14; exact ih.2.1 l0_14
      exact (laws_FnCharts.e7 k (laws_FnCharts.T.run tyt laws_FnCharts.tbl k) l0_7).trans (by rw [q14]; rfl), fun l0_14 => by
      have q20 : (fun l0_20 => laws_FnCharts.T.run tyt laws_FnCharts.tbl k 20 (laws_FnCharts.S20 l0_20)) = laws_FnCharts.l20 k := by funext l0_20; exact ih.2.2.1 l0_20
      exact (laws_FnCharts.e14 k (laws_FnCharts.T.run tyt laws_FnCharts.tbl k) l0_14).trans (by rw [q20]; rfl), fun l0_20 => by
      have q31 : (fun l0_31 x1_31 x2_31 l3_31 x4_31 x5_31 x6_31 x7_31 l8_31 x9_31 => laws_FnCharts.T.run tyt laws_FnCharts.tbl k 31 (laws_FnCharts.S31 l0_31 x1_31 x2_31 l3_31 x4_31 x5_31 x6_31 x7_31 l8_31 x9_31)) = laws_FnCharts.l31 k := by funext l0_31 x1_31 x2_31 l3_31 x4_31 x5_31 x6_31 x7_31 l8_31 x9_31; exact ih.2.2.2.2 l0_31 x1_31 x2_31 l3_31 x4_31 x5_31 x6_31 x7_31 l8_31 x9_31
      exact (laws_FnCharts.e20 k (laws_FnCharts.T.run tyt laws_FnCharts.tbl k) l0_20).trans (by rw [q31]; rfl), fun l0_30 => by
      exact (laws_FnCharts.e30 k (laws_FnCharts.T.run tyt laws_FnCharts.tbl k) l0_30).trans (by rfl), fun l0_31 x1_31 x2_31 l3_31 x4_31 x5_31 x6_31 x7_31 l8_31 x9_31 => by
      have q30 : (fun l0_30 => laws_FnCharts.T.run tyt laws_FnCharts.tbl k 30 (laws_FnCharts.S30 l0_30)) = laws_FnCharts.l30 k := by funext l0_30; exact ih.2.2.2.1 l0_30
      exact (laws_FnCharts.e31 k (laws_FnCharts.T.run tyt laws_FnCharts.tbl k) l0_31 x1_31 x2_31 l3_31 x4_31 x5_31 x6_31 x7_31 l8_31 x9_31).trans (by rw [q30]; rfl)⟩
theorem laws_FnCharts.tblok (k : Nat) : TblOk Go.Proofs.Tryd.prog (laws_FnCharts.tbl k) := TblOk.cons (laws_vBig.sound k) (TblOk.cons (spec_DrawChartText.sound k) (TblOk.cons (impl_ChartText.sound k) (TblOk.cons (impl_ParseChart.sound k) (TblOk.cons (spec_ChartText.sound k) (TblOk.cons (impl_IsChart.sound k) (TblOk.cons (laws_vChart.sound k) (TblOk.cons (spec_DrawParseChart.sound k) (TblOk.cons (spec_ParseChart.sound k) (TblOk.cons (spec_DrawCountColors.sound k) (TblOk.cons (impl_CountColors.sound k) (TblOk.cons (spec_CountColors.sound k) (TblOk.cons (laws_vInts.sound k) (TblOk.cons (laws_vSum.sound k) (TblOk.cons (spec_DrawChangeColor.sound k) (TblOk.cons (impl_ChangeColor.sound k) (TblOk.cons (spec_ChangeColor.sound k) (TblOk.cons (spec_DrawLongestRun.sound k) (TblOk.cons (impl_LongestRun.sound k) (TblOk.cons (spec_LongestRun.sound k) (TblOk.nil _))))))))))))))))))))
theorem laws_FnCharts.sound (k : Nat) : Sound Go.Proofs.Tryd.prog 3 (laws_FnCharts.spec k) := by
  have h := fn_ok (F := laws_FnCharts.T) (tbl := laws_FnCharts.tbl) mixed tyok Go.Proofs.Tryd.func3 (by kernel_rfl) (c0 := bodyOf Go.Proofs.Tryd.f3) rfl (conv_code _ _ _) rfl rfl laws_FnCharts.ok k (fun j _ => laws_FnCharts.tblok j)
  have q7 : (fun l0_7 => laws_FnCharts.T.run tyt laws_FnCharts.tbl k 7 (laws_FnCharts.S7 l0_7)) = laws_FnCharts.l7 k := by funext l0_7; exact (laws_FnCharts.run k).1 l0_7
  have e : laws_FnCharts.spec k = ⟨laws_FnCharts.T.ps, laws_FnCharts.T.rs, laws_FnCharts.T.ev tyt laws_FnCharts.tbl k⟩ := congrArg (FnSpec.mk _ _) (funext fun x => ((laws_FnCharts.e k (laws_FnCharts.T.run tyt laws_FnCharts.tbl k) x).trans (by rw [q7]; rfl)).symm)
  rw [e]
  exact h

/-- The pure statement. -/
def Pure : Prop := ∀ (l0 : List Int), (l0.length * 1 ≤ 140737488351232) → (∀ y0 ∈ l0, (Lit.int .u8 y0).wf = true) → ∃ k, laws_FnCharts.f k l0 = some true
end Go.Proofs.YtnggfjbmjlppgaaDoor.DFnCharts
