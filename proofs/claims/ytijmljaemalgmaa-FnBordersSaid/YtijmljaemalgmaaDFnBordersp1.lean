-- Printed by this session's own program (wip/deep/drow.py); Lean checks it.
import Derived.Test.YtijmljaemalgmaaDn26
import Derived.Test.YtijmljaemalgmaaProg
set_option linter.unusedVariables false
set_option maxRecDepth 100000
namespace Go.Proofs.Ytijmljaemalgmaa.DFnBorders
open Go Go.Proofs.YtijmljaemalgmaaD
def tyt3 : TI := ⟨.int .i64, 1, 8, (.int .i64)⟩
def tyt4 : TI := ⟨.bool, 1, 1, .bool⟩
def tyt5 : TI := ⟨.int .u8, 1, 1, (.int .u8)⟩
def tyt22 : TI := ⟨.slice 3, 1, 24, (.sl (.int .i64))⟩
def tyt26 : TI := ⟨.struct #[⟨ "Width", 3, 0, false, "", "", 0⟩, ⟨ "Height", 3, 1, false, "", "", 8⟩, ⟨ "Knots", 22, 2, false, "", "", 16⟩], 3, 40, (.pair (.int .i64) (.pair (.int .i64) (.sl (.int .i64))))⟩
def tyt37 : TI := ⟨.slice 5, 1, 24, (.sl (.int .u8))⟩
def tyt86 : TI := ⟨.func #[3] #[4] false, 1, 8, .fn⟩
def tyt99 : TI := ⟨.int .u64, 1, 8, (.int .u64)⟩
def tyt101 : TI := ⟨.struct #[⟨ "code", 37, 0, false, "", "loop.example/g01023/spec", 0⟩, ⟨ "at", 3, 1, false, "", "loop.example/g01023/spec", 24⟩, ⟨ "seed", 99, 2, false, "", "loop.example/g01023/spec", 32⟩], 3, 40, (.pair (.sl (.int .u8)) (.pair (.int .i64) (.int .u64)))⟩
def tyt : TT := [(3, tyt3), (4, tyt4), (5, tyt5), (22, tyt22), (26, tyt26), (37, tyt37), (86, tyt86), (99, tyt99), (101, tyt101)]
theorem mixed : Go.Proofs.Try.prog.follows .mixedOrders = true := by kernel_rfl
theorem tok3 : TOk1 Go.Proofs.Try.prog 3 (tyt3) := TOk1.of (by kernel_rfl) (by kernel_rfl) (by kernel_rfl) (by kernel_rfl) (by kernel_rfl) (by kernel_rfl) (by kernel_rfl) (fun h => nomatch (show false = true from h)) (fun h => nomatch (show false = true from h))
theorem tok4 : TOk1 Go.Proofs.Try.prog 4 (tyt4) := TOk1.of (by kernel_rfl) (by kernel_rfl) (by kernel_rfl) (by kernel_rfl) (by kernel_rfl) (by kernel_rfl) (by kernel_rfl) (fun h => nomatch (show false = true from h)) (fun h => nomatch (show false = true from h))
theorem tok5 : TOk1 Go.Proofs.Try.prog 5 (tyt5) := TOk1.of (by kernel_rfl) (by kernel_rfl) (by kernel_rfl) (by kernel_rfl) (by kernel_rfl) (by kernel_rfl) (by kernel_rfl) (fun h => nomatch (show false = true from h)) (fun h => nomatch (show false = true from h))
theorem tok22 : TOk1 Go.Proofs.Try.prog 22 (tyt22) := TOk1.of (by kernel_rfl) (by kernel_rfl) (by kernel_rfl) (by kernel_rfl) (by kernel_rfl) (by kernel_rfl) (by kernel_rfl) (fun h => nomatch (show false = true from h)) (fun h => nomatch (show false = true from h))
theorem tok26 : TOk1 Go.Proofs.Try.prog 26 (tyt26) := TOk1.of (by kernel_rfl) (by kernel_rfl) (by kernel_rfl) (by kernel_rfl) (by kernel_rfl) (by kernel_rfl) (by kernel_rfl) (fun _ => by kernel_rfl) (fun h => nomatch (show false = true from h))
theorem tok37 : TOk1 Go.Proofs.Try.prog 37 (tyt37) := TOk1.of (by kernel_rfl) (by kernel_rfl) (by kernel_rfl) (by kernel_rfl) (by kernel_rfl) (by kernel_rfl) (by kernel_rfl) (fun h => nomatch (show false = true from h)) (fun h => nomatch (show false = true from h))
theorem tok86 : TOk1 Go.Proofs.Try.prog 86 (tyt86) := TOk1.of (by kernel_rfl) (by kernel_rfl) (by kernel_rfl) (by kernel_rfl) (by kernel_rfl) (by kernel_rfl) (by kernel_rfl) (fun h => nomatch (show false = true from h)) (fun h => nomatch (show false = true from h))
theorem tok99 : TOk1 Go.Proofs.Try.prog 99 (tyt99) := TOk1.of (by kernel_rfl) (by kernel_rfl) (by kernel_rfl) (by kernel_rfl) (by kernel_rfl) (by kernel_rfl) (by kernel_rfl) (fun h => nomatch (show false = true from h)) (fun h => nomatch (show false = true from h))
theorem tok101 : TOk1 Go.Proofs.Try.prog 101 (tyt101) := TOk1.of (by kernel_rfl) (by kernel_rfl) (by kernel_rfl) (by kernel_rfl) (by kernel_rfl) (by kernel_rfl) (by kernel_rfl) (fun _ => by kernel_rfl) (fun h => nomatch (show false = true from h))
theorem tyok : TOk Go.Proofs.Try.prog tyt := TOk.cons tok3 (TOk.cons tok4 (TOk.cons tok5 (TOk.cons tok22 (TOk.cons tok26 (TOk.cons tok37 (TOk.cons tok86 (TOk.cons tok99 (TOk.cons tok101 (TOk.nil _)))))))))
/-! ### laws_vBig: function 25 -/
def laws_vBig.m (k : Nat) (l0 : List Int) : Option (Bool) := (some (decide (65536 < (l0.length : Int))))
def laws_vBig.f (k : Nat) (l0 : List Int) : Option (Bool) := laws_vBig.m k l0
noncomputable def laws_vBig.spec (k : Nat) : FnSpec := ⟨[.d (.sl (.int .u8)) none], [.d .bool none], fun x => laws_vBig.f k x⟩
noncomputable def laws_vBig.T : FnText := ⟨(conv [] (bodyOf Go.Proofs.Try.f25) 0).1, Go.Proofs.Try.f25.results.toList, 6, [], [.d (.sl (.int .u8)) none], [.d .bool none]⟩
noncomputable def laws_vBig.tbl (k : Nat) : Tbl := []
theorem laws_vBig.e (k : Nat) (o : Nat → St → Option (Bool)) (l0 : List Int) : laws_vBig.T.main tyt (laws_vBig.tbl k) o l0 = laws_vBig.m k l0 := by kernel_rfl
theorem laws_vBig.ok : laws_vBig.T.ok = true := by kernel_rfl
theorem laws_vBig.tblok (k : Nat) : TblOk Go.Proofs.Try.prog (laws_vBig.tbl k) := TblOk.nil _
theorem laws_vBig.sound (k : Nat) : Sound Go.Proofs.Try.prog 25 (laws_vBig.spec k) := by
  have h := fn_ok (F := laws_vBig.T) (tbl := laws_vBig.tbl) mixed tyok Go.Proofs.Try.func25 (by kernel_rfl) (c0 := bodyOf Go.Proofs.Try.f25) rfl (conv_code _ _ _) rfl rfl laws_vBig.ok k (fun j _ => laws_vBig.tblok j)
  have e : laws_vBig.spec k = ⟨laws_vBig.T.ps, laws_vBig.T.rs, laws_vBig.T.ev tyt laws_vBig.tbl k⟩ := congrArg (FnSpec.mk _ _) (funext fun x => ((laws_vBig.e k (laws_vBig.T.run tyt laws_vBig.tbl k) x).trans (by rfl)).symm)
  rw [e]
  exact h
/-! ### spec_l1Cur_next: function 240 -/
def spec_l1Cur_next.b2 (k : Nat) (l0_2 : List Int) (x1_2 : Int) (x2_2 : Int) (x3_2 : Int) : Option (Int × List Int × Int × Int) := (if (w64 (x1_2 + 1)) ≤ (l0_2.length : Int) then (some (x3_2, l0_2, (w64 (x1_2 + 1)), (IntKind.u64.wrap ((IntKind.u64.wrap ((IntKind.u64.wrap (x2_2 * 6364136223846793005)) + (IntKind.u64.wrap (x3_2)))) + 102323)))) else ((shr .u64 (IntKind.u64.wrap ((IntKind.u64.wrap ((IntKind.u64.wrap (x2_2 * 6364136223846793005)) + (IntKind.u64.wrap (x3_2)))) + 102323)) 40).bind fun q2 => (some ((w64 ((band .u64 q2 255))), l0_2, (w64 (x1_2 + 1)), (IntKind.u64.wrap ((IntKind.u64.wrap ((IntKind.u64.wrap (x2_2 * 6364136223846793005)) + (IntKind.u64.wrap (x3_2)))) + 102323))))))
def spec_l1Cur_next.l2 : Nat → List Int → Int → Int → Int → Option (Int × List Int × Int × Int)
  | 0, _, _, _, _ => none
  | k + 1, l0_2, x1_2, x2_2, x3_2 => spec_l1Cur_next.b2 k l0_2 x1_2 x2_2 x3_2
def spec_l1Cur_next.m (o2 : List Int → Int → Int → Int → Option (Int × List Int × Int × Int)) (k : Nat) (l0_0 : List Int) (a0_1 : Int) (a0_2 : Int) : Option (Int × List Int × Int × Int) := (if a0_1 < (l0_0.length : Int) then ((chk l0_0.length a0_1).bind fun i1 => (o2 l0_0 a0_1 a0_2 (w64 ((l0_0.getD i1 0))))) else (o2 l0_0 a0_1 a0_2 0))
def spec_l1Cur_next.f (k : Nat) (l0_0 : List Int) (a0_1 : Int) (a0_2 : Int) : Option (Int × List Int × Int × Int) := spec_l1Cur_next.m (spec_l1Cur_next.l2 k) k l0_0 a0_1 a0_2
noncomputable def spec_l1Cur_next.spec (k : Nat) : FnSpec := ⟨[.bx [.d (.sl (.int .u8)) none, .d (.int .i64) none, .d (.int .u64) none]], [.d (.int .i64) none], fun x => spec_l1Cur_next.f k x.1 x.2.1 x.2.2⟩
def spec_l1Cur_next.S2 (l0_2 : List Int) (x1_2 : Int) (x2_2 : Int) (x3_2 : Int) : St := ⟨[(0, .ptr 0 0), (3, .val (.int .i64) x3_2)], [(0, some (.box [.val (.sl (.int .u8)) l0_2, .val (.int .i64) x1_2, .val (.int .u64) x2_2]))], 1000⟩
noncomputable def spec_l1Cur_next.T : FnText := ⟨(conv [2] (bodyOf Go.Proofs.Try.f240) 0).1, Go.Proofs.Try.f240.results.toList, 62, [(2, [(0, .bx 0 [.rd (.sl (.int .u8)), .rd (.int .i64), .rd (.int .u64)]), (3, .rd (.int .i64))])], [.bx [.d (.sl (.int .u8)) none, .d (.int .i64) none, .d (.int .u64) none]], [.d (.int .i64) none]⟩
noncomputable def spec_l1Cur_next.tbl (k : Nat) : Tbl := []
theorem spec_l1Cur_next.e2 (k : Nat) (o : Nat → St → Option (Int × List Int × Int × Int)) (l0_2 : List Int) (x1_2 : Int) (x2_2 : Int) (x3_2 : Int) : spec_l1Cur_next.T.step tyt (spec_l1Cur_next.tbl k) o 2 (spec_l1Cur_next.S2 l0_2 x1_2 x2_2 x3_2) = spec_l1Cur_next.b2 k l0_2 x1_2 x2_2 x3_2 := by kernel_rfl
theorem spec_l1Cur_next.e (k : Nat) (o : Nat → St → Option (Int × List Int × Int × Int)) (l0_0 : List Int) (a0_1 : Int) (a0_2 : Int) : spec_l1Cur_next.T.main tyt (spec_l1Cur_next.tbl k) o (l0_0, a0_1, a0_2) = spec_l1Cur_next.m (fun l0_2 x1_2 x2_2 x3_2 => o 2 (spec_l1Cur_next.S2 l0_2 x1_2 x2_2 x3_2)) k l0_0 a0_1 a0_2 := by kernel_rfl
theorem spec_l1Cur_next.ok : spec_l1Cur_next.T.ok = true := by kernel_rfl
theorem spec_l1Cur_next.run (k : Nat) : (∀ (l0_2 : List Int) (x1_2 : Int) (x2_2 : Int) (x3_2 : Int), spec_l1Cur_next.T.run tyt spec_l1Cur_next.tbl k 2 (spec_l1Cur_next.S2 l0_2 x1_2 x2_2 x3_2) = spec_l1Cur_next.l2 k l0_2 x1_2 x2_2 x3_2) := by
  induction k with
  | zero => exact fun l0_2 x1_2 x2_2 x3_2 => rfl
  | succ k ih =>
    exact fun l0_2 x1_2 x2_2 x3_2 => by
      exact (spec_l1Cur_next.e2 k (spec_l1Cur_next.T.run tyt spec_l1Cur_next.tbl k) l0_2 x1_2 x2_2 x3_2).trans (by rfl)
theorem spec_l1Cur_next.tblok (k : Nat) : TblOk Go.Proofs.Try.prog (spec_l1Cur_next.tbl k) := TblOk.nil _
theorem spec_l1Cur_next.sound (k : Nat) : Sound Go.Proofs.Try.prog 240 (spec_l1Cur_next.spec k) := by
  have h := fn_ok (F := spec_l1Cur_next.T) (tbl := spec_l1Cur_next.tbl) mixed tyok Go.Proofs.Try.func240 (by kernel_rfl) (c0 := bodyOf Go.Proofs.Try.f240) rfl (conv_code _ _ _) rfl rfl spec_l1Cur_next.ok k (fun j _ => spec_l1Cur_next.tblok j)
  have q2 : (fun l0_2 x1_2 x2_2 x3_2 => spec_l1Cur_next.T.run tyt spec_l1Cur_next.tbl k 2 (spec_l1Cur_next.S2 l0_2 x1_2 x2_2 x3_2)) = spec_l1Cur_next.l2 k := by funext l0_2 x1_2 x2_2 x3_2; exact (spec_l1Cur_next.run k) l0_2 x1_2 x2_2 x3_2
  have e : spec_l1Cur_next.spec k = ⟨spec_l1Cur_next.T.ps, spec_l1Cur_next.T.rs, spec_l1Cur_next.T.ev tyt spec_l1Cur_next.tbl k⟩ := congrArg (FnSpec.mk _ _) (funext fun x => ((spec_l1Cur_next.e k (spec_l1Cur_next.T.run tyt spec_l1Cur_next.tbl k) x.1 x.2.1 x.2.2).trans (by rw [q2]; rfl)).symm)
  rw [e]
  exact h
/-! ### spec_l1Cur_pick: function 162 -/
def spec_l1Cur_pick.m (k : Nat) (l0_0 : List Int) (a0_1 : Int) (a0_2 : Int) (a1 : Int) : Option (Int × List Int × Int × Int) := (if a1 ≤ 1 then (some (0, l0_0, a0_1, a0_2)) else ((spec_l1Cur_next.f k l0_0 a0_1 a0_2).bind fun r1 => (if 200 < a1 then ((spec_l1Cur_next.f k r1.2.1 r1.2.2.1 r1.2.2.2).bind fun r2 => ((rem (w64 ((w64 (r1.1 * 256)) + r2.1)) a1).bind fun q3 => (some (q3, r2.2.1, r2.2.2.1, r2.2.2.2)))) else ((rem r1.1 a1).bind fun q4 => (some (q4, r1.2.1, r1.2.2.1, r1.2.2.2))))))
def spec_l1Cur_pick.f (k : Nat) (l0_0 : List Int) (a0_1 : Int) (a0_2 : Int) (a1 : Int) : Option (Int × List Int × Int × Int) := spec_l1Cur_pick.m k l0_0 a0_1 a0_2 a1
noncomputable def spec_l1Cur_pick.spec (k : Nat) : FnSpec := ⟨[.bx [.d (.sl (.int .u8)) none, .d (.int .i64) none, .d (.int .u64) none], .d (.int .i64) none], [.d (.int .i64) none], fun x => spec_l1Cur_pick.f k x.1 x.2.1 x.2.2.1 x.2.2.2⟩
noncomputable def spec_l1Cur_pick.T : FnText := ⟨(conv [] (bodyOf Go.Proofs.Try.f162) 0).1, Go.Proofs.Try.f162.results.toList, 20, [], [.bx [.d (.sl (.int .u8)) none, .d (.int .i64) none, .d (.int .u64) none], .d (.int .i64) none], [.d (.int .i64) none]⟩
noncomputable def spec_l1Cur_pick.tbl (k : Nat) : Tbl := [(240, spec_l1Cur_next.spec k)]
theorem spec_l1Cur_pick.e (k : Nat) (o : Nat → St → Option (Int × List Int × Int × Int)) (l0_0 : List Int) (a0_1 : Int) (a0_2 : Int) (a1 : Int) : spec_l1Cur_pick.T.main tyt (spec_l1Cur_pick.tbl k) o (l0_0, a0_1, a0_2, a1) = spec_l1Cur_pick.m k l0_0 a0_1 a0_2 a1 := by kernel_rfl
theorem spec_l1Cur_pick.ok : spec_l1Cur_pick.T.ok = true := by kernel_rfl
theorem spec_l1Cur_pick.tblok (k : Nat) : TblOk Go.Proofs.Try.prog (spec_l1Cur_pick.tbl k) := TblOk.cons (spec_l1Cur_next.sound k) (TblOk.nil _)
theorem spec_l1Cur_pick.sound (k : Nat) : Sound Go.Proofs.Try.prog 162 (spec_l1Cur_pick.spec k) := by
  have h := fn_ok (F := spec_l1Cur_pick.T) (tbl := spec_l1Cur_pick.tbl) mixed tyok Go.Proofs.Try.func162 (by kernel_rfl) (c0 := bodyOf Go.Proofs.Try.f162) rfl (conv_code _ _ _) rfl rfl spec_l1Cur_pick.ok k (fun j _ => spec_l1Cur_pick.tblok j)
  have e : spec_l1Cur_pick.spec k = ⟨spec_l1Cur_pick.T.ps, spec_l1Cur_pick.T.rs, spec_l1Cur_pick.T.ev tyt spec_l1Cur_pick.tbl k⟩ := congrArg (FnSpec.mk _ _) (funext fun x => ((spec_l1Cur_pick.e k (spec_l1Cur_pick.T.run tyt spec_l1Cur_pick.tbl k) x.1 x.2.1 x.2.2.1 x.2.2.2).trans (by rfl)).symm)
  rw [e]
  exact h
/-! ### spec_l1Cur_among: function 164 -/
def spec_l1Cur_among.m (k : Nat) (l0_0 : List Int) (a0_1 : Int) (a0_2 : Int) (l1 : List Int) : Option (Int × List Int × Int × Int) := ((spec_l1Cur_pick.f k l0_0 a0_1 a0_2 (l1.length : Int)).bind fun r1 => ((chk l1.length r1.1).bind fun i2 => (some ((l1.getD i2 0), r1.2.1, r1.2.2.1, r1.2.2.2))))
def spec_l1Cur_among.f (k : Nat) (l0_0 : List Int) (a0_1 : Int) (a0_2 : Int) (l1 : List Int) : Option (Int × List Int × Int × Int) := spec_l1Cur_among.m k l0_0 a0_1 a0_2 l1
noncomputable def spec_l1Cur_among.spec (k : Nat) : FnSpec := ⟨[.bx [.d (.sl (.int .u8)) none, .d (.int .i64) none, .d (.int .u64) none], .d (.sl (.int .i64)) none], [.d (.int .i64) none], fun x => spec_l1Cur_among.f k x.1 x.2.1 x.2.2.1 x.2.2.2⟩
noncomputable def spec_l1Cur_among.T : FnText := ⟨(conv [] (bodyOf Go.Proofs.Try.f164) 0).1, Go.Proofs.Try.f164.results.toList, 12, [], [.bx [.d (.sl (.int .u8)) none, .d (.int .i64) none, .d (.int .u64) none], .d (.sl (.int .i64)) none], [.d (.int .i64) none]⟩
noncomputable def spec_l1Cur_among.tbl (k : Nat) : Tbl := [(162, spec_l1Cur_pick.spec k)]
theorem spec_l1Cur_among.e (k : Nat) (o : Nat → St → Option (Int × List Int × Int × Int)) (l0_0 : List Int) (a0_1 : Int) (a0_2 : Int) (l1 : List Int) : spec_l1Cur_among.T.main tyt (spec_l1Cur_among.tbl k) o (l0_0, a0_1, a0_2, l1) = spec_l1Cur_among.m k l0_0 a0_1 a0_2 l1 := by kernel_rfl
theorem spec_l1Cur_among.ok : spec_l1Cur_among.T.ok = true := by kernel_rfl
theorem spec_l1Cur_among.tblok (k : Nat) : TblOk Go.Proofs.Try.prog (spec_l1Cur_among.tbl k) := TblOk.cons (spec_l1Cur_pick.sound k) (TblOk.nil _)
theorem spec_l1Cur_among.sound (k : Nat) : Sound Go.Proofs.Try.prog 164 (spec_l1Cur_among.spec k) := by
  have h := fn_ok (F := spec_l1Cur_among.T) (tbl := spec_l1Cur_among.tbl) mixed tyok Go.Proofs.Try.func164 (by kernel_rfl) (c0 := bodyOf Go.Proofs.Try.f164) rfl (conv_code _ _ _) rfl rfl spec_l1Cur_among.ok k (fun j _ => spec_l1Cur_among.tblok j)
  have e : spec_l1Cur_among.spec k = ⟨spec_l1Cur_among.T.ps, spec_l1Cur_among.T.rs, spec_l1Cur_among.T.ev tyt spec_l1Cur_among.tbl k⟩ := congrArg (FnSpec.mk _ _) (funext fun x => ((spec_l1Cur_among.e k (spec_l1Cur_among.T.run tyt spec_l1Cur_among.tbl k) x.1 x.2.1 x.2.2.1 x.2.2.2).trans (by rfl)).symm)
  rw [e]
  exact h
/-! ### spec_l1Cur_among_2: function 164 -/
def spec_l1Cur_among_2.m (k : Nat) (l0_0 : List Int) (a0_1 : Int) (a0_2 : Int) (l1 : List Int) : Option (Int × List Int × Int × Int × List Int) := ((spec_l1Cur_pick.f k l0_0 a0_1 a0_2 (l1.length : Int)).bind fun r1 => ((chk l1.length r1.1).bind fun i2 => (some ((l1.getD i2 0), r1.2.1, r1.2.2.1, r1.2.2.2, l1))))
def spec_l1Cur_among_2.f (k : Nat) (l0_0 : List Int) (a0_1 : Int) (a0_2 : Int) (l1 : List Int) : Option (Int × List Int × Int × Int × List Int) := spec_l1Cur_among_2.m k l0_0 a0_1 a0_2 l1
noncomputable def spec_l1Cur_among_2.spec (k : Nat) : FnSpec := ⟨[.bx [.d (.sl (.int .u8)) none, .d (.int .i64) none, .d (.int .u64) none], .io 3 (.int .i64)], [.d (.int .i64) none], fun x => spec_l1Cur_among_2.f k x.1 x.2.1 x.2.2.1 x.2.2.2⟩
noncomputable def spec_l1Cur_among_2.T : FnText := ⟨(conv [] (bodyOf Go.Proofs.Try.f164) 0).1, Go.Proofs.Try.f164.results.toList, 12, [], [.bx [.d (.sl (.int .u8)) none, .d (.int .i64) none, .d (.int .u64) none], .io 3 (.int .i64)], [.d (.int .i64) none]⟩
noncomputable def spec_l1Cur_among_2.tbl (k : Nat) : Tbl := [(162, spec_l1Cur_pick.spec k)]
theorem spec_l1Cur_among_2.e (k : Nat) (o : Nat → St → Option (Int × List Int × Int × Int × List Int)) (l0_0 : List Int) (a0_1 : Int) (a0_2 : Int) (l1 : List Int) : spec_l1Cur_among_2.T.main tyt (spec_l1Cur_among_2.tbl k) o (l0_0, a0_1, a0_2, l1) = spec_l1Cur_among_2.m k l0_0 a0_1 a0_2 l1 := by kernel_rfl
theorem spec_l1Cur_among_2.ok : spec_l1Cur_among_2.T.ok = true := by kernel_rfl
theorem spec_l1Cur_among_2.tblok (k : Nat) : TblOk Go.Proofs.Try.prog (spec_l1Cur_among_2.tbl k) := TblOk.cons (spec_l1Cur_pick.sound k) (TblOk.nil _)
theorem spec_l1Cur_among_2.sound (k : Nat) : Sound Go.Proofs.Try.prog 164 (spec_l1Cur_among_2.spec k) := by
  have h := fn_ok (F := spec_l1Cur_among_2.T) (tbl := spec_l1Cur_among_2.tbl) mixed tyok Go.Proofs.Try.func164 (by kernel_rfl) (c0 := bodyOf Go.Proofs.Try.f164) rfl (conv_code _ _ _) rfl rfl spec_l1Cur_among_2.ok k (fun j _ => spec_l1Cur_among_2.tblok j)
  have e : spec_l1Cur_among_2.spec k = ⟨spec_l1Cur_among_2.T.ps, spec_l1Cur_among_2.T.rs, spec_l1Cur_among_2.T.ev tyt spec_l1Cur_among_2.tbl k⟩ := congrArg (FnSpec.mk _ _) (funext fun x => ((spec_l1Cur_among_2.e k (spec_l1Cur_among_2.T.run tyt spec_l1Cur_among_2.tbl k) x.1 x.2.1 x.2.2.1 x.2.2.2).trans (by rfl)).symm)
  rw [e]
  exact h
/-! ### spec_l1Cur_one: function 173 -/
def spec_l1Cur_one.m (k : Nat) (l0_0 : List Int) (a0_1 : Int) (a0_2 : Int) (a1 : Int) : Option (Bool × List Int × Int × Int) := ((spec_l1Cur_pick.f k l0_0 a0_1 a0_2 a1).bind fun r1 => (some ((decide (r1.1 = 0)), r1.2.1, r1.2.2.1, r1.2.2.2)))
def spec_l1Cur_one.f (k : Nat) (l0_0 : List Int) (a0_1 : Int) (a0_2 : Int) (a1 : Int) : Option (Bool × List Int × Int × Int) := spec_l1Cur_one.m k l0_0 a0_1 a0_2 a1
noncomputable def spec_l1Cur_one.spec (k : Nat) : FnSpec := ⟨[.bx [.d (.sl (.int .u8)) none, .d (.int .i64) none, .d (.int .u64) none], .d (.int .i64) none], [.d .bool none], fun x => spec_l1Cur_one.f k x.1 x.2.1 x.2.2.1 x.2.2.2⟩
noncomputable def spec_l1Cur_one.T : FnText := ⟨(conv [] (bodyOf Go.Proofs.Try.f173) 0).1, Go.Proofs.Try.f173.results.toList, 9, [], [.bx [.d (.sl (.int .u8)) none, .d (.int .i64) none, .d (.int .u64) none], .d (.int .i64) none], [.d .bool none]⟩
noncomputable def spec_l1Cur_one.tbl (k : Nat) : Tbl := [(162, spec_l1Cur_pick.spec k)]
theorem spec_l1Cur_one.e (k : Nat) (o : Nat → St → Option (Bool × List Int × Int × Int)) (l0_0 : List Int) (a0_1 : Int) (a0_2 : Int) (a1 : Int) : spec_l1Cur_one.T.main tyt (spec_l1Cur_one.tbl k) o (l0_0, a0_1, a0_2, a1) = spec_l1Cur_one.m k l0_0 a0_1 a0_2 a1 := by kernel_rfl
theorem spec_l1Cur_one.ok : spec_l1Cur_one.T.ok = true := by kernel_rfl
theorem spec_l1Cur_one.tblok (k : Nat) : TblOk Go.Proofs.Try.prog (spec_l1Cur_one.tbl k) := TblOk.cons (spec_l1Cur_pick.sound k) (TblOk.nil _)
theorem spec_l1Cur_one.sound (k : Nat) : Sound Go.Proofs.Try.prog 173 (spec_l1Cur_one.spec k) := by
  have h := fn_ok (F := spec_l1Cur_one.T) (tbl := spec_l1Cur_one.tbl) mixed tyok Go.Proofs.Try.func173 (by kernel_rfl) (c0 := bodyOf Go.Proofs.Try.f173) rfl (conv_code _ _ _) rfl rfl spec_l1Cur_one.ok k (fun j _ => spec_l1Cur_one.tblok j)
  have e : spec_l1Cur_one.spec k = ⟨spec_l1Cur_one.T.ps, spec_l1Cur_one.T.rs, spec_l1Cur_one.T.ev tyt spec_l1Cur_one.tbl k⟩ := congrArg (FnSpec.mk _ _) (funext fun x => ((spec_l1Cur_one.e k (spec_l1Cur_one.T.run tyt spec_l1Cur_one.tbl k) x.1 x.2.1 x.2.2.1 x.2.2.2).trans (by rfl)).symm)
  rw [e]
  exact h
/-! ### spec_l1Cur_plain: function 172 -/
def spec_l1Cur_plain.b4 (o4 : List Int → Int → Int → Int → Int → Int → Int → List Int → Int → Int → List Int → Int → Option (Int × Int × List Int × List Int × Int × Int)) (k : Nat) (l0_4 : List Int) (x1_4 : Int) (x2_4 : Int) (x3_4 : Int) (x4_4 : Int) (x5_4 : Int) (x6_4 : Int) (l7_4 : List Int) (x8_4 : Int) (x9_4 : Int) (l10_4 : List Int) (x11_4 : Int) : Option (Int × Int × List Int × List Int × Int × Int) := (if x11_4 < (w64 (x3_4 * x4_4)) then ((spec_l1Cur_among_2.f k l0_4 x1_4 x2_4 [0, 0, 0, 1, 1, 2, 5]).bind fun r1 => (if x3_4 ≤ x11_4 then ((spec_l1Cur_one.f k r1.2.1 r1.2.2.1 r1.2.2.2.1 3).bind fun r2 => (cond r2.1 ((chk l10_4.length (w64 (x11_4 - x3_4))).bind fun i3 => ((app 17592186044416 l10_4 [(l10_4.getD i3 0)]).bind fun l4 => (o4 r2.2.1 r2.2.2.1 r2.2.2.2 x3_4 x4_4 x5_4 x6_4 l7_4 x8_4 x9_4 l4 (w64 (x11_4 + 1))))) ((app 17592186044416 l10_4 [r1.1]).bind fun l5 => (o4 r2.2.1 r2.2.2.1 r2.2.2.2 x3_4 x4_4 x5_4 x6_4 l7_4 x8_4 x9_4 l5 (w64 (x11_4 + 1)))))) else ((app 17592186044416 l10_4 [r1.1]).bind fun l6 => (o4 r1.2.1 r1.2.2.1 r1.2.2.2.1 x3_4 x4_4 x5_4 x6_4 l7_4 x8_4 x9_4 l6 (w64 (x11_4 + 1)))))) else (some (x8_4, x9_4, l10_4, l0_4, x1_4, x2_4)))
def spec_l1Cur_plain.l4 : Nat → List Int → Int → Int → Int → Int → Int → Int → List Int → Int → Int → List Int → Int → Option (Int × Int × List Int × List Int × Int × Int)
  | 0, _, _, _, _, _, _, _, _, _, _, _, _ => none
  | k + 1, l0_4, x1_4, x2_4, x3_4, x4_4, x5_4, x6_4, l7_4, x8_4, x9_4, l10_4, x11_4 => spec_l1Cur_plain.b4 (spec_l1Cur_plain.l4 k) k l0_4 x1_4 x2_4 x3_4 x4_4 x5_4 x6_4 l7_4 x8_4 x9_4 l10_4 x11_4
def spec_l1Cur_plain.m (o4 : List Int → Int → Int → Int → Int → Int → Int → List Int → Int → Int → List Int → Int → Option (Int × Int × List Int × List Int × Int × Int)) (k : Nat) (l0_0 : List Int) (a0_1 : Int) (a0_2 : Int) (a1 : Int) (a2 : Int) : Option (Int × Int × List Int × List Int × Int × Int) := (o4 l0_0 a0_1 a0_2 a1 a2 0 0 [] a1 a2 ([] : List (Int)) 0)
def spec_l1Cur_plain.f (k : Nat) (l0_0 : List Int) (a0_1 : Int) (a0_2 : Int) (a1 : Int) (a2 : Int) : Option (Int × Int × List Int × List Int × Int × Int) := spec_l1Cur_plain.m (spec_l1Cur_plain.l4 k) k l0_0 a0_1 a0_2 a1 a2
noncomputable def spec_l1Cur_plain.spec (k : Nat) : FnSpec := ⟨[.bx [.d (.sl (.int .u8)) none, .d (.int .i64) none, .d (.int .u64) none], .d (.int .i64) none, .d (.int .i64) none], [.ag [.d (.int .i64) none, .d (.int .i64) none, .d (.sl (.int .i64)) (some 3)]], fun x => spec_l1Cur_plain.f k x.1 x.2.1 x.2.2.1 x.2.2.2.1 x.2.2.2.2⟩
def spec_l1Cur_plain.S4 (l0_4 : List Int) (x1_4 : Int) (x2_4 : Int) (x3_4 : Int) (x4_4 : Int) (x5_4 : Int) (x6_4 : Int) (l7_4 : List Int) (x8_4 : Int) (x9_4 : Int) (l10_4 : List Int) (x11_4 : Int) : St := ⟨[(0, .ptr 0 0), (1, .val (.int .i64) x3_4), (2, .val (.int .i64) x4_4), (6, .ptr 100 0), (7, .ptr 101 0), (8, .val (.int .i64) x11_4)], [(101, some (.box [.val (.int .i64) x8_4, .val (.int .i64) x9_4, .ref 102])), (102, some (.row 3 (.int .i64) l10_4)), (100, some (.box [.val (.int .i64) x5_4, .val (.int .i64) x6_4, .val (.sl (.int .i64)) l7_4])), (0, some (.box [.val (.sl (.int .u8)) l0_4, .val (.int .i64) x1_4, .val (.int .u64) x2_4]))], 1000⟩
noncomputable def spec_l1Cur_plain.T : FnText := ⟨(conv [] (bodyOf Go.Proofs.Try.f172) 0).1, Go.Proofs.Try.f172.results.toList, 45, [(4, [(0, .bx 0 [.rd (.sl (.int .u8)), .rd (.int .i64), .rd (.int .u64)]), (1, .rd (.int .i64)), (2, .rd (.int .i64)), (6, .bx 100 [.rd (.int .i64), .rd (.int .i64), .rd (.sl (.int .i64))]), (7, .bx 101 [.rd (.int .i64), .rd (.int .i64), .own 3 (.int .i64) 102]), (8, .rd (.int .i64))])], [.bx [.d (.sl (.int .u8)) none, .d (.int .i64) none, .d (.int .u64) none], .d (.int .i64) none, .d (.int .i64) none], [.ag [.d (.int .i64) none, .d (.int .i64) none, .d (.sl (.int .i64)) (some 3)]]⟩
noncomputable def spec_l1Cur_plain.tbl (k : Nat) : Tbl := [(164, spec_l1Cur_among_2.spec k), (173, spec_l1Cur_one.spec k)]
theorem spec_l1Cur_plain.e4 (k : Nat) (o : Nat → St → Option (Int × Int × List Int × List Int × Int × Int)) (l0_4 : List Int) (x1_4 : Int) (x2_4 : Int) (x3_4 : Int) (x4_4 : Int) (x5_4 : Int) (x6_4 : Int) (l7_4 : List Int) (x8_4 : Int) (x9_4 : Int) (l10_4 : List Int) (x11_4 : Int) : spec_l1Cur_plain.T.step tyt (spec_l1Cur_plain.tbl k) o 4 (spec_l1Cur_plain.S4 l0_4 x1_4 x2_4 x3_4 x4_4 x5_4 x6_4 l7_4 x8_4 x9_4 l10_4 x11_4) = spec_l1Cur_plain.b4 (fun l0_4 x1_4 x2_4 x3_4 x4_4 x5_4 x6_4 l7_4 x8_4 x9_4 l10_4 x11_4 => o 4 (spec_l1Cur_plain.S4 l0_4 x1_4 x2_4 x3_4 x4_4 x5_4 x6_4 l7_4 x8_4 x9_4 l10_4 x11_4)) k l0_4 x1_4 x2_4 x3_4 x4_4 x5_4 x6_4 l7_4 x8_4 x9_4 l10_4 x11_4 := by kernel_rfl
theorem spec_l1Cur_plain.e (k : Nat) (o : Nat → St → Option (Int × Int × List Int × List Int × Int × Int)) (l0_0 : List Int) (a0_1 : Int) (a0_2 : Int) (a1 : Int) (a2 : Int) : spec_l1Cur_plain.T.main tyt (spec_l1Cur_plain.tbl k) o (l0_0, a0_1, a0_2, a1, a2) = spec_l1Cur_plain.m (fun l0_4 x1_4 x2_4 x3_4 x4_4 x5_4 x6_4 l7_4 x8_4 x9_4 l10_4 x11_4 => o 4 (spec_l1Cur_plain.S4 l0_4 x1_4 x2_4 x3_4 x4_4 x5_4 x6_4 l7_4 x8_4 x9_4 l10_4 x11_4)) k l0_0 a0_1 a0_2 a1 a2 := by kernel_rfl
theorem spec_l1Cur_plain.ok : spec_l1Cur_plain.T.ok = true := by kernel_rfl
theorem spec_l1Cur_plain.run (k : Nat) : (∀ (l0_4 : List Int) (x1_4 : Int) (x2_4 : Int) (x3_4 : Int) (x4_4 : Int) (x5_4 : Int) (x6_4 : Int) (l7_4 : List Int) (x8_4 : Int) (x9_4 : Int) (l10_4 : List Int) (x11_4 : Int), spec_l1Cur_plain.T.run tyt spec_l1Cur_plain.tbl k 4 (spec_l1Cur_plain.S4 l0_4 x1_4 x2_4 x3_4 x4_4 x5_4 x6_4 l7_4 x8_4 x9_4 l10_4 x11_4) = spec_l1Cur_plain.l4 k l0_4 x1_4 x2_4 x3_4 x4_4 x5_4 x6_4 l7_4 x8_4 x9_4 l10_4 x11_4) := by
  induction k with
  | zero => exact fun l0_4 x1_4 x2_4 x3_4 x4_4 x5_4 x6_4 l7_4 x8_4 x9_4 l10_4 x11_4 => rfl
  | succ k ih =>
    exact fun l0_4 x1_4 x2_4 x3_4 x4_4 x5_4 x6_4 l7_4 x8_4 x9_4 l10_4 x11_4 => by
      have q4 : (fun l0_4 x1_4 x2_4 x3_4 x4_4 x5_4 x6_4 l7_4 x8_4 x9_4 l10_4 x11_4 => spec_l1Cur_plain.T.run tyt spec_l1Cur_plain.tbl k 4 (spec_l1Cur_plain.S4 l0_4 x1_4 x2_4 x3_4 x4_4 x5_4 x6_4 l7_4 x8_4 x9_4 l10_4 x11_4)) = spec_l1Cur_plain.l4 k := by funext l0_4 x1_4 x2_4 x3_4 x4_4 x5_4 x6_4 l7_4 x8_4 x9_4 l10_4 x11_4; exact ih l0_4 x1_4 x2_4 x3_4 x4_4 x5_4 x6_4 l7_4 x8_4 x9_4 l10_4 x11_4
      exact (spec_l1Cur_plain.e4 k (spec_l1Cur_plain.T.run tyt spec_l1Cur_plain.tbl k) l0_4 x1_4 x2_4 x3_4 x4_4 x5_4 x6_4 l7_4 x8_4 x9_4 l10_4 x11_4).trans (by rw [q4]; rfl)
theorem spec_l1Cur_plain.tblok (k : Nat) : TblOk Go.Proofs.Try.prog (spec_l1Cur_plain.tbl k) := TblOk.cons (spec_l1Cur_among_2.sound k) (TblOk.cons (spec_l1Cur_one.sound k) (TblOk.nil _))
theorem spec_l1Cur_plain.sound (k : Nat) : Sound Go.Proofs.Try.prog 172 (spec_l1Cur_plain.spec k) := by
  have h := fn_ok (F := spec_l1Cur_plain.T) (tbl := spec_l1Cur_plain.tbl) mixed tyok Go.Proofs.Try.func172 (by kernel_rfl) (c0 := bodyOf Go.Proofs.Try.f172) rfl (conv_code _ _ _) rfl rfl spec_l1Cur_plain.ok k (fun j _ => spec_l1Cur_plain.tblok j)
  have q4 : (fun l0_4 x1_4 x2_4 x3_4 x4_4 x5_4 x6_4 l7_4 x8_4 x9_4 l10_4 x11_4 => spec_l1Cur_plain.T.run tyt spec_l1Cur_plain.tbl k 4 (spec_l1Cur_plain.S4 l0_4 x1_4 x2_4 x3_4 x4_4 x5_4 x6_4 l7_4 x8_4 x9_4 l10_4 x11_4)) = spec_l1Cur_plain.l4 k := by funext l0_4 x1_4 x2_4 x3_4 x4_4 x5_4 x6_4 l7_4 x8_4 x9_4 l10_4 x11_4; exact (spec_l1Cur_plain.run k) l0_4 x1_4 x2_4 x3_4 x4_4 x5_4 x6_4 l7_4 x8_4 x9_4 l10_4 x11_4
  have e : spec_l1Cur_plain.spec k = ⟨spec_l1Cur_plain.T.ps, spec_l1Cur_plain.T.rs, spec_l1Cur_plain.T.ev tyt spec_l1Cur_plain.tbl k⟩ := congrArg (FnSpec.mk _ _) (funext fun x => ((spec_l1Cur_plain.e k (spec_l1Cur_plain.T.run tyt spec_l1Cur_plain.tbl k) x.1 x.2.1 x.2.2.1 x.2.2.2.1 x.2.2.2.2).trans (by rw [q4]; rfl)).symm)
  rw [e]
  exact h
/-! ### spec_l1Cur_chart: function 153 -/
def spec_l1Cur_chart.m (k : Nat) (l0_0 : List Int) (a0_1 : Int) (a0_2 : Int) : Option (Int × Int × List Int × List Int × Int × Int) := ((spec_l1Cur_among_2.f k l0_0 a0_1 a0_2 [1, 2, 3, 3, 4, 4, 5, 6, 8]).bind fun r1 => ((spec_l1Cur_among_2.f k r1.2.1 r1.2.2.1 r1.2.2.2.1 [1, 2, 3, 3, 4, 5, 8]).bind fun r2 => ((spec_l1Cur_plain.f k r2.2.1 r2.2.2.1 r2.2.2.2.1 r1.1 r2.1).bind fun r3 => ((spec_l1Cur_pick.f k r3.2.2.2.1 r3.2.2.2.2.1 r3.2.2.2.2.2 40).bind fun r4 => (if r4.1 = 0 then ((spec_l1Cur_pick.f k r4.2.1 r4.2.2.1 r4.2.2.2 (r3.2.2.1.length : Int)).bind fun r5 => ((spec_l1Cur_among_2.f k r5.2.1 r5.2.2.1 r5.2.2.2 [(-1), 6]).bind fun r6 => ((chk r3.2.2.1.length r5.1).bind fun i7 => (some (r3.1, r3.2.1, (r3.2.2.1.set i7 r6.1), r6.2.1, r6.2.2.1, r6.2.2.2.1))))) else (if r4.1 = 1 then ((app 17592186044416 r3.2.2.1 [0]).bind fun l9 => (some (r3.1, r3.2.1, l9, r4.2.1, r4.2.2.1, r4.2.2.2))) else (if r4.1 = 2 then ((spec_l1Cur_among_2.f k r4.2.1 r4.2.2.1 r4.2.2.2 [0, 9]).bind fun r10 => ((spec_l1Cur_plain.f k r10.2.1 r10.2.2.1 r10.2.2.2.1 r10.1 1).bind fun r11 => (some (r11.1, r11.2.1, r11.2.2.1, r11.2.2.2.1, r11.2.2.2.2.1, r11.2.2.2.2.2)))) else (some (r3.1, r3.2.1, r3.2.2.1, r4.2.1, r4.2.2.1, r4.2.2.2)))))))))
def spec_l1Cur_chart.f (k : Nat) (l0_0 : List Int) (a0_1 : Int) (a0_2 : Int) : Option (Int × Int × List Int × List Int × Int × Int) := spec_l1Cur_chart.m k l0_0 a0_1 a0_2
noncomputable def spec_l1Cur_chart.spec (k : Nat) : FnSpec := ⟨[.bx [.d (.sl (.int .u8)) none, .d (.int .i64) none, .d (.int .u64) none]], [.ag [.d (.int .i64) none, .d (.int .i64) none, .d (.sl (.int .i64)) (some 3)]], fun x => spec_l1Cur_chart.f k x.1 x.2.1 x.2.2⟩
noncomputable def spec_l1Cur_chart.T : FnText := ⟨(conv [] (bodyOf Go.Proofs.Try.f153) 0).1, Go.Proofs.Try.f153.results.toList, 42, [], [.bx [.d (.sl (.int .u8)) none, .d (.int .i64) none, .d (.int .u64) none]], [.ag [.d (.int .i64) none, .d (.int .i64) none, .d (.sl (.int .i64)) (some 3)]]⟩
noncomputable def spec_l1Cur_chart.tbl (k : Nat) : Tbl := [(164, spec_l1Cur_among_2.spec k), (172, spec_l1Cur_plain.spec k), (162, spec_l1Cur_pick.spec k)]
theorem spec_l1Cur_chart.e (k : Nat) (o : Nat → St → Option (Int × Int × List Int × List Int × Int × Int)) (l0_0 : List Int) (a0_1 : Int) (a0_2 : Int) : spec_l1Cur_chart.T.main tyt (spec_l1Cur_chart.tbl k) o (l0_0, a0_1, a0_2) = spec_l1Cur_chart.m k l0_0 a0_1 a0_2 := by kernel_rfl
theorem spec_l1Cur_chart.ok : spec_l1Cur_chart.T.ok = true := by kernel_rfl
theorem spec_l1Cur_chart.tblok (k : Nat) : TblOk Go.Proofs.Try.prog (spec_l1Cur_chart.tbl k) := TblOk.cons (spec_l1Cur_among_2.sound k) (TblOk.cons (spec_l1Cur_plain.sound k) (TblOk.cons (spec_l1Cur_pick.sound k) (TblOk.nil _)))
theorem spec_l1Cur_chart.sound (k : Nat) : Sound Go.Proofs.Try.prog 153 (spec_l1Cur_chart.spec k) := by
  have h := fn_ok (F := spec_l1Cur_chart.T) (tbl := spec_l1Cur_chart.tbl) mixed tyok Go.Proofs.Try.func153 (by kernel_rfl) (c0 := bodyOf Go.Proofs.Try.f153) rfl (conv_code _ _ _) rfl rfl spec_l1Cur_chart.ok k (fun j _ => spec_l1Cur_chart.tblok j)
  have e : spec_l1Cur_chart.spec k = ⟨spec_l1Cur_chart.T.ps, spec_l1Cur_chart.T.rs, spec_l1Cur_chart.T.ev tyt spec_l1Cur_chart.tbl k⟩ := congrArg (FnSpec.mk _ _) (funext fun x => ((spec_l1Cur_chart.e k (spec_l1Cur_chart.T.run tyt spec_l1Cur_chart.tbl k) x.1 x.2.1 x.2.2).trans (by rfl)).symm)
  rw [e]
  exact h
/-! ### spec_l1Cur_pattern8: function 208 -/
def spec_l1Cur_pattern8.b4 (o4 : List Int → Int → Int → List Int → Int → Option (List Int × List Int × Int × Int)) (o13 : List Int → Int → Int → List Int → Option (List Int × List Int × Int × Int)) (k : Nat) (l0_4 : List Int) (x1_4 : Int) (x2_4 : Int) (l3_4 : List Int) (x4_4 : Int) : Option (List Int × List Int × Int × Int) := (if 0 < x4_4 then ((spec_l1Cur_among_2.f k l0_4 x1_4 x2_4 [0, 1, 2, 5]).bind fun r2 => ((app 17592186044416 l3_4 [r2.1]).bind fun l3 => (o4 r2.2.1 r2.2.2.1 r2.2.2.2.1 l3 (w64 (x4_4 - 1))))) else ((spec_l1Cur_pick.f k l0_4 x1_4 x2_4 32).bind fun r4 => (if r4.1 = 0 then ((spec_l1Cur_among_2.f k r4.2.1 r4.2.2.1 r4.2.2.2 [6, (-1)]).bind fun r5 => ((app 17592186044416 l3_4 [r5.1]).bind fun l6 => (some (l6, r5.2.1, r5.2.2.1, r5.2.2.2.1)))) else (if r4.1 = 1 then (some (([] : List (Int)), r4.2.1, r4.2.2.1, r4.2.2.2)) else (if r4.1 = 2 then (o13 r4.2.1 r4.2.2.1 r4.2.2.2 l3_4) else (some (l3_4, r4.2.1, r4.2.2.1, r4.2.2.2)))))))
def spec_l1Cur_pattern8.b13 (o13 : List Int → Int → Int → List Int → Option (List Int × List Int × Int × Int)) (k : Nat) (l0_13 : List Int) (x1_13 : Int) (x2_13 : Int) (l3_13 : List Int) : Option (List Int × List Int × Int × Int) := ((spec_l1Cur_pick.f k l0_13 x1_13 x2_13 2).bind fun r7 => (if (l3_13.length : Int) < (w64 (8 + r7.1)) then ((app 17592186044416 l3_13 [1]).bind fun l8 => (o13 r7.2.1 r7.2.2.1 r7.2.2.2 l8)) else (some (l3_13, r7.2.1, r7.2.2.1, r7.2.2.2))))
mutual
def spec_l1Cur_pattern8.l4 : Nat → List Int → Int → Int → List Int → Int → Option (List Int × List Int × Int × Int)
  | 0, _, _, _, _, _ => none
  | k + 1, l0_4, x1_4, x2_4, l3_4, x4_4 => spec_l1Cur_pattern8.b4 (spec_l1Cur_pattern8.l4 k) (spec_l1Cur_pattern8.l13 k) k l0_4 x1_4 x2_4 l3_4 x4_4
def spec_l1Cur_pattern8.l13 : Nat → List Int → Int → Int → List Int → Option (List Int × List Int × Int × Int)
  | 0, _, _, _, _ => none
  | k + 1, l0_13, x1_13, x2_13, l3_13 => spec_l1Cur_pattern8.b13 (spec_l1Cur_pattern8.l13 k) k l0_13 x1_13 x2_13 l3_13
end
def spec_l1Cur_pattern8.m (o4 : List Int → Int → Int → List Int → Int → Option (List Int × List Int × Int × Int)) (k : Nat) (l0_0 : List Int) (a0_1 : Int) (a0_2 : Int) : Option (List Int × List Int × Int × Int) := ((spec_l1Cur_among_2.f k l0_0 a0_1 a0_2 [1, 2, 2, 3, 4, 4, 6, 8]).bind fun r1 => (o4 r1.2.1 r1.2.2.1 r1.2.2.2.1 ([] : List (Int)) r1.1))
def spec_l1Cur_pattern8.f (k : Nat) (l0_0 : List Int) (a0_1 : Int) (a0_2 : Int) : Option (List Int × List Int × Int × Int) := spec_l1Cur_pattern8.m (spec_l1Cur_pattern8.l4 k) k l0_0 a0_1 a0_2
noncomputable def spec_l1Cur_pattern8.spec (k : Nat) : FnSpec := ⟨[.bx [.d (.sl (.int .u8)) none, .d (.int .i64) none, .d (.int .u64) none]], [.d (.sl (.int .i64)) (some 3)], fun x => spec_l1Cur_pattern8.f k x.1 x.2.1 x.2.2⟩
def spec_l1Cur_pattern8.S4 (l0_4 : List Int) (x1_4 : Int) (x2_4 : Int) (l3_4 : List Int) (x4_4 : Int) : St := ⟨[(0, .ptr 0 0), (3, .ref 100), (4, .val (.int .i64) x4_4)], [(100, some (.row 3 (.int .i64) l3_4)), (0, some (.box [.val (.sl (.int .u8)) l0_4, .val (.int .i64) x1_4, .val (.int .u64) x2_4]))], 1000⟩
def spec_l1Cur_pattern8.S13 (l0_13 : List Int) (x1_13 : Int) (x2_13 : Int) (l3_13 : List Int) : St := ⟨[(0, .ptr 0 0), (3, .ref 100)], [(100, some (.row 3 (.int .i64) l3_13)), (0, some (.box [.val (.sl (.int .u8)) l0_13, .val (.int .i64) x1_13, .val (.int .u64) x2_13]))], 1000⟩
noncomputable def spec_l1Cur_pattern8.T : FnText := ⟨(conv [] (bodyOf Go.Proofs.Try.f208) 0).1, Go.Proofs.Try.f208.results.toList, 44, [(4, [(0, .bx 0 [.rd (.sl (.int .u8)), .rd (.int .i64), .rd (.int .u64)]), (3, .own 3 (.int .i64) 100), (4, .rd (.int .i64))]), (13, [(0, .bx 0 [.rd (.sl (.int .u8)), .rd (.int .i64), .rd (.int .u64)]), (3, .own 3 (.int .i64) 100)])], [.bx [.d (.sl (.int .u8)) none, .d (.int .i64) none, .d (.int .u64) none]], [.d (.sl (.int .i64)) (some 3)]⟩
noncomputable def spec_l1Cur_pattern8.tbl (k : Nat) : Tbl := [(164, spec_l1Cur_among_2.spec k), (162, spec_l1Cur_pick.spec k)]
theorem spec_l1Cur_pattern8.e4 (k : Nat) (o : Nat → St → Option (List Int × List Int × Int × Int)) (l0_4 : List Int) (x1_4 : Int) (x2_4 : Int) (l3_4 : List Int) (x4_4 : Int) : spec_l1Cur_pattern8.T.step tyt (spec_l1Cur_pattern8.tbl k) o 4 (spec_l1Cur_pattern8.S4 l0_4 x1_4 x2_4 l3_4 x4_4) = spec_l1Cur_pattern8.b4 (fun l0_4 x1_4 x2_4 l3_4 x4_4 => o 4 (spec_l1Cur_pattern8.S4 l0_4 x1_4 x2_4 l3_4 x4_4)) (fun l0_13 x1_13 x2_13 l3_13 => o 13 (spec_l1Cur_pattern8.S13 l0_13 x1_13 x2_13 l3_13)) k l0_4 x1_4 x2_4 l3_4 x4_4 := by kernel_rfl
theorem spec_l1Cur_pattern8.e13 (k : Nat) (o : Nat → St → Option (List Int × List Int × Int × Int)) (l0_13 : List Int) (x1_13 : Int) (x2_13 : Int) (l3_13 : List Int) : spec_l1Cur_pattern8.T.step tyt (spec_l1Cur_pattern8.tbl k) o 13 (spec_l1Cur_pattern8.S13 l0_13 x1_13 x2_13 l3_13) = spec_l1Cur_pattern8.b13 (fun l0_13 x1_13 x2_13 l3_13 => o 13 (spec_l1Cur_pattern8.S13 l0_13 x1_13 x2_13 l3_13)) k l0_13 x1_13 x2_13 l3_13 := by kernel_rfl
theorem spec_l1Cur_pattern8.e (k : Nat) (o : Nat → St → Option (List Int × List Int × Int × Int)) (l0_0 : List Int) (a0_1 : Int) (a0_2 : Int) : spec_l1Cur_pattern8.T.main tyt (spec_l1Cur_pattern8.tbl k) o (l0_0, a0_1, a0_2) = spec_l1Cur_pattern8.m (fun l0_4 x1_4 x2_4 l3_4 x4_4 => o 4 (spec_l1Cur_pattern8.S4 l0_4 x1_4 x2_4 l3_4 x4_4)) k l0_0 a0_1 a0_2 := by kernel_rfl
theorem spec_l1Cur_pattern8.ok : spec_l1Cur_pattern8.T.ok = true := by kernel_rfl
theorem spec_l1Cur_pattern8.run (k : Nat) : (∀ (l0_4 : List Int) (x1_4 : Int) (x2_4 : Int) (l3_4 : List Int) (x4_4 : Int), spec_l1Cur_pattern8.T.run tyt spec_l1Cur_pattern8.tbl k 4 (spec_l1Cur_pattern8.S4 l0_4 x1_4 x2_4 l3_4 x4_4) = spec_l1Cur_pattern8.l4 k l0_4 x1_4 x2_4 l3_4 x4_4) ∧ (∀ (l0_13 : List Int) (x1_13 : Int) (x2_13 : Int) (l3_13 : List Int), spec_l1Cur_pattern8.T.run tyt spec_l1Cur_pattern8.tbl k 13 (spec_l1Cur_pattern8.S13 l0_13 x1_13 x2_13 l3_13) = spec_l1Cur_pattern8.l13 k l0_13 x1_13 x2_13 l3_13) := by
  induction k with
  | zero => exact ⟨fun l0_4 x1_4 x2_4 l3_4 x4_4 => rfl, fun l0_13 x1_13 x2_13 l3_13 => rfl⟩
  | succ k ih =>
    exact ⟨fun l0_4 x1_4 x2_4 l3_4 x4_4 => by
      have q4 : (fun l0_4 x1_4 x2_4 l3_4 x4_4 => spec_l1Cur_pattern8.T.run tyt spec_l1Cur_pattern8.tbl k 4 (spec_l1Cur_pattern8.S4 l0_4 x1_4 x2_4 l3_4 x4_4)) = spec_l1Cur_pattern8.l4 k := by funext l0_4 x1_4 x2_4 l3_4 x4_4; exact ih.1 l0_4 x1_4 x2_4 l3_4 x4_4
      have q13 : (fun l0_13 x1_13 x2_13 l3_13 => spec_l1Cur_pattern8.T.run tyt spec_l1Cur_pattern8.tbl k 13 (spec_l1Cur_pattern8.S13 l0_13 x1_13 x2_13 l3_13)) = spec_l1Cur_pattern8.l13 k := by funext l0_13 x1_13 x2_13 l3_13; exact ih.2 l0_13 x1_13 x2_13 l3_13
      exact (spec_l1Cur_pattern8.e4 k (spec_l1Cur_pattern8.T.run tyt spec_l1Cur_pattern8.tbl k) l0_4 x1_4 x2_4 l3_4 x4_4).trans (by rw [q4, q13]; rfl), fun l0_13 x1_13 x2_13 l3_13 => by
      have q13 : (fun l0_13 x1_13 x2_13 l3_13 => spec_l1Cur_pattern8.T.run tyt spec_l1Cur_pattern8.tbl k 13 (spec_l1Cur_pattern8.S13 l0_13 x1_13 x2_13 l3_13)) = spec_l1Cur_pattern8.l13 k := by funext l0_13 x1_13 x2_13 l3_13; exact ih.2 l0_13 x1_13 x2_13 l3_13
      exact (spec_l1Cur_pattern8.e13 k (spec_l1Cur_pattern8.T.run tyt spec_l1Cur_pattern8.tbl k) l0_13 x1_13 x2_13 l3_13).trans (by rw [q13]; rfl)⟩
theorem spec_l1Cur_pattern8.tblok (k : Nat) : TblOk Go.Proofs.Try.prog (spec_l1Cur_pattern8.tbl k) := TblOk.cons (spec_l1Cur_among_2.sound k) (TblOk.cons (spec_l1Cur_pick.sound k) (TblOk.nil _))
theorem spec_l1Cur_pattern8.sound (k : Nat) : Sound Go.Proofs.Try.prog 208 (spec_l1Cur_pattern8.spec k) := by
  have h := fn_ok (F := spec_l1Cur_pattern8.T) (tbl := spec_l1Cur_pattern8.tbl) mixed tyok Go.Proofs.Try.func208 (by kernel_rfl) (c0 := bodyOf Go.Proofs.Try.f208) rfl (conv_code _ _ _) rfl rfl spec_l1Cur_pattern8.ok k (fun j _ => spec_l1Cur_pattern8.tblok j)
  have q4 : (fun l0_4 x1_4 x2_4 l3_4 x4_4 => spec_l1Cur_pattern8.T.run tyt spec_l1Cur_pattern8.tbl k 4 (spec_l1Cur_pattern8.S4 l0_4 x1_4 x2_4 l3_4 x4_4)) = spec_l1Cur_pattern8.l4 k := by funext l0_4 x1_4 x2_4 l3_4 x4_4; exact (spec_l1Cur_pattern8.run k).1 l0_4 x1_4 x2_4 l3_4 x4_4
  have e : spec_l1Cur_pattern8.spec k = ⟨spec_l1Cur_pattern8.T.ps, spec_l1Cur_pattern8.T.rs, spec_l1Cur_pattern8.T.ev tyt spec_l1Cur_pattern8.tbl k⟩ := congrArg (FnSpec.mk _ _) (funext fun x => ((spec_l1Cur_pattern8.e k (spec_l1Cur_pattern8.T.run tyt spec_l1Cur_pattern8.tbl k) x.1 x.2.1 x.2.2).trans (by rw [q4]; rfl)).symm)
  rw [e]
  exact h
/-! ### spec_DrawAddBorder: function 92 -/
def spec_DrawAddBorder.m (k : Nat) (l0 : List Int) : Option (Int × Int × List Int × List Int) := ((spec_l1Cur_among_2.f k l0 0 0 [1, 2, 3, 4, 5, 6, 7]).bind fun r1 => ((spec_l1Cur_among_2.f k r1.2.1 r1.2.2.1 r1.2.2.2.1 [1, 2, 3, 4, 6]).bind fun r2 => ((spec_l1Cur_plain.f k r2.2.1 r2.2.2.1 r2.2.2.2.1 r1.1 r2.1).bind fun r3 => ((spec_l1Cur_one.f k r3.2.2.2.1 r3.2.2.2.2.1 r3.2.2.2.2.2 12).bind fun r4 => (cond r4.1 ((spec_l1Cur_chart.f k r4.2.1 r4.2.2.1 r4.2.2.2).bind fun r5 => ((spec_l1Cur_pattern8.f k r5.2.2.2.1 r5.2.2.2.2.1 r5.2.2.2.2.2).bind fun r6 => (some (r5.1, r5.2.1, r5.2.2.1, r6.1)))) ((spec_l1Cur_pattern8.f k r4.2.1 r4.2.2.1 r4.2.2.2).bind fun r7 => (some (r3.1, r3.2.1, r3.2.2.1, r7.1))))))))
def spec_DrawAddBorder.f (k : Nat) (l0 : List Int) : Option (Int × Int × List Int × List Int) := spec_DrawAddBorder.m k l0
noncomputable def spec_DrawAddBorder.spec (k : Nat) : FnSpec := ⟨[.d (.sl (.int .u8)) none], [.ag [.d (.int .i64) none, .d (.int .i64) none, .d (.sl (.int .i64)) (some 3)], .d (.sl (.int .i64)) (some 3)], fun x => spec_DrawAddBorder.f k x⟩
noncomputable def spec_DrawAddBorder.T : FnText := ⟨(conv [] (bodyOf Go.Proofs.Try.f92) 0).1, Go.Proofs.Try.f92.results.toList, 24, [], [.d (.sl (.int .u8)) none], [.ag [.d (.int .i64) none, .d (.int .i64) none, .d (.sl (.int .i64)) (some 3)], .d (.sl (.int .i64)) (some 3)]⟩
noncomputable def spec_DrawAddBorder.tbl (k : Nat) : Tbl := [(164, spec_l1Cur_among_2.spec k), (172, spec_l1Cur_plain.spec k), (173, spec_l1Cur_one.spec k), (153, spec_l1Cur_chart.spec k), (208, spec_l1Cur_pattern8.spec k)]
theorem spec_DrawAddBorder.e (k : Nat) (o : Nat → St → Option (Int × Int × List Int × List Int)) (l0 : List Int) : spec_DrawAddBorder.T.main tyt (spec_DrawAddBorder.tbl k) o l0 = spec_DrawAddBorder.m k l0 := by kernel_rfl
theorem spec_DrawAddBorder.ok : spec_DrawAddBorder.T.ok = true := by kernel_rfl
theorem spec_DrawAddBorder.tblok (k : Nat) : TblOk Go.Proofs.Try.prog (spec_DrawAddBorder.tbl k) := TblOk.cons (spec_l1Cur_among_2.sound k) (TblOk.cons (spec_l1Cur_plain.sound k) (TblOk.cons (spec_l1Cur_one.sound k) (TblOk.cons (spec_l1Cur_chart.sound k) (TblOk.cons (spec_l1Cur_pattern8.sound k) (TblOk.nil _)))))
theorem spec_DrawAddBorder.sound (k : Nat) : Sound Go.Proofs.Try.prog 92 (spec_DrawAddBorder.spec k) := by
  have h := fn_ok (F := spec_DrawAddBorder.T) (tbl := spec_DrawAddBorder.tbl) mixed tyok Go.Proofs.Try.func92 (by kernel_rfl) (c0 := bodyOf Go.Proofs.Try.f92) rfl (conv_code _ _ _) rfl rfl spec_DrawAddBorder.ok k (fun j _ => spec_DrawAddBorder.tblok j)
  have e : spec_DrawAddBorder.spec k = ⟨spec_DrawAddBorder.T.ps, spec_DrawAddBorder.T.rs, spec_DrawAddBorder.T.ev tyt spec_DrawAddBorder.tbl k⟩ := congrArg (FnSpec.mk _ _) (funext fun x => ((spec_DrawAddBorder.e k (spec_DrawAddBorder.T.run tyt spec_DrawAddBorder.tbl k) x).trans (by rfl)).symm)
  rw [e]
  exact h
/-! ### impl_in: function 139 -/
def impl_in.m (k : Nat) (a0 : Int) (a1 : Int) (a2 : Int) : Option (Bool) := (if a1 ≤ a0 then (some (decide (a0 ≤ a2))) else (some false))
def impl_in.f (k : Nat) (a0 : Int) (a1 : Int) (a2 : Int) : Option (Bool) := impl_in.m k a0 a1 a2
noncomputable def impl_in.spec (k : Nat) : FnSpec := ⟨[.d (.int .i64) none, .d (.int .i64) none, .d (.int .i64) none], [.d .bool none], fun x => impl_in.f k x.1 x.2.1 x.2.2⟩
noncomputable def impl_in.T : FnText := ⟨(conv [] (bodyOf Go.Proofs.Try.f139) 0).1, Go.Proofs.Try.f139.results.toList, 15, [], [.d (.int .i64) none, .d (.int .i64) none, .d (.int .i64) none], [.d .bool none]⟩
noncomputable def impl_in.tbl (k : Nat) : Tbl := []
theorem impl_in.e (k : Nat) (o : Nat → St → Option (Bool)) (a0 : Int) (a1 : Int) (a2 : Int) : impl_in.T.main tyt (impl_in.tbl k) o (a0, a1, a2) = impl_in.m k a0 a1 a2 := by kernel_rfl
theorem impl_in.ok : impl_in.T.ok = true := by kernel_rfl
theorem impl_in.tblok (k : Nat) : TblOk Go.Proofs.Try.prog (impl_in.tbl k) := TblOk.nil _
theorem impl_in.sound (k : Nat) : Sound Go.Proofs.Try.prog 139 (impl_in.spec k) := by
  have h := fn_ok (F := impl_in.T) (tbl := impl_in.tbl) mixed tyok Go.Proofs.Try.func139 (by kernel_rfl) (c0 := bodyOf Go.Proofs.Try.f139) rfl (conv_code _ _ _) rfl rfl impl_in.ok k (fun j _ => impl_in.tblok j)
  have e : impl_in.spec k = ⟨impl_in.T.ps, impl_in.T.rs, impl_in.T.ev tyt impl_in.tbl k⟩ := congrArg (FnSpec.mk _ _) (funext fun x => ((impl_in.e k (impl_in.T.run tyt impl_in.tbl k) x.1 x.2.1 x.2.2).trans (by rfl)).symm)
  rw [e]
  exact h
/-! ### impl_isSide: function 157 -/
def impl_isSide.m (k : Nat) (a0 : Int) : Option (Bool) := ((impl_in.f k a0 1 8).bind fun r1 => (some r1))
def impl_isSide.f (k : Nat) (a0 : Int) : Option (Bool) := impl_isSide.m k a0
noncomputable def impl_isSide.spec (k : Nat) : FnSpec := ⟨[.d (.int .i64) none], [.d .bool none], fun x => impl_isSide.f k x⟩
noncomputable def impl_isSide.T : FnText := ⟨(conv [] (bodyOf Go.Proofs.Try.f157) 0).1, Go.Proofs.Try.f157.results.toList, 5, [], [.d (.int .i64) none], [.d .bool none]⟩
noncomputable def impl_isSide.tbl (k : Nat) : Tbl := [(139, impl_in.spec k)]
theorem impl_isSide.e (k : Nat) (o : Nat → St → Option (Bool)) (a0 : Int) : impl_isSide.T.main tyt (impl_isSide.tbl k) o a0 = impl_isSide.m k a0 := by kernel_rfl
theorem impl_isSide.ok : impl_isSide.T.ok = true := by kernel_rfl
theorem impl_isSide.tblok (k : Nat) : TblOk Go.Proofs.Try.prog (impl_isSide.tbl k) := TblOk.cons (impl_in.sound k) (TblOk.nil _)
theorem impl_isSide.sound (k : Nat) : Sound Go.Proofs.Try.prog 157 (impl_isSide.spec k) := by
  have h := fn_ok (F := impl_isSide.T) (tbl := impl_isSide.tbl) mixed tyok Go.Proofs.Try.func157 (by kernel_rfl) (c0 := bodyOf Go.Proofs.Try.f157) rfl (conv_code _ _ _) rfl rfl impl_isSide.ok k (fun j _ => impl_isSide.tblok j)
  have e : impl_isSide.spec k = ⟨impl_isSide.T.ps, impl_isSide.T.rs, impl_isSide.T.ev tyt impl_isSide.tbl k⟩ := congrArg (FnSpec.mk _ _) (funext fun x => ((impl_isSide.e k (impl_isSide.T.run tyt impl_isSide.tbl k) x).trans (by rfl)).symm)
  rw [e]
  exact h
/-! ### impl_isColor: function 137 -/
def impl_isColor.m (k : Nat) (a0 : Int) : Option (Bool) := ((impl_in.f k a0 0 5).bind fun r1 => (some r1))
def impl_isColor.f (k : Nat) (a0 : Int) : Option (Bool) := impl_isColor.m k a0
noncomputable def impl_isColor.spec (k : Nat) : FnSpec := ⟨[.d (.int .i64) none], [.d .bool none], fun x => impl_isColor.f k x⟩
noncomputable def impl_isColor.T : FnText := ⟨(conv [] (bodyOf Go.Proofs.Try.f137) 0).1, Go.Proofs.Try.f137.results.toList, 5, [], [.d (.int .i64) none], [.d .bool none]⟩
noncomputable def impl_isColor.tbl (k : Nat) : Tbl := [(139, impl_in.spec k)]
theorem impl_isColor.e (k : Nat) (o : Nat → St → Option (Bool)) (a0 : Int) : impl_isColor.T.main tyt (impl_isColor.tbl k) o a0 = impl_isColor.m k a0 := by kernel_rfl
theorem impl_isColor.ok : impl_isColor.T.ok = true := by kernel_rfl
theorem impl_isColor.tblok (k : Nat) : TblOk Go.Proofs.Try.prog (impl_isColor.tbl k) := TblOk.cons (impl_in.sound k) (TblOk.nil _)
theorem impl_isColor.sound (k : Nat) : Sound Go.Proofs.Try.prog 137 (impl_isColor.spec k) := by
  have h := fn_ok (F := impl_isColor.T) (tbl := impl_isColor.tbl) mixed tyok Go.Proofs.Try.func137 (by kernel_rfl) (c0 := bodyOf Go.Proofs.Try.f137) rfl (conv_code _ _ _) rfl rfl impl_isColor.ok k (fun j _ => impl_isColor.tblok j)
  have e : impl_isColor.spec k = ⟨impl_isColor.T.ps, impl_isColor.T.rs, impl_isColor.T.ev tyt impl_isColor.tbl k⟩ := congrArg (FnSpec.mk _ _) (funext fun x => ((impl_isColor.e k (impl_isColor.T.run tyt impl_isColor.tbl k) x).trans (by rfl)).symm)
  rw [e]
  exact h
/-! ### impl_areAll_int_1__impl_isColor: function 239 -/
def impl_areAll_int_1__impl_isColor.m (k : Nat) (a0 : Int) : Option (Bool) := ((impl_isColor.f k a0).bind fun r1 => (some (!r1)))
def impl_areAll_int_1__impl_isColor.f (k : Nat) (a0 : Int) : Option (Bool) := impl_areAll_int_1__impl_isColor.m k a0
noncomputable def impl_areAll_int_1__impl_isColor.spec (k : Nat) : FnSpec := ⟨[.d (.int .i64) none, .rb [.fv 137 [] []]], [.d .bool none], fun x => impl_areAll_int_1__impl_isColor.f k x⟩
noncomputable def impl_areAll_int_1__impl_isColor.T : FnText := ⟨(conv [] (bodyOf Go.Proofs.Try.f239) 0).1, Go.Proofs.Try.f239.results.toList, 8, [], [.d (.int .i64) none, .rb [.fv 137 [] []]], [.d .bool none]⟩
noncomputable def impl_areAll_int_1__impl_isColor.tbl (k : Nat) : Tbl := [(137, impl_isColor.spec k)]
theorem impl_areAll_int_1__impl_isColor.e (k : Nat) (o : Nat → St → Option (Bool)) (a0 : Int) : impl_areAll_int_1__impl_isColor.T.main tyt (impl_areAll_int_1__impl_isColor.tbl k) o a0 = impl_areAll_int_1__impl_isColor.m k a0 := by kernel_rfl
theorem impl_areAll_int_1__impl_isColor.ok : impl_areAll_int_1__impl_isColor.T.ok = true := by kernel_rfl
theorem impl_areAll_int_1__impl_isColor.tblok (k : Nat) : TblOk Go.Proofs.Try.prog (impl_areAll_int_1__impl_isColor.tbl k) := TblOk.cons (impl_isColor.sound k) (TblOk.nil _)
theorem impl_areAll_int_1__impl_isColor.sound (k : Nat) : Sound Go.Proofs.Try.prog 239 (impl_areAll_int_1__impl_isColor.spec k) := by
  have h := fn_ok (F := impl_areAll_int_1__impl_isColor.T) (tbl := impl_areAll_int_1__impl_isColor.tbl) mixed tyok Go.Proofs.Try.func239 (by kernel_rfl) (c0 := bodyOf Go.Proofs.Try.f239) rfl (conv_code _ _ _) rfl rfl impl_areAll_int_1__impl_isColor.ok k (fun j _ => impl_areAll_int_1__impl_isColor.tblok j)
  have e : impl_areAll_int_1__impl_isColor.spec k = ⟨impl_areAll_int_1__impl_isColor.T.ps, impl_areAll_int_1__impl_isColor.T.rs, impl_areAll_int_1__impl_isColor.T.ev tyt impl_areAll_int_1__impl_isColor.tbl k⟩ := congrArg (FnSpec.mk _ _) (funext fun x => ((impl_areAll_int_1__impl_isColor.e k (impl_areAll_int_1__impl_isColor.T.run tyt impl_areAll_int_1__impl_isColor.tbl k) x).trans (by rfl)).symm)
  rw [e]
  exact h
/-! ### slices_IndexFunc_int_int__impl_areAll_int_1__impl_isColor: function 256 -/
def slices_IndexFunc_int_int__impl_areAll_int_1__impl_isColor.b3 (o3 : List Int → Int → Int → Option (Int)) (k : Nat) (l0_3 : List Int) (x1_3 : Int) (x2_3 : Int) : Option (Int) := (if x2_3 < x1_3 then ((chk l0_3.length x2_3).bind fun i1 => ((impl_areAll_int_1__impl_isColor.f k (l0_3.getD i1 0)).bind fun r2 => (cond r2 (some x2_3) (o3 l0_3 x1_3 (w64 (x2_3 + 1)))))) else (some (-1)))
def slices_IndexFunc_int_int__impl_areAll_int_1__impl_isColor.l3 : Nat → List Int → Int → Int → Option (Int)
  | 0, _, _, _ => none
  | k + 1, l0_3, x1_3, x2_3 => slices_IndexFunc_int_int__impl_areAll_int_1__impl_isColor.b3 (slices_IndexFunc_int_int__impl_areAll_int_1__impl_isColor.l3 k) k l0_3 x1_3 x2_3
def slices_IndexFunc_int_int__impl_areAll_int_1__impl_isColor.m (o3 : List Int → Int → Int → Option (Int)) (k : Nat) (l0 : List Int) : Option (Int) := (o3 l0 (l0.length : Int) 0)
def slices_IndexFunc_int_int__impl_areAll_int_1__impl_isColor.f (k : Nat) (l0 : List Int) : Option (Int) := slices_IndexFunc_int_int__impl_areAll_int_1__impl_isColor.m (slices_IndexFunc_int_int__impl_areAll_int_1__impl_isColor.l3 k) k l0
noncomputable def slices_IndexFunc_int_int__impl_areAll_int_1__impl_isColor.spec (k : Nat) : FnSpec := ⟨[.d (.sl (.int .i64)) none, .fv 239 [] [.rb [.fv 137 [] []]]], [.d (.int .i64) none], fun x => slices_IndexFunc_int_int__impl_areAll_int_1__impl_isColor.f k x⟩
def slices_IndexFunc_int_int__impl_areAll_int_1__impl_isColor.S3 (l0_3 : List Int) (x1_3 : Int) (x2_3 : Int) : St := ⟨[(0, .val (.sl (.int .i64)) l0_3), (1, .fn 239 [] [.cptr [.fn 137 [] []] 0]), (7, .val (.int .i64) x1_3), (8, .val (.int .i64) x2_3)], [], 1000⟩
noncomputable def slices_IndexFunc_int_int__impl_areAll_int_1__impl_isColor.T : FnText := ⟨(conv [] (bodyOf Go.Proofs.Try.f256) 0).1, Go.Proofs.Try.f256.results.toList, 19, [(3, [(0, .rd (.sl (.int .i64))), (1, .as), (7, .rd (.int .i64)), (8, .rd (.int .i64))])], [.d (.sl (.int .i64)) none, .fv 239 [] [.rb [.fv 137 [] []]]], [.d (.int .i64) none]⟩
noncomputable def slices_IndexFunc_int_int__impl_areAll_int_1__impl_isColor.tbl (k : Nat) : Tbl := [(239, impl_areAll_int_1__impl_isColor.spec k)]
theorem slices_IndexFunc_int_int__impl_areAll_int_1__impl_isColor.e3 (k : Nat) (o : Nat → St → Option (Int)) (l0_3 : List Int) (x1_3 : Int) (x2_3 : Int) : slices_IndexFunc_int_int__impl_areAll_int_1__impl_isColor.T.step tyt (slices_IndexFunc_int_int__impl_areAll_int_1__impl_isColor.tbl k) o 3 (slices_IndexFunc_int_int__impl_areAll_int_1__impl_isColor.S3 l0_3 x1_3 x2_3) = slices_IndexFunc_int_int__impl_areAll_int_1__impl_isColor.b3 (fun l0_3 x1_3 x2_3 => o 3 (slices_IndexFunc_int_int__impl_areAll_int_1__impl_isColor.S3 l0_3 x1_3 x2_3)) k l0_3 x1_3 x2_3 := by kernel_rfl
theorem slices_IndexFunc_int_int__impl_areAll_int_1__impl_isColor.e (k : Nat) (o : Nat → St → Option (Int)) (l0 : List Int) : slices_IndexFunc_int_int__impl_areAll_int_1__impl_isColor.T.main tyt (slices_IndexFunc_int_int__impl_areAll_int_1__impl_isColor.tbl k) o l0 = slices_IndexFunc_int_int__impl_areAll_int_1__impl_isColor.m (fun l0_3 x1_3 x2_3 => o 3 (slices_IndexFunc_int_int__impl_areAll_int_1__impl_isColor.S3 l0_3 x1_3 x2_3)) k l0 := by kernel_rfl
theorem slices_IndexFunc_int_int__impl_areAll_int_1__impl_isColor.ok : slices_IndexFunc_int_int__impl_areAll_int_1__impl_isColor.T.ok = true := by kernel_rfl
theorem slices_IndexFunc_int_int__impl_areAll_int_1__impl_isColor.run (k : Nat) : (∀ (l0_3 : List Int) (x1_3 : Int) (x2_3 : Int), slices_IndexFunc_int_int__impl_areAll_int_1__impl_isColor.T.run tyt slices_IndexFunc_int_int__impl_areAll_int_1__impl_isColor.tbl k 3 (slices_IndexFunc_int_int__impl_areAll_int_1__impl_isColor.S3 l0_3 x1_3 x2_3) = slices_IndexFunc_int_int__impl_areAll_int_1__impl_isColor.l3 k l0_3 x1_3 x2_3) := by
  induction k with
  | zero => exact fun l0_3 x1_3 x2_3 => rfl
  | succ k ih =>
    exact fun l0_3 x1_3 x2_3 => by
      have q3 : (fun l0_3 x1_3 x2_3 => slices_IndexFunc_int_int__impl_areAll_int_1__impl_isColor.T.run tyt slices_IndexFunc_int_int__impl_areAll_int_1__impl_isColor.tbl k 3 (slices_IndexFunc_int_int__impl_areAll_int_1__impl_isColor.S3 l0_3 x1_3 x2_3)) = slices_IndexFunc_int_int__impl_areAll_int_1__impl_isColor.l3 k := by funext l0_3 x1_3 x2_3; exact ih l0_3 x1_3 x2_3
      exact (slices_IndexFunc_int_int__impl_areAll_int_1__impl_isColor.e3 k (slices_IndexFunc_int_int__impl_areAll_int_1__impl_isColor.T.run tyt slices_IndexFunc_int_int__impl_areAll_int_1__impl_isColor.tbl k) l0_3 x1_3 x2_3).trans (by rw [q3]; rfl)
theorem slices_IndexFunc_int_int__impl_areAll_int_1__impl_isColor.tblok (k : Nat) : TblOk Go.Proofs.Try.prog (slices_IndexFunc_int_int__impl_areAll_int_1__impl_isColor.tbl k) := TblOk.cons (impl_areAll_int_1__impl_isColor.sound k) (TblOk.nil _)
theorem slices_IndexFunc_int_int__impl_areAll_int_1__impl_isColor.sound (k : Nat) : Sound Go.Proofs.Try.prog 256 (slices_IndexFunc_int_int__impl_areAll_int_1__impl_isColor.spec k) := by
  have h := fn_ok (F := slices_IndexFunc_int_int__impl_areAll_int_1__impl_isColor.T) (tbl := slices_IndexFunc_int_int__impl_areAll_int_1__impl_isColor.tbl) mixed tyok Go.Proofs.Try.func256 (by kernel_rfl) (c0 := bodyOf Go.Proofs.Try.f256) rfl (conv_code _ _ _) rfl rfl slices_IndexFunc_int_int__impl_areAll_int_1__impl_isColor.ok k (fun j _ => slices_IndexFunc_int_int__impl_areAll_int_1__impl_isColor.tblok j)
  have q3 : (fun l0_3 x1_3 x2_3 => slices_IndexFunc_int_int__impl_areAll_int_1__impl_isColor.T.run tyt slices_IndexFunc_int_int__impl_areAll_int_1__impl_isColor.tbl k 3 (slices_IndexFunc_int_int__impl_areAll_int_1__impl_isColor.S3 l0_3 x1_3 x2_3)) = slices_IndexFunc_int_int__impl_areAll_int_1__impl_isColor.l3 k := by funext l0_3 x1_3 x2_3; exact (slices_IndexFunc_int_int__impl_areAll_int_1__impl_isColor.run k) l0_3 x1_3 x2_3
  have e : slices_IndexFunc_int_int__impl_areAll_int_1__impl_isColor.spec k = ⟨slices_IndexFunc_int_int__impl_areAll_int_1__impl_isColor.T.ps, slices_IndexFunc_int_int__impl_areAll_int_1__impl_isColor.T.rs, slices_IndexFunc_int_int__impl_areAll_int_1__impl_isColor.T.ev tyt slices_IndexFunc_int_int__impl_areAll_int_1__impl_isColor.tbl k⟩ := congrArg (FnSpec.mk _ _) (funext fun x => ((slices_IndexFunc_int_int__impl_areAll_int_1__impl_isColor.e k (slices_IndexFunc_int_int__impl_areAll_int_1__impl_isColor.T.run tyt slices_IndexFunc_int_int__impl_areAll_int_1__impl_isColor.tbl k) x).trans (by rw [q3]; rfl)).symm)
  rw [e]
  exact h
/-! ### slices_ContainsFunc_int_int__impl_areAll_int_1__impl_isColor: function 238 -/
def slices_ContainsFunc_int_int__impl_areAll_int_1__impl_isColor.m (k : Nat) (l0 : List Int) : Option (Bool) := ((slices_IndexFunc_int_int__impl_areAll_int_1__impl_isColor.f k l0).bind fun r1 => (some (decide (0 ≤ r1))))
def slices_ContainsFunc_int_int__impl_areAll_int_1__impl_isColor.f (k : Nat) (l0 : List Int) : Option (Bool) := slices_ContainsFunc_int_int__impl_areAll_int_1__impl_isColor.m k l0
noncomputable def slices_ContainsFunc_int_int__impl_areAll_int_1__impl_isColor.spec (k : Nat) : FnSpec := ⟨[.d (.sl (.int .i64)) none, .fv 239 [] [.rb [.fv 137 [] []]]], [.d .bool none], fun x => slices_ContainsFunc_int_int__impl_areAll_int_1__impl_isColor.f k x⟩
noncomputable def slices_ContainsFunc_int_int__impl_areAll_int_1__impl_isColor.T : FnText := ⟨(conv [] (bodyOf Go.Proofs.Try.f238) 0).1, Go.Proofs.Try.f238.results.toList, 9, [], [.d (.sl (.int .i64)) none, .fv 239 [] [.rb [.fv 137 [] []]]], [.d .bool none]⟩
noncomputable def slices_ContainsFunc_int_int__impl_areAll_int_1__impl_isColor.tbl (k : Nat) : Tbl := [(256, slices_IndexFunc_int_int__impl_areAll_int_1__impl_isColor.spec k)]
theorem slices_ContainsFunc_int_int__impl_areAll_int_1__impl_isColor.e (k : Nat) (o : Nat → St → Option (Bool)) (l0 : List Int) : slices_ContainsFunc_int_int__impl_areAll_int_1__impl_isColor.T.main tyt (slices_ContainsFunc_int_int__impl_areAll_int_1__impl_isColor.tbl k) o l0 = slices_ContainsFunc_int_int__impl_areAll_int_1__impl_isColor.m k l0 := by kernel_rfl
theorem slices_ContainsFunc_int_int__impl_areAll_int_1__impl_isColor.ok : slices_ContainsFunc_int_int__impl_areAll_int_1__impl_isColor.T.ok = true := by kernel_rfl
theorem slices_ContainsFunc_int_int__impl_areAll_int_1__impl_isColor.tblok (k : Nat) : TblOk Go.Proofs.Try.prog (slices_ContainsFunc_int_int__impl_areAll_int_1__impl_isColor.tbl k) := TblOk.cons (slices_IndexFunc_int_int__impl_areAll_int_1__impl_isColor.sound k) (TblOk.nil _)
theorem slices_ContainsFunc_int_int__impl_areAll_int_1__impl_isColor.sound (k : Nat) : Sound Go.Proofs.Try.prog 238 (slices_ContainsFunc_int_int__impl_areAll_int_1__impl_isColor.spec k) := by
  have h := fn_ok (F := slices_ContainsFunc_int_int__impl_areAll_int_1__impl_isColor.T) (tbl := slices_ContainsFunc_int_int__impl_areAll_int_1__impl_isColor.tbl) mixed tyok Go.Proofs.Try.func238 (by kernel_rfl) (c0 := bodyOf Go.Proofs.Try.f238) rfl (conv_code _ _ _) rfl rfl slices_ContainsFunc_int_int__impl_areAll_int_1__impl_isColor.ok k (fun j _ => slices_ContainsFunc_int_int__impl_areAll_int_1__impl_isColor.tblok j)
  have e : slices_ContainsFunc_int_int__impl_areAll_int_1__impl_isColor.spec k = ⟨slices_ContainsFunc_int_int__impl_areAll_int_1__impl_isColor.T.ps, slices_ContainsFunc_int_int__impl_areAll_int_1__impl_isColor.T.rs, slices_ContainsFunc_int_int__impl_areAll_int_1__impl_isColor.T.ev tyt slices_ContainsFunc_int_int__impl_areAll_int_1__impl_isColor.tbl k⟩ := congrArg (FnSpec.mk _ _) (funext fun x => ((slices_ContainsFunc_int_int__impl_areAll_int_1__impl_isColor.e k (slices_ContainsFunc_int_int__impl_areAll_int_1__impl_isColor.T.run tyt slices_ContainsFunc_int_int__impl_areAll_int_1__impl_isColor.tbl k) x).trans (by rfl)).symm)
  rw [e]
  exact h
/-! ### impl_areAll_int__impl_isColor: function 158 -/
def impl_areAll_int__impl_isColor.m (k : Nat) (l0 : List Int) : Option (Bool) := ((slices_ContainsFunc_int_int__impl_areAll_int_1__impl_isColor.f k l0).bind fun r1 => (some (!r1)))
def impl_areAll_int__impl_isColor.f (k : Nat) (l0 : List Int) : Option (Bool) := impl_areAll_int__impl_isColor.m k l0
noncomputable def impl_areAll_int__impl_isColor.spec (k : Nat) : FnSpec := ⟨[.d (.sl (.int .i64)) none, .fv 137 [] []], [.d .bool none], fun x => impl_areAll_int__impl_isColor.f k x⟩
noncomputable def impl_areAll_int__impl_isColor.T : FnText := ⟨(conv [] (bodyOf Go.Proofs.Try.f158) 0).1, Go.Proofs.Try.f158.results.toList, 9, [], [.d (.sl (.int .i64)) none, .fv 137 [] []], [.d .bool none]⟩
noncomputable def impl_areAll_int__impl_isColor.tbl (k : Nat) : Tbl := [(238, slices_ContainsFunc_int_int__impl_areAll_int_1__impl_isColor.spec k)]
theorem impl_areAll_int__impl_isColor.e (k : Nat) (o : Nat → St → Option (Bool)) (l0 : List Int) : impl_areAll_int__impl_isColor.T.main tyt (impl_areAll_int__impl_isColor.tbl k) o l0 = impl_areAll_int__impl_isColor.m k l0 := by kernel_rfl
theorem impl_areAll_int__impl_isColor.ok : impl_areAll_int__impl_isColor.T.ok = true := by kernel_rfl
theorem impl_areAll_int__impl_isColor.tblok (k : Nat) : TblOk Go.Proofs.Try.prog (impl_areAll_int__impl_isColor.tbl k) := TblOk.cons (slices_ContainsFunc_int_int__impl_areAll_int_1__impl_isColor.sound k) (TblOk.nil _)
theorem impl_areAll_int__impl_isColor.sound (k : Nat) : Sound Go.Proofs.Try.prog 158 (impl_areAll_int__impl_isColor.spec k) := by
  have h := fn_ok (F := impl_areAll_int__impl_isColor.T) (tbl := impl_areAll_int__impl_isColor.tbl) mixed tyok Go.Proofs.Try.func158 (by kernel_rfl) (c0 := bodyOf Go.Proofs.Try.f158) rfl (conv_code _ _ _) rfl rfl impl_areAll_int__impl_isColor.ok k (fun j _ => impl_areAll_int__impl_isColor.tblok j)
  have e : impl_areAll_int__impl_isColor.spec k = ⟨impl_areAll_int__impl_isColor.T.ps, impl_areAll_int__impl_isColor.T.rs, impl_areAll_int__impl_isColor.T.ev tyt impl_areAll_int__impl_isColor.tbl k⟩ := congrArg (FnSpec.mk _ _) (funext fun x => ((impl_areAll_int__impl_isColor.e k (impl_areAll_int__impl_isColor.T.run tyt impl_areAll_int__impl_isColor.tbl k) x).trans (by rfl)).symm)
  rw [e]
  exact h
/-! ### impl_IsChart: function 39 -/
def impl_IsChart.m (k : Nat) (a0_0 : Int) (a0_1 : Int) (l0_2 : List Int) : Option (Bool) := ((impl_isSide.f k a0_0).bind fun r1 => (cond r1 ((impl_isSide.f k a0_1).bind fun r2 => (cond r2 (if (l0_2.length : Int) = (w64 (a0_0 * a0_1)) then ((impl_areAll_int__impl_isColor.f k l0_2).bind fun r3 => (some r3)) else (some false)) (some false))) (some false)))
def impl_IsChart.f (k : Nat) (a0_0 : Int) (a0_1 : Int) (l0_2 : List Int) : Option (Bool) := impl_IsChart.m k a0_0 a0_1 l0_2
noncomputable def impl_IsChart.spec (k : Nat) : FnSpec := ⟨[.ag [.d (.int .i64) none, .d (.int .i64) none, .d (.sl (.int .i64)) none]], [.d .bool none], fun x => impl_IsChart.f k x.1 x.2.1 x.2.2⟩
noncomputable def impl_IsChart.T : FnText := ⟨(conv [] (bodyOf Go.Proofs.Try.f39) 0).1, Go.Proofs.Try.f39.results.toList, 27, [], [.ag [.d (.int .i64) none, .d (.int .i64) none, .d (.sl (.int .i64)) none]], [.d .bool none]⟩
noncomputable def impl_IsChart.tbl (k : Nat) : Tbl := [(157, impl_isSide.spec k), (158, impl_areAll_int__impl_isColor.spec k)]
theorem impl_IsChart.e (k : Nat) (o : Nat → St → Option (Bool)) (a0_0 : Int) (a0_1 : Int) (l0_2 : List Int) : impl_IsChart.T.main tyt (impl_IsChart.tbl k) o (a0_0, a0_1, l0_2) = impl_IsChart.m k a0_0 a0_1 l0_2 := by kernel_rfl
theorem impl_IsChart.ok : impl_IsChart.T.ok = true := by kernel_rfl
theorem impl_IsChart.tblok (k : Nat) : TblOk Go.Proofs.Try.prog (impl_IsChart.tbl k) := TblOk.cons (impl_isSide.sound k) (TblOk.cons (impl_areAll_int__impl_isColor.sound k) (TblOk.nil _))
theorem impl_IsChart.sound (k : Nat) : Sound Go.Proofs.Try.prog 39 (impl_IsChart.spec k) := by
  have h := fn_ok (F := impl_IsChart.T) (tbl := impl_IsChart.tbl) mixed tyok Go.Proofs.Try.func39 (by kernel_rfl) (c0 := bodyOf Go.Proofs.Try.f39) rfl (conv_code _ _ _) rfl rfl impl_IsChart.ok k (fun j _ => impl_IsChart.tblok j)
  have e : impl_IsChart.spec k = ⟨impl_IsChart.T.ps, impl_IsChart.T.rs, impl_IsChart.T.ev tyt impl_IsChart.tbl k⟩ := congrArg (FnSpec.mk _ _) (funext fun x => ((impl_IsChart.e k (impl_IsChart.T.run tyt impl_IsChart.tbl k) x.1 x.2.1 x.2.2).trans (by rfl)).symm)
  rw [e]
  exact h
/-! ### impl_isPattern: function 209 -/
def impl_isPattern.m (k : Nat) (l0 : List Int) : Option (Bool) := ((impl_in.f k (l0.length : Int) 1 8).bind fun r1 => (cond r1 ((impl_areAll_int__impl_isColor.f k l0).bind fun r2 => (some r2)) (some false)))
def impl_isPattern.f (k : Nat) (l0 : List Int) : Option (Bool) := impl_isPattern.m k l0
noncomputable def impl_isPattern.spec (k : Nat) : FnSpec := ⟨[.d (.sl (.int .i64)) none], [.d .bool none], fun x => impl_isPattern.f k x⟩
noncomputable def impl_isPattern.T : FnText := ⟨(conv [] (bodyOf Go.Proofs.Try.f209) 0).1, Go.Proofs.Try.f209.results.toList, 10, [], [.d (.sl (.int .i64)) none], [.d .bool none]⟩
noncomputable def impl_isPattern.tbl (k : Nat) : Tbl := [(139, impl_in.spec k), (158, impl_areAll_int__impl_isColor.spec k)]
theorem impl_isPattern.e (k : Nat) (o : Nat → St → Option (Bool)) (l0 : List Int) : impl_isPattern.T.main tyt (impl_isPattern.tbl k) o l0 = impl_isPattern.m k l0 := by kernel_rfl
theorem impl_isPattern.ok : impl_isPattern.T.ok = true := by kernel_rfl
theorem impl_isPattern.tblok (k : Nat) : TblOk Go.Proofs.Try.prog (impl_isPattern.tbl k) := TblOk.cons (impl_in.sound k) (TblOk.cons (impl_areAll_int__impl_isColor.sound k) (TblOk.nil _))
theorem impl_isPattern.sound (k : Nat) : Sound Go.Proofs.Try.prog 209 (impl_isPattern.spec k) := by
  have h := fn_ok (F := impl_isPattern.T) (tbl := impl_isPattern.tbl) mixed tyok Go.Proofs.Try.func209 (by kernel_rfl) (c0 := bodyOf Go.Proofs.Try.f209) rfl (conv_code _ _ _) rfl rfl impl_isPattern.ok k (fun j _ => impl_isPattern.tblok j)
  have e : impl_isPattern.spec k = ⟨impl_isPattern.T.ps, impl_isPattern.T.rs, impl_isPattern.T.ev tyt impl_isPattern.tbl k⟩ := congrArg (FnSpec.mk _ _) (funext fun x => ((impl_isPattern.e k (impl_isPattern.T.run tyt impl_isPattern.tbl k) x).trans (by rfl)).symm)
  rw [e]
  exact h
/-! ### impl_AddBorder_1: function 210 -/
def impl_AddBorder_1.m (k : Nat) (a0 : Int) (a1 : Int) : Option (Int) := (some 0)
def impl_AddBorder_1.f (k : Nat) (a0 : Int) (a1 : Int) : Option (Int) := impl_AddBorder_1.m k a0 a1
noncomputable def impl_AddBorder_1.spec (k : Nat) : FnSpec := ⟨[.d (.int .i64) none, .d (.int .i64) none], [.d (.int .i64) none], fun x => impl_AddBorder_1.f k x.1 x.2⟩
noncomputable def impl_AddBorder_1.T : FnText := ⟨(conv [] (bodyOf Go.Proofs.Try.f210) 0).1, Go.Proofs.Try.f210.results.toList, 5, [], [.d (.int .i64) none, .d (.int .i64) none], [.d (.int .i64) none]⟩
noncomputable def impl_AddBorder_1.tbl (k : Nat) : Tbl := []
theorem impl_AddBorder_1.e (k : Nat) (o : Nat → St → Option (Int)) (a0 : Int) (a1 : Int) : impl_AddBorder_1.T.main tyt (impl_AddBorder_1.tbl k) o (a0, a1) = impl_AddBorder_1.m k a0 a1 := by kernel_rfl
theorem impl_AddBorder_1.ok : impl_AddBorder_1.T.ok = true := by kernel_rfl
theorem impl_AddBorder_1.tblok (k : Nat) : TblOk Go.Proofs.Try.prog (impl_AddBorder_1.tbl k) := TblOk.nil _
theorem impl_AddBorder_1.sound (k : Nat) : Sound Go.Proofs.Try.prog 210 (impl_AddBorder_1.spec k) := by
  have h := fn_ok (F := impl_AddBorder_1.T) (tbl := impl_AddBorder_1.tbl) mixed tyok Go.Proofs.Try.func210 (by kernel_rfl) (c0 := bodyOf Go.Proofs.Try.f210) rfl (conv_code _ _ _) rfl rfl impl_AddBorder_1.ok k (fun j _ => impl_AddBorder_1.tblok j)
  have e : impl_AddBorder_1.spec k = ⟨impl_AddBorder_1.T.ps, impl_AddBorder_1.T.rs, impl_AddBorder_1.T.ev tyt impl_AddBorder_1.tbl k⟩ := congrArg (FnSpec.mk _ _) (funext fun x => ((impl_AddBorder_1.e k (impl_AddBorder_1.T.run tyt impl_AddBorder_1.tbl k) x.1 x.2).trans (by rfl)).symm)
  rw [e]
  exact h
/-! ### impl_makeChart__impl_AddBorder_1: function 178 -/
def impl_makeChart__impl_AddBorder_1.b4 (o10 : Int → Int → Int → List Int → Int → Int → List Int → Int → Int → Int → Int → Int → Option (Int × Int × List Int)) (k : Nat) (x0_4 : Int) (x1_4 : Int) (x2_4 : Int) (l3_4 : List Int) (x4_4 : Int) (x5_4 : Int) (l6_4 : List Int) (x7_4 : Int) (x8_4 : Int) : Option (Int × Int × List Int) := (if x8_4 < x7_4 then (o10 x0_4 x1_4 x2_4 l3_4 x4_4 x5_4 l6_4 x8_4 x7_4 x8_4 x0_4 0) else (some (x4_4, x5_4, l6_4)))
def impl_makeChart__impl_AddBorder_1.b10 (o4 : Int → Int → Int → List Int → Int → Int → List Int → Int → Int → Option (Int × Int × List Int)) (o10 : Int → Int → Int → List Int → Int → Int → List Int → Int → Int → Int → Int → Int → Option (Int × Int × List Int)) (k : Nat) (x0_10 : Int) (x1_10 : Int) (x2_10 : Int) (l3_10 : List Int) (x4_10 : Int) (x5_10 : Int) (l6_10 : List Int) (x7_10 : Int) (x8_10 : Int) (x9_10 : Int) (x10_10 : Int) (x11_10 : Int) : Option (Int × Int × List Int) := (if x11_10 < x10_10 then ((impl_AddBorder_1.f k x7_10 x11_10).bind fun r1 => ((app 17592186044416 l6_10 [r1]).bind fun l2 => (o10 x0_10 x1_10 x2_10 l3_10 x4_10 x5_10 l2 x7_10 x8_10 x9_10 x10_10 (w64 (x11_10 + 1))))) else (o4 x0_10 x1_10 x2_10 l3_10 x4_10 x5_10 l6_10 x8_10 (w64 (x9_10 + 1))))
mutual
def impl_makeChart__impl_AddBorder_1.l4 : Nat → Int → Int → Int → List Int → Int → Int → List Int → Int → Int → Option (Int × Int × List Int)
  | 0, _, _, _, _, _, _, _, _, _ => none
  | k + 1, x0_4, x1_4, x2_4, l3_4, x4_4, x5_4, l6_4, x7_4, x8_4 => impl_makeChart__impl_AddBorder_1.b4 (impl_makeChart__impl_AddBorder_1.l10 k) k x0_4 x1_4 x2_4 l3_4 x4_4 x5_4 l6_4 x7_4 x8_4
def impl_makeChart__impl_AddBorder_1.l10 : Nat → Int → Int → Int → List Int → Int → Int → List Int → Int → Int → Int → Int → Int → Option (Int × Int × List Int)
  | 0, _, _, _, _, _, _, _, _, _, _, _, _ => none
  | k + 1, x0_10, x1_10, x2_10, l3_10, x4_10, x5_10, l6_10, x7_10, x8_10, x9_10, x10_10, x11_10 => impl_makeChart__impl_AddBorder_1.b10 (impl_makeChart__impl_AddBorder_1.l4 k) (impl_makeChart__impl_AddBorder_1.l10 k) k x0_10 x1_10 x2_10 l3_10 x4_10 x5_10 l6_10 x7_10 x8_10 x9_10 x10_10 x11_10
end
def impl_makeChart__impl_AddBorder_1.m (o4 : Int → Int → Int → List Int → Int → Int → List Int → Int → Int → Option (Int × Int × List Int)) (k : Nat) (a0 : Int) (a1 : Int) : Option (Int × Int × List Int) := (o4 a0 0 0 [] a0 a1 [] a1 0)
def impl_makeChart__impl_AddBorder_1.f (k : Nat) (a0 : Int) (a1 : Int) : Option (Int × Int × List Int) := impl_makeChart__impl_AddBorder_1.m (impl_makeChart__impl_AddBorder_1.l4 k) k a0 a1
noncomputable def impl_makeChart__impl_AddBorder_1.spec (k : Nat) : FnSpec := ⟨[.d (.int .i64) none, .d (.int .i64) none, .fv 210 [] []], [.ag [.d (.int .i64) none, .d (.int .i64) none, .d (.sl (.int .i64)) (some 3)]], fun x => impl_makeChart__impl_AddBorder_1.f k x.1 x.2⟩
def impl_makeChart__impl_AddBorder_1.S4 (x0_4 : Int) (x1_4 : Int) (x2_4 : Int) (l3_4 : List Int) (x4_4 : Int) (x5_4 : Int) (l6_4 : List Int) (x7_4 : Int) (x8_4 : Int) : St := ⟨[(0, .val (.int .i64) x0_4), (2, .fn 210 [] []), (6, .ptr 100 0), (7, .ptr 101 0), (13, .val (.int .i64) x7_4), (14, .val (.int .i64) x8_4)], [(101, some (.box [.val (.int .i64) x4_4, .val (.int .i64) x5_4, .ref 102])), (102, some (.row 3 (.int .i64) l6_4)), (100, some (.box [.val (.int .i64) x1_4, .val (.int .i64) x2_4, .val (.sl (.int .i64)) l3_4]))], 1000⟩
def impl_makeChart__impl_AddBorder_1.S10 (x0_10 : Int) (x1_10 : Int) (x2_10 : Int) (l3_10 : List Int) (x4_10 : Int) (x5_10 : Int) (l6_10 : List Int) (x7_10 : Int) (x8_10 : Int) (x9_10 : Int) (x10_10 : Int) (x11_10 : Int) : St := ⟨[(0, .val (.int .i64) x0_10), (2, .fn 210 [] []), (6, .ptr 100 0), (7, .ptr 101 0), (8, .val (.int .i64) x7_10), (13, .val (.int .i64) x8_10), (14, .val (.int .i64) x9_10), (17, .val (.int .i64) x10_10), (18, .val (.int .i64) x11_10)], [(101, some (.box [.val (.int .i64) x4_10, .val (.int .i64) x5_10, .ref 102])), (102, some (.row 3 (.int .i64) l6_10)), (100, some (.box [.val (.int .i64) x1_10, .val (.int .i64) x2_10, .val (.sl (.int .i64)) l3_10]))], 1000⟩
noncomputable def impl_makeChart__impl_AddBorder_1.T : FnText := ⟨(conv [] (bodyOf Go.Proofs.Try.f178) 0).1, Go.Proofs.Try.f178.results.toList, 33, [(4, [(0, .rd (.int .i64)), (2, .as), (6, .bx 100 [.rd (.int .i64), .rd (.int .i64), .rd (.sl (.int .i64))]), (7, .bx 101 [.rd (.int .i64), .rd (.int .i64), .own 3 (.int .i64) 102]), (13, .rd (.int .i64)), (14, .rd (.int .i64))]), (10, [(0, .rd (.int .i64)), (2, .as), (6, .bx 100 [.rd (.int .i64), .rd (.int .i64), .rd (.sl (.int .i64))]), (7, .bx 101 [.rd (.int .i64), .rd (.int .i64), .own 3 (.int .i64) 102]), (8, .rd (.int .i64)), (13, .rd (.int .i64)), (14, .rd (.int .i64)), (17, .rd (.int .i64)), (18, .rd (.int .i64))])], [.d (.int .i64) none, .d (.int .i64) none, .fv 210 [] []], [.ag [.d (.int .i64) none, .d (.int .i64) none, .d (.sl (.int .i64)) (some 3)]]⟩
noncomputable def impl_makeChart__impl_AddBorder_1.tbl (k : Nat) : Tbl := [(210, impl_AddBorder_1.spec k)]
theorem impl_makeChart__impl_AddBorder_1.e4 (k : Nat) (o : Nat → St → Option (Int × Int × List Int)) (x0_4 : Int) (x1_4 : Int) (x2_4 : Int) (l3_4 : List Int) (x4_4 : Int) (x5_4 : Int) (l6_4 : List Int) (x7_4 : Int) (x8_4 : Int) : impl_makeChart__impl_AddBorder_1.T.step tyt (impl_makeChart__impl_AddBorder_1.tbl k) o 4 (impl_makeChart__impl_AddBorder_1.S4 x0_4 x1_4 x2_4 l3_4 x4_4 x5_4 l6_4 x7_4 x8_4) = impl_makeChart__impl_AddBorder_1.b4 (fun x0_10 x1_10 x2_10 l3_10 x4_10 x5_10 l6_10 x7_10 x8_10 x9_10 x10_10 x11_10 => o 10 (impl_makeChart__impl_AddBorder_1.S10 x0_10 x1_10 x2_10 l3_10 x4_10 x5_10 l6_10 x7_10 x8_10 x9_10 x10_10 x11_10)) k x0_4 x1_4 x2_4 l3_4 x4_4 x5_4 l6_4 x7_4 x8_4 := by kernel_rfl
theorem impl_makeChart__impl_AddBorder_1.e10 (k : Nat) (o : Nat → St → Option (Int × Int × List Int)) (x0_10 : Int) (x1_10 : Int) (x2_10 : Int) (l3_10 : List Int) (x4_10 : Int) (x5_10 : Int) (l6_10 : List Int) (x7_10 : Int) (x8_10 : Int) (x9_10 : Int) (x10_10 : Int) (x11_10 : Int) : impl_makeChart__impl_AddBorder_1.T.step tyt (impl_makeChart__impl_AddBorder_1.tbl k) o 10 (impl_makeChart__impl_AddBorder_1.S10 x0_10 x1_10 x2_10 l3_10 x4_10 x5_10 l6_10 x7_10 x8_10 x9_10 x10_10 x11_10) = impl_makeChart__impl_AddBorder_1.b10 (fun x0_4 x1_4 x2_4 l3_4 x4_4 x5_4 l6_4 x7_4 x8_4 => o 4 (impl_makeChart__impl_AddBorder_1.S4 x0_4 x1_4 x2_4 l3_4 x4_4 x5_4 l6_4 x7_4 x8_4)) (fun x0_10 x1_10 x2_10 l3_10 x4_10 x5_10 l6_10 x7_10 x8_10 x9_10 x10_10 x11_10 => o 10 (impl_makeChart__impl_AddBorder_1.S10 x0_10 x1_10 x2_10 l3_10 x4_10 x5_10 l6_10 x7_10 x8_10 x9_10 x10_10 x11_10)) k x0_10 x1_10 x2_10 l3_10 x4_10 x5_10 l6_10 x7_10 x8_10 x9_10 x10_10 x11_10 := by kernel_rfl
theorem impl_makeChart__impl_AddBorder_1.e (k : Nat) (o : Nat → St → Option (Int × Int × List Int)) (a0 : Int) (a1 : Int) : impl_makeChart__impl_AddBorder_1.T.main tyt (impl_makeChart__impl_AddBorder_1.tbl k) o (a0, a1) = impl_makeChart__impl_AddBorder_1.m (fun x0_4 x1_4 x2_4 l3_4 x4_4 x5_4 l6_4 x7_4 x8_4 => o 4 (impl_makeChart__impl_AddBorder_1.S4 x0_4 x1_4 x2_4 l3_4 x4_4 x5_4 l6_4 x7_4 x8_4)) k a0 a1 := by kernel_rfl
theorem impl_makeChart__impl_AddBorder_1.ok : impl_makeChart__impl_AddBorder_1.T.ok = true := by kernel_rfl
theorem impl_makeChart__impl_AddBorder_1.run (k : Nat) : (∀ (x0_4 : Int) (x1_4 : Int) (x2_4 : Int) (l3_4 : List Int) (x4_4 : Int) (x5_4 : Int) (l6_4 : List Int) (x7_4 : Int) (x8_4 : Int), impl_makeChart__impl_AddBorder_1.T.run tyt impl_makeChart__impl_AddBorder_1.tbl k 4 (impl_makeChart__impl_AddBorder_1.S4 x0_4 x1_4 x2_4 l3_4 x4_4 x5_4 l6_4 x7_4 x8_4) = impl_makeChart__impl_AddBorder_1.l4 k x0_4 x1_4 x2_4 l3_4 x4_4 x5_4 l6_4 x7_4 x8_4) ∧ (∀ (x0_10 : Int) (x1_10 : Int) (x2_10 : Int) (l3_10 : List Int) (x4_10 : Int) (x5_10 : Int) (l6_10 : List Int) (x7_10 : Int) (x8_10 : Int) (x9_10 : Int) (x10_10 : Int) (x11_10 : Int), impl_makeChart__impl_AddBorder_1.T.run tyt impl_makeChart__impl_AddBorder_1.tbl k 10 (impl_makeChart__impl_AddBorder_1.S10 x0_10 x1_10 x2_10 l3_10 x4_10 x5_10 l6_10 x7_10 x8_10 x9_10 x10_10 x11_10) = impl_makeChart__impl_AddBorder_1.l10 k x0_10 x1_10 x2_10 l3_10 x4_10 x5_10 l6_10 x7_10 x8_10 x9_10 x10_10 x11_10) := by
  induction k with
  | zero => exact ⟨fun x0_4 x1_4 x2_4 l3_4 x4_4 x5_4 l6_4 x7_4 x8_4 => rfl, fun x0_10 x1_10 x2_10 l3_10 x4_10 x5_10 l6_10 x7_10 x8_10 x9_10 x10_10 x11_10 => rfl⟩
  | succ k ih =>
    exact ⟨fun x0_4 x1_4 x2_4 l3_4 x4_4 x5_4 l6_4 x7_4 x8_4 => by
      have q10 : (fun x0_10 x1_10 x2_10 l3_10 x4_10 x5_10 l6_10 x7_10 x8_10 x9_10 x10_10 x11_10 => impl_makeChart__impl_AddBorder_1.T.run tyt impl_makeChart__impl_AddBorder_1.tbl k 10 (impl_makeChart__impl_AddBorder_1.S10 x0_10 x1_10 x2_10 l3_10 x4_10 x5_10 l6_10 x7_10 x8_10 x9_10 x10_10 x11_10)) = impl_makeChart__impl_AddBorder_1.l10 k := by funext x0_10 x1_10 x2_10 l3_10 x4_10 x5_10 l6_10 x7_10 x8_10 x9_10 x10_10 x11_10; exact ih.2 x0_10 x1_10 x2_10 l3_10 x4_10 x5_10 l6_10 x7_10 x8_10 x9_10 x10_10 x11_10
      exact (impl_makeChart__impl_AddBorder_1.e4 k (impl_makeChart__impl_AddBorder_1.T.run tyt impl_makeChart__impl_AddBorder_1.tbl k) x0_4 x1_4 x2_4 l3_4 x4_4 x5_4 l6_4 x7_4 x8_4).trans (by rw [q10]; rfl), fun x0_10 x1_10 x2_10 l3_10 x4_10 x5_10 l6_10 x7_10 x8_10 x9_10 x10_10 x11_10 => by
      have q4 : (fun x0_4 x1_4 x2_4 l3_4 x4_4 x5_4 l6_4 x7_4 x8_4 => impl_makeChart__impl_AddBorder_1.T.run tyt impl_makeChart__impl_AddBorder_1.tbl k 4 (impl_makeChart__impl_AddBorder_1.S4 x0_4 x1_4 x2_4 l3_4 x4_4 x5_4 l6_4 x7_4 x8_4)) = impl_makeChart__impl_AddBorder_1.l4 k := by funext x0_4 x1_4 x2_4 l3_4 x4_4 x5_4 l6_4 x7_4 x8_4; exact ih.1 x0_4 x1_4 x2_4 l3_4 x4_4 x5_4 l6_4 x7_4 x8_4
      have q10 : (fun x0_10 x1_10 x2_10 l3_10 x4_10 x5_10 l6_10 x7_10 x8_10 x9_10 x10_10 x11_10 => impl_makeChart__impl_AddBorder_1.T.run tyt impl_makeChart__impl_AddBorder_1.tbl k 10 (impl_makeChart__impl_AddBorder_1.S10 x0_10 x1_10 x2_10 l3_10 x4_10 x5_10 l6_10 x7_10 x8_10 x9_10 x10_10 x11_10)) = impl_makeChart__impl_AddBorder_1.l10 k := by funext x0_10 x1_10 x2_10 l3_10 x4_10 x5_10 l6_10 x7_10 x8_10 x9_10 x10_10 x11_10; exact ih.2 x0_10 x1_10 x2_10 l3_10 x4_10 x5_10 l6_10 x7_10 x8_10 x9_10 x10_10 x11_10
      exact (impl_makeChart__impl_AddBorder_1.e10 k (impl_makeChart__impl_AddBorder_1.T.run tyt impl_makeChart__impl_AddBorder_1.tbl k) x0_10 x1_10 x2_10 l3_10 x4_10 x5_10 l6_10 x7_10 x8_10 x9_10 x10_10 x11_10).trans (by rw [q4, q10]; rfl)⟩
theorem impl_makeChart__impl_AddBorder_1.tblok (k : Nat) : TblOk Go.Proofs.Try.prog (impl_makeChart__impl_AddBorder_1.tbl k) := TblOk.cons (impl_AddBorder_1.sound k) (TblOk.nil _)
theorem impl_makeChart__impl_AddBorder_1.sound (k : Nat) : Sound Go.Proofs.Try.prog 178 (impl_makeChart__impl_AddBorder_1.spec k) := by
  have h := fn_ok (F := impl_makeChart__impl_AddBorder_1.T) (tbl := impl_makeChart__impl_AddBorder_1.tbl) mixed tyok Go.Proofs.Try.func178 (by kernel_rfl) (c0 := bodyOf Go.Proofs.Try.f178) rfl (conv_code _ _ _) rfl rfl impl_makeChart__impl_AddBorder_1.ok k (fun j _ => impl_makeChart__impl_AddBorder_1.tblok j)
  have q4 : (fun x0_4 x1_4 x2_4 l3_4 x4_4 x5_4 l6_4 x7_4 x8_4 => impl_makeChart__impl_AddBorder_1.T.run tyt impl_makeChart__impl_AddBorder_1.tbl k 4 (impl_makeChart__impl_AddBorder_1.S4 x0_4 x1_4 x2_4 l3_4 x4_4 x5_4 l6_4 x7_4 x8_4)) = impl_makeChart__impl_AddBorder_1.l4 k := by funext x0_4 x1_4 x2_4 l3_4 x4_4 x5_4 l6_4 x7_4 x8_4; exact (impl_makeChart__impl_AddBorder_1.run k).1 x0_4 x1_4 x2_4 l3_4 x4_4 x5_4 l6_4 x7_4 x8_4
  have e : impl_makeChart__impl_AddBorder_1.spec k = ⟨impl_makeChart__impl_AddBorder_1.T.ps, impl_makeChart__impl_AddBorder_1.T.rs, impl_makeChart__impl_AddBorder_1.T.ev tyt impl_makeChart__impl_AddBorder_1.tbl k⟩ := congrArg (FnSpec.mk _ _) (funext fun x => ((impl_makeChart__impl_AddBorder_1.e k (impl_makeChart__impl_AddBorder_1.T.run tyt impl_makeChart__impl_AddBorder_1.tbl k) x.1 x.2).trans (by rw [q4]; rfl)).symm)
  rw [e]
  exact h
/-! ### slices_Clone_int_int: function 234, by hand -/
def slices_Clone_int_int.f (k : Nat) (l0 : List Int) : Option (List Int) := app 17592186044416 ([] : List Int) l0
noncomputable def slices_Clone_int_int.spec (k : Nat) : FnSpec := ⟨[.d (.sl (.int .i64)) none], [.d (.sl (.int .i64)) (some 3)], fun x => slices_Clone_int_int.f k x⟩
theorem slices_Clone_int_int.sound (k : Nat) : Sound Go.Proofs.Try.prog 234 (slices_Clone_int_int.spec k) := clone_ok (t := 22) (e := 3) (ti := tyt22) (ei := tyt3) (nt := Go.Proofs.Try.f234.ntmps) tyok Go.Proofs.Try.func234 (by kernel_rfl) rfl rfl rfl rfl (by decide) rfl rfl ⟨rfl, rfl, rfl⟩ ⟨rfl, rfl, rfl⟩ ⟨rfl, rfl, rfl⟩ ⟨rfl, rfl, rfl⟩ ⟨rfl, rfl, rfl⟩ ⟨rfl, rfl, rfl⟩ ⟨rfl, rfl, rfl⟩ ⟨rfl, rfl, rfl⟩
/-! ### impl_Chart_copied: function 140 -/
def impl_Chart_copied.m (k : Nat) (a0_0 : Int) (a0_1 : Int) (l0_2 : List Int) : Option (Int × Int × List Int) := ((slices_Clone_int_int.f k l0_2).bind fun r1 => (some (a0_0, a0_1, r1)))
def impl_Chart_copied.f (k : Nat) (a0_0 : Int) (a0_1 : Int) (l0_2 : List Int) : Option (Int × Int × List Int) := impl_Chart_copied.m k a0_0 a0_1 l0_2
noncomputable def impl_Chart_copied.spec (k : Nat) : FnSpec := ⟨[.ag [.d (.int .i64) none, .d (.int .i64) none, .d (.sl (.int .i64)) none]], [.ag [.d (.int .i64) none, .d (.int .i64) none, .d (.sl (.int .i64)) (some 3)]], fun x => impl_Chart_copied.f k x.1 x.2.1 x.2.2⟩
noncomputable def impl_Chart_copied.T : FnText := ⟨(conv [] (bodyOf Go.Proofs.Try.f140) 0).1, Go.Proofs.Try.f140.results.toList, 8, [], [.ag [.d (.int .i64) none, .d (.int .i64) none, .d (.sl (.int .i64)) none]], [.ag [.d (.int .i64) none, .d (.int .i64) none, .d (.sl (.int .i64)) (some 3)]]⟩
noncomputable def impl_Chart_copied.tbl (k : Nat) : Tbl := [(234, slices_Clone_int_int.spec k)]
theorem impl_Chart_copied.e (k : Nat) (o : Nat → St → Option (Int × Int × List Int)) (a0_0 : Int) (a0_1 : Int) (l0_2 : List Int) : impl_Chart_copied.T.main tyt (impl_Chart_copied.tbl k) o (a0_0, a0_1, l0_2) = impl_Chart_copied.m k a0_0 a0_1 l0_2 := by kernel_rfl
theorem impl_Chart_copied.ok : impl_Chart_copied.T.ok = true := by kernel_rfl
theorem impl_Chart_copied.tblok (k : Nat) : TblOk Go.Proofs.Try.prog (impl_Chart_copied.tbl k) := TblOk.cons (slices_Clone_int_int.sound k) (TblOk.nil _)
theorem impl_Chart_copied.sound (k : Nat) : Sound Go.Proofs.Try.prog 140 (impl_Chart_copied.spec k) := by
  have h := fn_ok (F := impl_Chart_copied.T) (tbl := impl_Chart_copied.tbl) mixed tyok Go.Proofs.Try.func140 (by kernel_rfl) (c0 := bodyOf Go.Proofs.Try.f140) rfl (conv_code _ _ _) rfl rfl impl_Chart_copied.ok k (fun j _ => impl_Chart_copied.tblok j)
  have e : impl_Chart_copied.spec k = ⟨impl_Chart_copied.T.ps, impl_Chart_copied.T.rs, impl_Chart_copied.T.ev tyt impl_Chart_copied.tbl k⟩ := congrArg (FnSpec.mk _ _) (funext fun x => ((impl_Chart_copied.e k (impl_Chart_copied.T.run tyt impl_Chart_copied.tbl k) x.1 x.2.1 x.2.2).trans (by rfl)).symm)
  rw [e]
  exact h
/-! ### impl_Chart_put: function 169 -/
def impl_Chart_put.b4 (o4 : Int → Int → Int → Int → List Int → Int → Int → List Int → Int → Int → List Int → Int → Int → List Int → Int → Int → Option (Int × Int × List Int)) (k : Nat) (x0_4 : Int) (x1_4 : Int) (x2_4 : Int) (x3_4 : Int) (l4_4 : List Int) (x5_4 : Int) (x6_4 : Int) (l7_4 : List Int) (x8_4 : Int) (x9_4 : Int) (l10_4 : List Int) (x11_4 : Int) (x12_4 : Int) (l13_4 : List Int) (x14_4 : Int) (x15_4 : Int) : Option (Int × Int × List Int) := (if x15_4 < x14_4 then ((cut l13_4.length (w64 ((w64 ((w64 (x0_4 + x15_4)) * x2_4)) + x1_4)) (l13_4.length : Int)).bind fun c2 => ((cut l7_4.length (w64 (x15_4 * x5_4)) (w64 ((w64 (x15_4 + 1)) * x5_4))).bind fun c3 => (o4 x0_4 x1_4 x2_4 x3_4 l4_4 x5_4 x6_4 l7_4 x8_4 x9_4 l10_4 x11_4 x12_4 (lay l13_4 c2.1 c2.2 ((l7_4.drop c3.1).take c3.2)) x14_4 (w64 (x15_4 + 1))))) else (some (x11_4, x12_4, l13_4)))
def impl_Chart_put.l4 : Nat → Int → Int → Int → Int → List Int → Int → Int → List Int → Int → Int → List Int → Int → Int → List Int → Int → Int → Option (Int × Int × List Int)
  | 0, _, _, _, _, _, _, _, _, _, _, _, _, _, _, _, _ => none
  | k + 1, x0_4, x1_4, x2_4, x3_4, l4_4, x5_4, x6_4, l7_4, x8_4, x9_4, l10_4, x11_4, x12_4, l13_4, x14_4, x15_4 => impl_Chart_put.b4 (impl_Chart_put.l4 k) k x0_4 x1_4 x2_4 x3_4 l4_4 x5_4 x6_4 l7_4 x8_4 x9_4 l10_4 x11_4 x12_4 l13_4 x14_4 x15_4
def impl_Chart_put.m (o4 : Int → Int → Int → Int → List Int → Int → Int → List Int → Int → Int → List Int → Int → Int → List Int → Int → Int → Option (Int × Int × List Int)) (k : Nat) (a0_0 : Int) (a0_1 : Int) (l0_2 : List Int) (a1_0 : Int) (a1_1 : Int) (l1_2 : List Int) (a2 : Int) (a3 : Int) : Option (Int × Int × List Int) := ((impl_Chart_copied.f k a0_0 a0_1 l0_2).bind fun r1 => (o4 a2 a3 a0_0 a0_1 l0_2 a1_0 a1_1 l1_2 0 0 [] r1.1 r1.2.1 r1.2.2 a1_1 0))
def impl_Chart_put.f (k : Nat) (a0_0 : Int) (a0_1 : Int) (l0_2 : List Int) (a1_0 : Int) (a1_1 : Int) (l1_2 : List Int) (a2 : Int) (a3 : Int) : Option (Int × Int × List Int) := impl_Chart_put.m (impl_Chart_put.l4 k) k a0_0 a0_1 l0_2 a1_0 a1_1 l1_2 a2 a3
noncomputable def impl_Chart_put.spec (k : Nat) : FnSpec := ⟨[.ag [.d (.int .i64) none, .d (.int .i64) none, .d (.sl (.int .i64)) none], .ag [.d (.int .i64) none, .d (.int .i64) none, .d (.sl (.int .i64)) none], .d (.int .i64) none, .d (.int .i64) none], [.ag [.d (.int .i64) none, .d (.int .i64) none, .d (.sl (.int .i64)) (some 3)]], fun x => impl_Chart_put.f k x.1 x.2.1 x.2.2.1 x.2.2.2.1 x.2.2.2.2.1 x.2.2.2.2.2.1 x.2.2.2.2.2.2.1 x.2.2.2.2.2.2.2⟩
def impl_Chart_put.S4 (x0_4 : Int) (x1_4 : Int) (x2_4 : Int) (x3_4 : Int) (l4_4 : List Int) (x5_4 : Int) (x6_4 : Int) (l7_4 : List Int) (x8_4 : Int) (x9_4 : Int) (l10_4 : List Int) (x11_4 : Int) (x12_4 : Int) (l13_4 : List Int) (x14_4 : Int) (x15_4 : Int) : St := ⟨[(2, .val (.int .i64) x0_4), (3, .val (.int .i64) x1_4), (4, .ptr 100 0), (5, .ptr 101 0), (8, .ptr 102 0), (9, .ptr 103 0), (14, .val (.int .i64) x14_4), (15, .val (.int .i64) x15_4)], [(103, some (.box [.val (.int .i64) x11_4, .val (.int .i64) x12_4, .ref 104])), (104, some (.row 3 (.int .i64) l13_4)), (102, some (.box [.val (.int .i64) x8_4, .val (.int .i64) x9_4, .val (.sl (.int .i64)) l10_4])), (101, some (.box [.val (.int .i64) x5_4, .val (.int .i64) x6_4, .val (.sl (.int .i64)) l7_4])), (100, some (.box [.val (.int .i64) x2_4, .val (.int .i64) x3_4, .val (.sl (.int .i64)) l4_4]))], 1000⟩
noncomputable def impl_Chart_put.T : FnText := ⟨(conv [] (bodyOf Go.Proofs.Try.f169) 0).1, Go.Proofs.Try.f169.results.toList, 44, [(4, [(2, .rd (.int .i64)), (3, .rd (.int .i64)), (4, .bx 100 [.rd (.int .i64), .rd (.int .i64), .rd (.sl (.int .i64))]), (5, .bx 101 [.rd (.int .i64), .rd (.int .i64), .rd (.sl (.int .i64))]), (8, .bx 102 [.rd (.int .i64), .rd (.int .i64), .rd (.sl (.int .i64))]), (9, .bx 103 [.rd (.int .i64), .rd (.int .i64), .own 3 (.int .i64) 104]), (14, .rd (.int .i64)), (15, .rd (.int .i64))])], [.ag [.d (.int .i64) none, .d (.int .i64) none, .d (.sl (.int .i64)) none], .ag [.d (.int .i64) none, .d (.int .i64) none, .d (.sl (.int .i64)) none], .d (.int .i64) none, .d (.int .i64) none], [.ag [.d (.int .i64) none, .d (.int .i64) none, .d (.sl (.int .i64)) (some 3)]]⟩
noncomputable def impl_Chart_put.tbl (k : Nat) : Tbl := [(140, impl_Chart_copied.spec k)]
theorem impl_Chart_put.e4 (k : Nat) (o : Nat → St → Option (Int × Int × List Int)) (x0_4 : Int) (x1_4 : Int) (x2_4 : Int) (x3_4 : Int) (l4_4 : List Int) (x5_4 : Int) (x6_4 : Int) (l7_4 : List Int) (x8_4 : Int) (x9_4 : Int) (l10_4 : List Int) (x11_4 : Int) (x12_4 : Int) (l13_4 : List Int) (x14_4 : Int) (x15_4 : Int) : impl_Chart_put.T.step tyt (impl_Chart_put.tbl k) o 4 (impl_Chart_put.S4 x0_4 x1_4 x2_4 x3_4 l4_4 x5_4 x6_4 l7_4 x8_4 x9_4 l10_4 x11_4 x12_4 l13_4 x14_4 x15_4) = impl_Chart_put.b4 (fun x0_4 x1_4 x2_4 x3_4 l4_4 x5_4 x6_4 l7_4 x8_4 x9_4 l10_4 x11_4 x12_4 l13_4 x14_4 x15_4 => o 4 (impl_Chart_put.S4 x0_4 x1_4 x2_4 x3_4 l4_4 x5_4 x6_4 l7_4 x8_4 x9_4 l10_4 x11_4 x12_4 l13_4 x14_4 x15_4)) k x0_4 x1_4 x2_4 x3_4 l4_4 x5_4 x6_4 l7_4 x8_4 x9_4 l10_4 x11_4 x12_4 l13_4 x14_4 x15_4 := by kernel_rfl
theorem impl_Chart_put.e (k : Nat) (o : Nat → St → Option (Int × Int × List Int)) (a0_0 : Int) (a0_1 : Int) (l0_2 : List Int) (a1_0 : Int) (a1_1 : Int) (l1_2 : List Int) (a2 : Int) (a3 : Int) : impl_Chart_put.T.main tyt (impl_Chart_put.tbl k) o (a0_0, a0_1, l0_2, a1_0, a1_1, l1_2, a2, a3) = impl_Chart_put.m (fun x0_4 x1_4 x2_4 x3_4 l4_4 x5_4 x6_4 l7_4 x8_4 x9_4 l10_4 x11_4 x12_4 l13_4 x14_4 x15_4 => o 4 (impl_Chart_put.S4 x0_4 x1_4 x2_4 x3_4 l4_4 x5_4 x6_4 l7_4 x8_4 x9_4 l10_4 x11_4 x12_4 l13_4 x14_4 x15_4)) k a0_0 a0_1 l0_2 a1_0 a1_1 l1_2 a2 a3 := by kernel_rfl
theorem impl_Chart_put.ok : impl_Chart_put.T.ok = true := by kernel_rfl
theorem impl_Chart_put.run (k : Nat) : (∀ (x0_4 : Int) (x1_4 : Int) (x2_4 : Int) (x3_4 : Int) (l4_4 : List Int) (x5_4 : Int) (x6_4 : Int) (l7_4 : List Int) (x8_4 : Int) (x9_4 : Int) (l10_4 : List Int) (x11_4 : Int) (x12_4 : Int) (l13_4 : List Int) (x14_4 : Int) (x15_4 : Int), impl_Chart_put.T.run tyt impl_Chart_put.tbl k 4 (impl_Chart_put.S4 x0_4 x1_4 x2_4 x3_4 l4_4 x5_4 x6_4 l7_4 x8_4 x9_4 l10_4 x11_4 x12_4 l13_4 x14_4 x15_4) = impl_Chart_put.l4 k x0_4 x1_4 x2_4 x3_4 l4_4 x5_4 x6_4 l7_4 x8_4 x9_4 l10_4 x11_4 x12_4 l13_4 x14_4 x15_4) := by
  induction k with
  | zero => exact fun x0_4 x1_4 x2_4 x3_4 l4_4 x5_4 x6_4 l7_4 x8_4 x9_4 l10_4 x11_4 x12_4 l13_4 x14_4 x15_4 => rfl
  | succ k ih =>
    exact fun x0_4 x1_4 x2_4 x3_4 l4_4 x5_4 x6_4 l7_4 x8_4 x9_4 l10_4 x11_4 x12_4 l13_4 x14_4 x15_4 => by
      have q4 : (fun x0_4 x1_4 x2_4 x3_4 l4_4 x5_4 x6_4 l7_4 x8_4 x9_4 l10_4 x11_4 x12_4 l13_4 x14_4 x15_4 => impl_Chart_put.T.run tyt impl_Chart_put.tbl k 4 (impl_Chart_put.S4 x0_4 x1_4 x2_4 x3_4 l4_4 x5_4 x6_4 l7_4 x8_4 x9_4 l10_4 x11_4 x12_4 l13_4 x14_4 x15_4)) = impl_Chart_put.l4 k := by funext x0_4 x1_4 x2_4 x3_4 l4_4 x5_4 x6_4 l7_4 x8_4 x9_4 l10_4 x11_4 x12_4 l13_4 x14_4 x15_4; exact ih x0_4 x1_4 x2_4 x3_4 l4_4 x5_4 x6_4 l7_4 x8_4 x9_4 l10_4 x11_4 x12_4 l13_4 x14_4 x15_4
      exact (impl_Chart_put.e4 k (impl_Chart_put.T.run tyt impl_Chart_put.tbl k) x0_4 x1_4 x2_4 x3_4 l4_4 x5_4 x6_4 l7_4 x8_4 x9_4 l10_4 x11_4 x12_4 l13_4 x14_4 x15_4).trans (by rw [q4]; rfl)
theorem impl_Chart_put.tblok (k : Nat) : TblOk Go.Proofs.Try.prog (impl_Chart_put.tbl k) := TblOk.cons (impl_Chart_copied.sound k) (TblOk.nil _)
theorem impl_Chart_put.sound (k : Nat) : Sound Go.Proofs.Try.prog 169 (impl_Chart_put.spec k) := by
  have h := fn_ok (F := impl_Chart_put.T) (tbl := impl_Chart_put.tbl) mixed tyok Go.Proofs.Try.func169 (by kernel_rfl) (c0 := bodyOf Go.Proofs.Try.f169) rfl (conv_code _ _ _) rfl rfl impl_Chart_put.ok k (fun j _ => impl_Chart_put.tblok j)
  have q4 : (fun x0_4 x1_4 x2_4 x3_4 l4_4 x5_4 x6_4 l7_4 x8_4 x9_4 l10_4 x11_4 x12_4 l13_4 x14_4 x15_4 => impl_Chart_put.T.run tyt impl_Chart_put.tbl k 4 (impl_Chart_put.S4 x0_4 x1_4 x2_4 x3_4 l4_4 x5_4 x6_4 l7_4 x8_4 x9_4 l10_4 x11_4 x12_4 l13_4 x14_4 x15_4)) = impl_Chart_put.l4 k := by funext x0_4 x1_4 x2_4 x3_4 l4_4 x5_4 x6_4 l7_4 x8_4 x9_4 l10_4 x11_4 x12_4 l13_4 x14_4 x15_4; exact (impl_Chart_put.run k) x0_4 x1_4 x2_4 x3_4 l4_4 x5_4 x6_4 l7_4 x8_4 x9_4 l10_4 x11_4 x12_4 l13_4 x14_4 x15_4
  have e : impl_Chart_put.spec k = ⟨impl_Chart_put.T.ps, impl_Chart_put.T.rs, impl_Chart_put.T.ev tyt impl_Chart_put.tbl k⟩ := congrArg (FnSpec.mk _ _) (funext fun x => ((impl_Chart_put.e k (impl_Chart_put.T.run tyt impl_Chart_put.tbl k) x.1 x.2.1 x.2.2.1 x.2.2.2.1 x.2.2.2.2.1 x.2.2.2.2.2.1 x.2.2.2.2.2.2.1 x.2.2.2.2.2.2.2).trans (by rw [q4]; rfl)).symm)
  rw [e]
  exact h
/-! ### impl_ringLength: function 186 -/
def impl_ringLength.m (k : Nat) (a0 : Int) (a1 : Int) : Option (Int) := (some (w64 ((w64 (2 * (w64 (a0 + a1)))) - 4)))
def impl_ringLength.f (k : Nat) (a0 : Int) (a1 : Int) : Option (Int) := impl_ringLength.m k a0 a1
noncomputable def impl_ringLength.spec (k : Nat) : FnSpec := ⟨[.d (.int .i64) none, .d (.int .i64) none], [.d (.int .i64) none], fun x => impl_ringLength.f k x.1 x.2⟩
noncomputable def impl_ringLength.T : FnText := ⟨(conv [] (bodyOf Go.Proofs.Try.f186) 0).1, Go.Proofs.Try.f186.results.toList, 10, [], [.d (.int .i64) none, .d (.int .i64) none], [.d (.int .i64) none]⟩
noncomputable def impl_ringLength.tbl (k : Nat) : Tbl := []
theorem impl_ringLength.e (k : Nat) (o : Nat → St → Option (Int)) (a0 : Int) (a1 : Int) : impl_ringLength.T.main tyt (impl_ringLength.tbl k) o (a0, a1) = impl_ringLength.m k a0 a1 := by kernel_rfl
theorem impl_ringLength.ok : impl_ringLength.T.ok = true := by kernel_rfl
theorem impl_ringLength.tblok (k : Nat) : TblOk Go.Proofs.Try.prog (impl_ringLength.tbl k) := TblOk.nil _
theorem impl_ringLength.sound (k : Nat) : Sound Go.Proofs.Try.prog 186 (impl_ringLength.spec k) := by
  have h := fn_ok (F := impl_ringLength.T) (tbl := impl_ringLength.tbl) mixed tyok Go.Proofs.Try.func186 (by kernel_rfl) (c0 := bodyOf Go.Proofs.Try.f186) rfl (conv_code _ _ _) rfl rfl impl_ringLength.ok k (fun j _ => impl_ringLength.tblok j)
  have e : impl_ringLength.spec k = ⟨impl_ringLength.T.ps, impl_ringLength.T.rs, impl_ringLength.T.ev tyt impl_ringLength.tbl k⟩ := congrArg (FnSpec.mk _ _) (funext fun x => ((impl_ringLength.e k (impl_ringLength.T.run tyt impl_ringLength.tbl k) x.1 x.2).trans (by rfl)).symm)
  rw [e]
  exact h
/-! ### impl_ringPlaces: function 242 -/
def impl_ringPlaces.b4 (o4 : Int → Int → List Int → Int → Int → Option (List Int)) (o11 : Int → Int → List Int → Int → Option (List Int)) (k : Nat) (x0_4 : Int) (x1_4 : Int) (l2_4 : List Int) (x3_4 : Int) (x4_4 : Int) : Option (List Int) := (if x4_4 < x3_4 then ((app 17592186044416 l2_4 [x4_4]).bind fun l1 => (o4 x0_4 x1_4 l1 x3_4 (w64 (x4_4 + 1)))) else (o11 x0_4 x1_4 l2_4 1))
def impl_ringPlaces.b11 (o11 : Int → Int → List Int → Int → Option (List Int)) (o17 : Int → Int → List Int → Int → Option (List Int)) (k : Nat) (x0_11 : Int) (x1_11 : Int) (l2_11 : List Int) (x3_11 : Int) : Option (List Int) := (if x3_11 < x1_11 then ((app 17592186044416 l2_11 [(w64 ((w64 ((w64 (x3_11 * x0_11)) + x0_11)) - 1))]).bind fun l2 => (o11 x0_11 x1_11 l2 (w64 (x3_11 + 1)))) else (o17 x0_11 x1_11 l2_11 (w64 (x0_11 - 2))))
def impl_ringPlaces.b17 (o17 : Int → Int → List Int → Int → Option (List Int)) (o23 : Int → List Int → Int → Option (List Int)) (k : Nat) (x0_17 : Int) (x1_17 : Int) (l2_17 : List Int) (x3_17 : Int) : Option (List Int) := (if 0 ≤ x3_17 then ((app 17592186044416 l2_17 [(w64 ((w64 ((w64 (x1_17 - 1)) * x0_17)) + x3_17))]).bind fun l3 => (o17 x0_17 x1_17 l3 (w64 (x3_17 - 1)))) else (o23 x0_17 l2_17 (w64 (x1_17 - 2))))
def impl_ringPlaces.b23 (o23 : Int → List Int → Int → Option (List Int)) (k : Nat) (x0_23 : Int) (l1_23 : List Int) (x2_23 : Int) : Option (List Int) := (if 0 < x2_23 then ((app 17592186044416 l1_23 [(w64 (x2_23 * x0_23))]).bind fun l4 => (o23 x0_23 l4 (w64 (x2_23 - 1)))) else (some l1_23))
mutual
def impl_ringPlaces.l4 : Nat → Int → Int → List Int → Int → Int → Option (List Int)
  | 0, _, _, _, _, _ => none
  | k + 1, x0_4, x1_4, l2_4, x3_4, x4_4 => impl_ringPlaces.b4 (impl_ringPlaces.l4 k) (impl_ringPlaces.l11 k) k x0_4 x1_4 l2_4 x3_4 x4_4
def impl_ringPlaces.l11 : Nat → Int → Int → List Int → Int → Option (List Int)
  | 0, _, _, _, _ => none
  | k + 1, x0_11, x1_11, l2_11, x3_11 => impl_ringPlaces.b11 (impl_ringPlaces.l11 k) (impl_ringPlaces.l17 k) k x0_11 x1_11 l2_11 x3_11
def impl_ringPlaces.l17 : Nat → Int → Int → List Int → Int → Option (List Int)
  | 0, _, _, _, _ => none
  | k + 1, x0_17, x1_17, l2_17, x3_17 => impl_ringPlaces.b17 (impl_ringPlaces.l17 k) (impl_ringPlaces.l23 k) k x0_17 x1_17 l2_17 x3_17
def impl_ringPlaces.l23 : Nat → Int → List Int → Int → Option (List Int)
  | 0, _, _, _ => none
  | k + 1, x0_23, l1_23, x2_23 => impl_ringPlaces.b23 (impl_ringPlaces.l23 k) k x0_23 l1_23 x2_23
end
def impl_ringPlaces.m (o4 : Int → Int → List Int → Int → Int → Option (List Int)) (k : Nat) (a0 : Int) (a1 : Int) : Option (List Int) := (o4 a0 a1 ([] : List (Int)) a0 0)
def impl_ringPlaces.f (k : Nat) (a0 : Int) (a1 : Int) : Option (List Int) := impl_ringPlaces.m (impl_ringPlaces.l4 k) k a0 a1
noncomputable def impl_ringPlaces.spec (k : Nat) : FnSpec := ⟨[.d (.int .i64) none, .d (.int .i64) none], [.d (.sl (.int .i64)) (some 3)], fun x => impl_ringPlaces.f k x.1 x.2⟩
def impl_ringPlaces.S4 (x0_4 : Int) (x1_4 : Int) (l2_4 : List Int) (x3_4 : Int) (x4_4 : Int) : St := ⟨[(0, .val (.int .i64) x0_4), (1, .val (.int .i64) x1_4), (5, .ref 100), (11, .val (.int .i64) x3_4), (12, .val (.int .i64) x4_4)], [(100, some (.row 3 (.int .i64) l2_4))], 1000⟩
def impl_ringPlaces.S11 (x0_11 : Int) (x1_11 : Int) (l2_11 : List Int) (x3_11 : Int) : St := ⟨[(0, .val (.int .i64) x0_11), (1, .val (.int .i64) x1_11), (5, .ref 100), (7, .val (.int .i64) x3_11)], [(100, some (.row 3 (.int .i64) l2_11))], 1000⟩
def impl_ringPlaces.S17 (x0_17 : Int) (x1_17 : Int) (l2_17 : List Int) (x3_17 : Int) : St := ⟨[(0, .val (.int .i64) x0_17), (1, .val (.int .i64) x1_17), (5, .ref 100), (8, .val (.int .i64) x3_17)], [(100, some (.row 3 (.int .i64) l2_17))], 1000⟩
def impl_ringPlaces.S23 (x0_23 : Int) (l1_23 : List Int) (x2_23 : Int) : St := ⟨[(0, .val (.int .i64) x0_23), (5, .ref 100), (9, .val (.int .i64) x2_23)], [(100, some (.row 3 (.int .i64) l1_23))], 1000⟩
noncomputable def impl_ringPlaces.T : FnText := ⟨(conv [] (bodyOf Go.Proofs.Try.f242) 0).1, Go.Proofs.Try.f242.results.toList, 62, [(4, [(0, .rd (.int .i64)), (1, .rd (.int .i64)), (5, .own 3 (.int .i64) 100), (11, .rd (.int .i64)), (12, .rd (.int .i64))]), (11, [(0, .rd (.int .i64)), (1, .rd (.int .i64)), (5, .own 3 (.int .i64) 100), (7, .rd (.int .i64))]), (17, [(0, .rd (.int .i64)), (1, .rd (.int .i64)), (5, .own 3 (.int .i64) 100), (8, .rd (.int .i64))]), (23, [(0, .rd (.int .i64)), (5, .own 3 (.int .i64) 100), (9, .rd (.int .i64))])], [.d (.int .i64) none, .d (.int .i64) none], [.d (.sl (.int .i64)) (some 3)]⟩
noncomputable def impl_ringPlaces.tbl (k : Nat) : Tbl := []
theorem impl_ringPlaces.e4 (k : Nat) (o : Nat → St → Option (List Int)) (x0_4 : Int) (x1_4 : Int) (l2_4 : List Int) (x3_4 : Int) (x4_4 : Int) : impl_ringPlaces.T.step tyt (impl_ringPlaces.tbl k) o 4 (impl_ringPlaces.S4 x0_4 x1_4 l2_4 x3_4 x4_4) = impl_ringPlaces.b4 (fun x0_4 x1_4 l2_4 x3_4 x4_4 => o 4 (impl_ringPlaces.S4 x0_4 x1_4 l2_4 x3_4 x4_4)) (fun x0_11 x1_11 l2_11 x3_11 => o 11 (impl_ringPlaces.S11 x0_11 x1_11 l2_11 x3_11)) k x0_4 x1_4 l2_4 x3_4 x4_4 := by kernel_rfl
theorem impl_ringPlaces.e11 (k : Nat) (o : Nat → St → Option (List Int)) (x0_11 : Int) (x1_11 : Int) (l2_11 : List Int) (x3_11 : Int) : impl_ringPlaces.T.step tyt (impl_ringPlaces.tbl k) o 11 (impl_ringPlaces.S11 x0_11 x1_11 l2_11 x3_11) = impl_ringPlaces.b11 (fun x0_11 x1_11 l2_11 x3_11 => o 11 (impl_ringPlaces.S11 x0_11 x1_11 l2_11 x3_11)) (fun x0_17 x1_17 l2_17 x3_17 => o 17 (impl_ringPlaces.S17 x0_17 x1_17 l2_17 x3_17)) k x0_11 x1_11 l2_11 x3_11 := by kernel_rfl
theorem impl_ringPlaces.e17 (k : Nat) (o : Nat → St → Option (List Int)) (x0_17 : Int) (x1_17 : Int) (l2_17 : List Int) (x3_17 : Int) : impl_ringPlaces.T.step tyt (impl_ringPlaces.tbl k) o 17 (impl_ringPlaces.S17 x0_17 x1_17 l2_17 x3_17) = impl_ringPlaces.b17 (fun x0_17 x1_17 l2_17 x3_17 => o 17 (impl_ringPlaces.S17 x0_17 x1_17 l2_17 x3_17)) (fun x0_23 l1_23 x2_23 => o 23 (impl_ringPlaces.S23 x0_23 l1_23 x2_23)) k x0_17 x1_17 l2_17 x3_17 := by kernel_rfl
theorem impl_ringPlaces.e23 (k : Nat) (o : Nat → St → Option (List Int)) (x0_23 : Int) (l1_23 : List Int) (x2_23 : Int) : impl_ringPlaces.T.step tyt (impl_ringPlaces.tbl k) o 23 (impl_ringPlaces.S23 x0_23 l1_23 x2_23) = impl_ringPlaces.b23 (fun x0_23 l1_23 x2_23 => o 23 (impl_ringPlaces.S23 x0_23 l1_23 x2_23)) k x0_23 l1_23 x2_23 := by kernel_rfl
theorem impl_ringPlaces.e (k : Nat) (o : Nat → St → Option (List Int)) (a0 : Int) (a1 : Int) : impl_ringPlaces.T.main tyt (impl_ringPlaces.tbl k) o (a0, a1) = impl_ringPlaces.m (fun x0_4 x1_4 l2_4 x3_4 x4_4 => o 4 (impl_ringPlaces.S4 x0_4 x1_4 l2_4 x3_4 x4_4)) k a0 a1 := by kernel_rfl
theorem impl_ringPlaces.ok : impl_ringPlaces.T.ok = true := by kernel_rfl
theorem impl_ringPlaces.run (k : Nat) : (∀ (x0_4 : Int) (x1_4 : Int) (l2_4 : List Int) (x3_4 : Int) (x4_4 : Int), impl_ringPlaces.T.run tyt impl_ringPlaces.tbl k 4 (impl_ringPlaces.S4 x0_4 x1_4 l2_4 x3_4 x4_4) = impl_ringPlaces.l4 k x0_4 x1_4 l2_4 x3_4 x4_4) ∧ (∀ (x0_11 : Int) (x1_11 : Int) (l2_11 : List Int) (x3_11 : Int), impl_ringPlaces.T.run tyt impl_ringPlaces.tbl k 11 (impl_ringPlaces.S11 x0_11 x1_11 l2_11 x3_11) = impl_ringPlaces.l11 k x0_11 x1_11 l2_11 x3_11) ∧ (∀ (x0_17 : Int) (x1_17 : Int) (l2_17 : List Int) (x3_17 : Int), impl_ringPlaces.T.run tyt impl_ringPlaces.tbl k 17 (impl_ringPlaces.S17 x0_17 x1_17 l2_17 x3_17) = impl_ringPlaces.l17 k x0_17 x1_17 l2_17 x3_17) ∧ (∀ (x0_23 : Int) (l1_23 : List Int) (x2_23 : Int), impl_ringPlaces.T.run tyt impl_ringPlaces.tbl k 23 (impl_ringPlaces.S23 x0_23 l1_23 x2_23) = impl_ringPlaces.l23 k x0_23 l1_23 x2_23) := by
  induction k with
  | zero => exact ⟨fun x0_4 x1_4 l2_4 x3_4 x4_4 => rfl, fun x0_11 x1_11 l2_11 x3_11 => rfl, fun x0_17 x1_17 l2_17 x3_17 => rfl, fun x0_23 l1_23 x2_23 => rfl⟩
  | succ k ih =>
    exact ⟨fun x0_4 x1_4 l2_4 x3_4 x4_4 => by
      have q4 : (fun x0_4 x1_4 l2_4 x3_4 x4_4 => impl_ringPlaces.T.run tyt impl_ringPlaces.tbl k 4 (impl_ringPlaces.S4 x0_4 x1_4 l2_4 x3_4 x4_4)) = impl_ringPlaces.l4 k := by funext x0_4 x1_4 l2_4 x3_4 x4_4; exact ih.1 x0_4 x1_4 l2_4 x3_4 x4_4
      have q11 : (fun x0_11 x1_11 l2_11 x3_11 => impl_ringPlaces.T.run tyt impl_ringPlaces.tbl k 11 (impl_ringPlaces.S11 x0_11 x1_11 l2_11 x3_11)) = impl_ringPlaces.l11 k := by funext x0_11 x1_11 l2_11 x3_11; exact ih.2.1 x0_11 x1_11 l2_11 x3_11
      exact (impl_ringPlaces.e4 k (impl_ringPlaces.T.run tyt impl_ringPlaces.tbl k) x0_4 x1_4 l2_4 x3_4 x4_4).trans (by rw [q4, q11]; rfl), fun x0_11 x1_11 l2_11 x3_11 => by
      have q11 : (fun x0_11 x1_11 l2_11 x3_11 => impl_ringPlaces.T.run tyt impl_ringPlaces.tbl k 11 (impl_ringPlaces.S11 x0_11 x1_11 l2_11 x3_11)) = impl_ringPlaces.l11 k := by funext x0_11 x1_11 l2_11 x3_11; exact ih.2.1 x0_11 x1_11 l2_11 x3_11
      have q17 : (fun x0_17 x1_17 l2_17 x3_17 => impl_ringPlaces.T.run tyt impl_ringPlaces.tbl k 17 (impl_ringPlaces.S17 x0_17 x1_17 l2_17 x3_17)) = impl_ringPlaces.l17 k := by funext x0_17 x1_17 l2_17 x3_17; exact ih.2.2.1 x0_17 x1_17 l2_17 x3_17
      exact (impl_ringPlaces.e11 k (impl_ringPlaces.T.run tyt impl_ringPlaces.tbl k) x0_11 x1_11 l2_11 x3_11).trans (by rw [q11, q17]; rfl), fun x0_17 x1_17 l2_17 x3_17 => by
      have q17 : (fun x0_17 x1_17 l2_17 x3_17 => impl_ringPlaces.T.run tyt impl_ringPlaces.tbl k 17 (impl_ringPlaces.S17 x0_17 x1_17 l2_17 x3_17)) = impl_ringPlaces.l17 k := by funext x0_17 x1_17 l2_17 x3_17; exact ih.2.2.1 x0_17 x1_17 l2_17 x3_17
      have q23 : (fun x0_23 l1_23 x2_23 => impl_ringPlaces.T.run tyt impl_ringPlaces.tbl k 23 (impl_ringPlaces.S23 x0_23 l1_23 x2_23)) = impl_ringPlaces.l23 k := by funext x0_23 l1_23 x2_23; exact ih.2.2.2 x0_23 l1_23 x2_23
      exact (impl_ringPlaces.e17 k (impl_ringPlaces.T.run tyt impl_ringPlaces.tbl k) x0_17 x1_17 l2_17 x3_17).trans (by rw [q17, q23]; rfl), fun x0_23 l1_23 x2_23 => by
      have q23 : (fun x0_23 l1_23 x2_23 => impl_ringPlaces.T.run tyt impl_ringPlaces.tbl k 23 (impl_ringPlaces.S23 x0_23 l1_23 x2_23)) = impl_ringPlaces.l23 k := by funext x0_23 l1_23 x2_23; exact ih.2.2.2 x0_23 l1_23 x2_23
      exact (impl_ringPlaces.e23 k (impl_ringPlaces.T.run tyt impl_ringPlaces.tbl k) x0_23 l1_23 x2_23).trans (by rw [q23]; rfl)⟩
theorem impl_ringPlaces.tblok (k : Nat) : TblOk Go.Proofs.Try.prog (impl_ringPlaces.tbl k) := TblOk.nil _
theorem impl_ringPlaces.sound (k : Nat) : Sound Go.Proofs.Try.prog 242 (impl_ringPlaces.spec k) := by
  have h := fn_ok (F := impl_ringPlaces.T) (tbl := impl_ringPlaces.tbl) mixed tyok Go.Proofs.Try.func242 (by kernel_rfl) (c0 := bodyOf Go.Proofs.Try.f242) rfl (conv_code _ _ _) rfl rfl impl_ringPlaces.ok k (fun j _ => impl_ringPlaces.tblok j)
  have q4 : (fun x0_4 x1_4 l2_4 x3_4 x4_4 => impl_ringPlaces.T.run tyt impl_ringPlaces.tbl k 4 (impl_ringPlaces.S4 x0_4 x1_4 l2_4 x3_4 x4_4)) = impl_ringPlaces.l4 k := by funext x0_4 x1_4 l2_4 x3_4 x4_4; exact (impl_ringPlaces.run k).1 x0_4 x1_4 l2_4 x3_4 x4_4
  have e : impl_ringPlaces.spec k = ⟨impl_ringPlaces.T.ps, impl_ringPlaces.T.rs, impl_ringPlaces.T.ev tyt impl_ringPlaces.tbl k⟩ := congrArg (FnSpec.mk _ _) (funext fun x => ((impl_ringPlaces.e k (impl_ringPlaces.T.run tyt impl_ringPlaces.tbl k) x.1 x.2).trans (by rw [q4]; rfl)).symm)
  rw [e]
  exact h
/-! ### impl_Chart_withRing: function 187 -/
def impl_Chart_withRing.b4 (o4 : List Int → Int → Int → List Int → Int → Int → List Int → List Int → Int → Int → Option (Int × Int × List Int)) (k : Nat) (l0_4 : List Int) (x1_4 : Int) (x2_4 : Int) (l3_4 : List Int) (x4_4 : Int) (x5_4 : Int) (l6_4 : List Int) (l7_4 : List Int) (x8_4 : Int) (x9_4 : Int) : Option (Int × Int × List Int) := (if x9_4 < x8_4 then ((chk l7_4.length x9_4).bind fun i3 => ((rem x9_4 (l0_4.length : Int)).bind fun q4 => ((chk l0_4.length q4).bind fun i5 => ((chk l6_4.length (l7_4.getD i3 0)).bind fun i6 => (o4 l0_4 x1_4 x2_4 l3_4 x4_4 x5_4 (l6_4.set i6 (l0_4.getD i5 0)) l7_4 x8_4 (w64 (x9_4 + 1))))))) else (some (x4_4, x5_4, l6_4)))
def impl_Chart_withRing.l4 : Nat → List Int → Int → Int → List Int → Int → Int → List Int → List Int → Int → Int → Option (Int × Int × List Int)
  | 0, _, _, _, _, _, _, _, _, _, _ => none
  | k + 1, l0_4, x1_4, x2_4, l3_4, x4_4, x5_4, l6_4, l7_4, x8_4, x9_4 => impl_Chart_withRing.b4 (impl_Chart_withRing.l4 k) k l0_4 x1_4 x2_4 l3_4 x4_4 x5_4 l6_4 l7_4 x8_4 x9_4
def impl_Chart_withRing.m (o4 : List Int → Int → Int → List Int → Int → Int → List Int → List Int → Int → Int → Option (Int × Int × List Int)) (k : Nat) (a0_0 : Int) (a0_1 : Int) (l0_2 : List Int) (l1 : List Int) : Option (Int × Int × List Int) := ((impl_Chart_copied.f k a0_0 a0_1 l0_2).bind fun r1 => ((impl_ringPlaces.f k a0_0 a0_1).bind fun r2 => (o4 l1 0 0 [] r1.1 r1.2.1 r1.2.2 r2 (r2.length : Int) 0)))
def impl_Chart_withRing.f (k : Nat) (a0_0 : Int) (a0_1 : Int) (l0_2 : List Int) (l1 : List Int) : Option (Int × Int × List Int) := impl_Chart_withRing.m (impl_Chart_withRing.l4 k) k a0_0 a0_1 l0_2 l1
noncomputable def impl_Chart_withRing.spec (k : Nat) : FnSpec := ⟨[.ag [.d (.int .i64) none, .d (.int .i64) none, .d (.sl (.int .i64)) none], .d (.sl (.int .i64)) none], [.ag [.d (.int .i64) none, .d (.int .i64) none, .d (.sl (.int .i64)) (some 3)]], fun x => impl_Chart_withRing.f k x.1 x.2.1 x.2.2.1 x.2.2.2⟩
def impl_Chart_withRing.S4 (l0_4 : List Int) (x1_4 : Int) (x2_4 : Int) (l3_4 : List Int) (x4_4 : Int) (x5_4 : Int) (l6_4 : List Int) (l7_4 : List Int) (x8_4 : Int) (x9_4 : Int) : St := ⟨[(1, .val (.sl (.int .i64)) l0_4), (4, .ptr 100 0), (5, .ptr 101 0), (14, .ref 103), (15, .val (.int .i64) x8_4), (16, .val (.int .i64) x9_4)], [(103, some (.row 3 (.int .i64) l7_4)), (101, some (.box [.val (.int .i64) x4_4, .val (.int .i64) x5_4, .ref 102])), (102, some (.row 3 (.int .i64) l6_4)), (100, some (.box [.val (.int .i64) x1_4, .val (.int .i64) x2_4, .val (.sl (.int .i64)) l3_4]))], 1000⟩
noncomputable def impl_Chart_withRing.T : FnText := ⟨(conv [] (bodyOf Go.Proofs.Try.f187) 0).1, Go.Proofs.Try.f187.results.toList, 34, [(4, [(1, .rd (.sl (.int .i64))), (4, .bx 100 [.rd (.int .i64), .rd (.int .i64), .rd (.sl (.int .i64))]), (5, .bx 101 [.rd (.int .i64), .rd (.int .i64), .own 3 (.int .i64) 102]), (14, .own 3 (.int .i64) 103), (15, .rd (.int .i64)), (16, .rd (.int .i64))])], [.ag [.d (.int .i64) none, .d (.int .i64) none, .d (.sl (.int .i64)) none], .d (.sl (.int .i64)) none], [.ag [.d (.int .i64) none, .d (.int .i64) none, .d (.sl (.int .i64)) (some 3)]]⟩
noncomputable def impl_Chart_withRing.tbl (k : Nat) : Tbl := [(140, impl_Chart_copied.spec k), (242, impl_ringPlaces.spec k)]
theorem impl_Chart_withRing.e4 (k : Nat) (o : Nat → St → Option (Int × Int × List Int)) (l0_4 : List Int) (x1_4 : Int) (x2_4 : Int) (l3_4 : List Int) (x4_4 : Int) (x5_4 : Int) (l6_4 : List Int) (l7_4 : List Int) (x8_4 : Int) (x9_4 : Int) : impl_Chart_withRing.T.step tyt (impl_Chart_withRing.tbl k) o 4 (impl_Chart_withRing.S4 l0_4 x1_4 x2_4 l3_4 x4_4 x5_4 l6_4 l7_4 x8_4 x9_4) = impl_Chart_withRing.b4 (fun l0_4 x1_4 x2_4 l3_4 x4_4 x5_4 l6_4 l7_4 x8_4 x9_4 => o 4 (impl_Chart_withRing.S4 l0_4 x1_4 x2_4 l3_4 x4_4 x5_4 l6_4 l7_4 x8_4 x9_4)) k l0_4 x1_4 x2_4 l3_4 x4_4 x5_4 l6_4 l7_4 x8_4 x9_4 := by kernel_rfl
theorem impl_Chart_withRing.e (k : Nat) (o : Nat → St → Option (Int × Int × List Int)) (a0_0 : Int) (a0_1 : Int) (l0_2 : List Int) (l1 : List Int) : impl_Chart_withRing.T.main tyt (impl_Chart_withRing.tbl k) o (a0_0, a0_1, l0_2, l1) = impl_Chart_withRing.m (fun l0_4 x1_4 x2_4 l3_4 x4_4 x5_4 l6_4 l7_4 x8_4 x9_4 => o 4 (impl_Chart_withRing.S4 l0_4 x1_4 x2_4 l3_4 x4_4 x5_4 l6_4 l7_4 x8_4 x9_4)) k a0_0 a0_1 l0_2 l1 := by kernel_rfl
theorem impl_Chart_withRing.ok : impl_Chart_withRing.T.ok = true := by kernel_rfl
theorem impl_Chart_withRing.run (k : Nat) : (∀ (l0_4 : List Int) (x1_4 : Int) (x2_4 : Int) (l3_4 : List Int) (x4_4 : Int) (x5_4 : Int) (l6_4 : List Int) (l7_4 : List Int) (x8_4 : Int) (x9_4 : Int), impl_Chart_withRing.T.run tyt impl_Chart_withRing.tbl k 4 (impl_Chart_withRing.S4 l0_4 x1_4 x2_4 l3_4 x4_4 x5_4 l6_4 l7_4 x8_4 x9_4) = impl_Chart_withRing.l4 k l0_4 x1_4 x2_4 l3_4 x4_4 x5_4 l6_4 l7_4 x8_4 x9_4) := by
  induction k with
  | zero => exact fun l0_4 x1_4 x2_4 l3_4 x4_4 x5_4 l6_4 l7_4 x8_4 x9_4 => rfl
  | succ k ih =>
    exact fun l0_4 x1_4 x2_4 l3_4 x4_4 x5_4 l6_4 l7_4 x8_4 x9_4 => by
      have q4 : (fun l0_4 x1_4 x2_4 l3_4 x4_4 x5_4 l6_4 l7_4 x8_4 x9_4 => impl_Chart_withRing.T.run tyt impl_Chart_withRing.tbl k 4 (impl_Chart_withRing.S4 l0_4 x1_4 x2_4 l3_4 x4_4 x5_4 l6_4 l7_4 x8_4 x9_4)) = impl_Chart_withRing.l4 k := by funext l0_4 x1_4 x2_4 l3_4 x4_4 x5_4 l6_4 l7_4 x8_4 x9_4; exact ih l0_4 x1_4 x2_4 l3_4 x4_4 x5_4 l6_4 l7_4 x8_4 x9_4
      exact (impl_Chart_withRing.e4 k (impl_Chart_withRing.T.run tyt impl_Chart_withRing.tbl k) l0_4 x1_4 x2_4 l3_4 x4_4 x5_4 l6_4 l7_4 x8_4 x9_4).trans (by rw [q4]; rfl)
theorem impl_Chart_withRing.tblok (k : Nat) : TblOk Go.Proofs.Try.prog (impl_Chart_withRing.tbl k) := TblOk.cons (impl_Chart_copied.sound k) (TblOk.cons (impl_ringPlaces.sound k) (TblOk.nil _))
theorem impl_Chart_withRing.sound (k : Nat) : Sound Go.Proofs.Try.prog 187 (impl_Chart_withRing.spec k) := by
  have h := fn_ok (F := impl_Chart_withRing.T) (tbl := impl_Chart_withRing.tbl) mixed tyok Go.Proofs.Try.func187 (by kernel_rfl) (c0 := bodyOf Go.Proofs.Try.f187) rfl (conv_code _ _ _) rfl rfl impl_Chart_withRing.ok k (fun j _ => impl_Chart_withRing.tblok j)
  have q4 : (fun l0_4 x1_4 x2_4 l3_4 x4_4 x5_4 l6_4 l7_4 x8_4 x9_4 => impl_Chart_withRing.T.run tyt impl_Chart_withRing.tbl k 4 (impl_Chart_withRing.S4 l0_4 x1_4 x2_4 l3_4 x4_4 x5_4 l6_4 l7_4 x8_4 x9_4)) = impl_Chart_withRing.l4 k := by funext l0_4 x1_4 x2_4 l3_4 x4_4 x5_4 l6_4 l7_4 x8_4 x9_4; exact (impl_Chart_withRing.run k) l0_4 x1_4 x2_4 l3_4 x4_4 x5_4 l6_4 l7_4 x8_4 x9_4
  have e : impl_Chart_withRing.spec k = ⟨impl_Chart_withRing.T.ps, impl_Chart_withRing.T.rs, impl_Chart_withRing.T.ev tyt impl_Chart_withRing.tbl k⟩ := congrArg (FnSpec.mk _ _) (funext fun x => ((impl_Chart_withRing.e k (impl_Chart_withRing.T.run tyt impl_Chart_withRing.tbl k) x.1 x.2.1 x.2.2.1 x.2.2.2).trans (by rw [q4]; rfl)).symm)
  rw [e]
  exact h
/-! ### impl_AddBorder: function 93 -/
def impl_AddBorder.m (k : Nat) (a0_0 : Int) (a0_1 : Int) (l0_2 : List Int) (l1 : List Int) : Option (Int × Int × List Int × Bool) := ((impl_IsChart.f k a0_0 a0_1 l0_2).bind fun r1 => (cond (!r1) (some (0, 0, [], false)) ((impl_isPattern.f k l1).bind fun r2 => (cond (!r2) (some (0, 0, [], false)) ((impl_isSide.f k (w64 (a0_0 + 2))).bind fun r3 => (cond (!r3) (some (0, 0, [], false)) ((impl_isSide.f k (w64 (a0_1 + 2))).bind fun r4 => (cond (!r4) (some (0, 0, [], false)) ((impl_makeChart__impl_AddBorder_1.f k (w64 (a0_0 + 2)) (w64 (a0_1 + 2))).bind fun r5 => ((impl_Chart_put.f k r5.1 r5.2.1 r5.2.2 a0_0 a0_1 l0_2 1 1).bind fun r6 => ((impl_ringLength.f k r6.1 r6.2.1).bind fun r7 => ((rem r7 (l1.length : Int)).bind fun q8 => (if ¬ q8 = 0 then (some (0, 0, [], false)) else ((impl_Chart_withRing.f k r6.1 r6.2.1 r6.2.2 l1).bind fun r9 => (some (r9.1, r9.2.1, r9.2.2, true))))))))))))))))
def impl_AddBorder.f (k : Nat) (a0_0 : Int) (a0_1 : Int) (l0_2 : List Int) (l1 : List Int) : Option (Int × Int × List Int × Bool) := impl_AddBorder.m k a0_0 a0_1 l0_2 l1
noncomputable def impl_AddBorder.spec (k : Nat) : FnSpec := ⟨[.ag [.d (.int .i64) none, .d (.int .i64) none, .d (.sl (.int .i64)) none], .d (.sl (.int .i64)) none], [.ag [.d (.int .i64) none, .d (.int .i64) none, .d (.sl (.int .i64)) (some 3)], .d .bool none], fun x => impl_AddBorder.f k x.1 x.2.1 x.2.2.1 x.2.2.2⟩
noncomputable def impl_AddBorder.T : FnText := ⟨(conv [] (bodyOf Go.Proofs.Try.f93) 0).1, Go.Proofs.Try.f93.results.toList, 52, [], [.ag [.d (.int .i64) none, .d (.int .i64) none, .d (.sl (.int .i64)) none], .d (.sl (.int .i64)) none], [.ag [.d (.int .i64) none, .d (.int .i64) none, .d (.sl (.int .i64)) (some 3)], .d .bool none]⟩
noncomputable def impl_AddBorder.tbl (k : Nat) : Tbl := [(39, impl_IsChart.spec k), (209, impl_isPattern.spec k), (157, impl_isSide.spec k), (178, impl_makeChart__impl_AddBorder_1.spec k), (169, impl_Chart_put.spec k), (186, impl_ringLength.spec k), (187, impl_Chart_withRing.spec k)]
theorem impl_AddBorder.e (k : Nat) (o : Nat → St → Option (Int × Int × List Int × Bool)) (a0_0 : Int) (a0_1 : Int) (l0_2 : List Int) (l1 : List Int) : impl_AddBorder.T.main tyt (impl_AddBorder.tbl k) o (a0_0, a0_1, l0_2, l1) = impl_AddBorder.m k a0_0 a0_1 l0_2 l1 := by kernel_rfl
theorem impl_AddBorder.ok : impl_AddBorder.T.ok = true := by kernel_rfl
theorem impl_AddBorder.tblok (k : Nat) : TblOk Go.Proofs.Try.prog (impl_AddBorder.tbl k) := TblOk.cons (impl_IsChart.sound k) (TblOk.cons (impl_isPattern.sound k) (TblOk.cons (impl_isSide.sound k) (TblOk.cons (impl_makeChart__impl_AddBorder_1.sound k) (TblOk.cons (impl_Chart_put.sound k) (TblOk.cons (impl_ringLength.sound k) (TblOk.cons (impl_Chart_withRing.sound k) (TblOk.nil _)))))))
theorem impl_AddBorder.sound (k : Nat) : Sound Go.Proofs.Try.prog 93 (impl_AddBorder.spec k) := by
  have h := fn_ok (F := impl_AddBorder.T) (tbl := impl_AddBorder.tbl) mixed tyok Go.Proofs.Try.func93 (by kernel_rfl) (c0 := bodyOf Go.Proofs.Try.f93) rfl (conv_code _ _ _) rfl rfl impl_AddBorder.ok k (fun j _ => impl_AddBorder.tblok j)
  have e : impl_AddBorder.spec k = ⟨impl_AddBorder.T.ps, impl_AddBorder.T.rs, impl_AddBorder.T.ev tyt impl_AddBorder.tbl k⟩ := congrArg (FnSpec.mk _ _) (funext fun x => ((impl_AddBorder.e k (impl_AddBorder.T.run tyt impl_AddBorder.tbl k) x.1 x.2.1 x.2.2.1 x.2.2.2).trans (by rfl)).symm)
  rw [e]
  exact h
/-! ### spec_l1In: function 134 -/
def spec_l1In.m (k : Nat) (a0 : Int) (a1 : Int) (a2 : Int) : Option (Bool) := (if a1 ≤ a0 then (some (decide (a0 ≤ a2))) else (some false))
def spec_l1In.f (k : Nat) (a0 : Int) (a1 : Int) (a2 : Int) : Option (Bool) := spec_l1In.m k a0 a1 a2
noncomputable def spec_l1In.spec (k : Nat) : FnSpec := ⟨[.d (.int .i64) none, .d (.int .i64) none, .d (.int .i64) none], [.d .bool none], fun x => spec_l1In.f k x.1 x.2.1 x.2.2⟩
noncomputable def spec_l1In.T : FnText := ⟨(conv [] (bodyOf Go.Proofs.Try.f134) 0).1, Go.Proofs.Try.f134.results.toList, 15, [], [.d (.int .i64) none, .d (.int .i64) none, .d (.int .i64) none], [.d .bool none]⟩
noncomputable def spec_l1In.tbl (k : Nat) : Tbl := []
theorem spec_l1In.e (k : Nat) (o : Nat → St → Option (Bool)) (a0 : Int) (a1 : Int) (a2 : Int) : spec_l1In.T.main tyt (spec_l1In.tbl k) o (a0, a1, a2) = spec_l1In.m k a0 a1 a2 := by kernel_rfl
theorem spec_l1In.ok : spec_l1In.T.ok = true := by kernel_rfl
theorem spec_l1In.tblok (k : Nat) : TblOk Go.Proofs.Try.prog (spec_l1In.tbl k) := TblOk.nil _
theorem spec_l1In.sound (k : Nat) : Sound Go.Proofs.Try.prog 134 (spec_l1In.spec k) := by
  have h := fn_ok (F := spec_l1In.T) (tbl := spec_l1In.tbl) mixed tyok Go.Proofs.Try.func134 (by kernel_rfl) (c0 := bodyOf Go.Proofs.Try.f134) rfl (conv_code _ _ _) rfl rfl spec_l1In.ok k (fun j _ => spec_l1In.tblok j)
  have e : spec_l1In.spec k = ⟨spec_l1In.T.ps, spec_l1In.T.rs, spec_l1In.T.ev tyt spec_l1In.tbl k⟩ := congrArg (FnSpec.mk _ _) (funext fun x => ((spec_l1In.e k (spec_l1In.T.run tyt spec_l1In.tbl k) x.1 x.2.1 x.2.2).trans (by rfl)).symm)
  rw [e]
  exact h
/-! ### spec_l2Color: function 132 -/
def spec_l2Color.m (k : Nat) (a0 : Int) : Option (Bool) := ((spec_l1In.f k a0 0 5).bind fun r1 => (some r1))
def spec_l2Color.f (k : Nat) (a0 : Int) : Option (Bool) := spec_l2Color.m k a0
noncomputable def spec_l2Color.spec (k : Nat) : FnSpec := ⟨[.d (.int .i64) none], [.d .bool none], fun x => spec_l2Color.f k x⟩
noncomputable def spec_l2Color.T : FnText := ⟨(conv [] (bodyOf Go.Proofs.Try.f132) 0).1, Go.Proofs.Try.f132.results.toList, 5, [], [.d (.int .i64) none], [.d .bool none]⟩
noncomputable def spec_l2Color.tbl (k : Nat) : Tbl := [(134, spec_l1In.spec k)]
theorem spec_l2Color.e (k : Nat) (o : Nat → St → Option (Bool)) (a0 : Int) : spec_l2Color.T.main tyt (spec_l2Color.tbl k) o a0 = spec_l2Color.m k a0 := by kernel_rfl
theorem spec_l2Color.ok : spec_l2Color.T.ok = true := by kernel_rfl
theorem spec_l2Color.tblok (k : Nat) : TblOk Go.Proofs.Try.prog (spec_l2Color.tbl k) := TblOk.cons (spec_l1In.sound k) (TblOk.nil _)
theorem spec_l2Color.sound (k : Nat) : Sound Go.Proofs.Try.prog 132 (spec_l2Color.spec k) := by
  have h := fn_ok (F := spec_l2Color.T) (tbl := spec_l2Color.tbl) mixed tyok Go.Proofs.Try.func132 (by kernel_rfl) (c0 := bodyOf Go.Proofs.Try.f132) rfl (conv_code _ _ _) rfl rfl spec_l2Color.ok k (fun j _ => spec_l2Color.tblok j)
  have e : spec_l2Color.spec k = ⟨spec_l2Color.T.ps, spec_l2Color.T.rs, spec_l2Color.T.ev tyt spec_l2Color.tbl k⟩ := congrArg (FnSpec.mk _ _) (funext fun x => ((spec_l2Color.e k (spec_l2Color.T.run tyt spec_l2Color.tbl k) x).trans (by rfl)).symm)
  rw [e]
  exact h
/-! ### spec_l2Side: function 180 -/
def spec_l2Side.m (k : Nat) (a0 : Int) : Option (Bool) := ((spec_l1In.f k a0 1 8).bind fun r1 => (some r1))
def spec_l2Side.f (k : Nat) (a0 : Int) : Option (Bool) := spec_l2Side.m k a0
noncomputable def spec_l2Side.spec (k : Nat) : FnSpec := ⟨[.d (.int .i64) none], [.d .bool none], fun x => spec_l2Side.f k x⟩
noncomputable def spec_l2Side.T : FnText := ⟨(conv [] (bodyOf Go.Proofs.Try.f180) 0).1, Go.Proofs.Try.f180.results.toList, 5, [], [.d (.int .i64) none], [.d .bool none]⟩
noncomputable def spec_l2Side.tbl (k : Nat) : Tbl := [(134, spec_l1In.spec k)]
theorem spec_l2Side.e (k : Nat) (o : Nat → St → Option (Bool)) (a0 : Int) : spec_l2Side.T.main tyt (spec_l2Side.tbl k) o a0 = spec_l2Side.m k a0 := by kernel_rfl
theorem spec_l2Side.ok : spec_l2Side.T.ok = true := by kernel_rfl
theorem spec_l2Side.tblok (k : Nat) : TblOk Go.Proofs.Try.prog (spec_l2Side.tbl k) := TblOk.cons (spec_l1In.sound k) (TblOk.nil _)
theorem spec_l2Side.sound (k : Nat) : Sound Go.Proofs.Try.prog 180 (spec_l2Side.spec k) := by
  have h := fn_ok (F := spec_l2Side.T) (tbl := spec_l2Side.tbl) mixed tyok Go.Proofs.Try.func180 (by kernel_rfl) (c0 := bodyOf Go.Proofs.Try.f180) rfl (conv_code _ _ _) rfl rfl spec_l2Side.ok k (fun j _ => spec_l2Side.tblok j)
  have e : spec_l2Side.spec k = ⟨spec_l2Side.T.ps, spec_l2Side.T.rs, spec_l2Side.T.ev tyt spec_l2Side.tbl k⟩ := congrArg (FnSpec.mk _ _) (funext fun x => ((spec_l2Side.e k (spec_l2Side.T.run tyt spec_l2Side.tbl k) x).trans (by rfl)).symm)
  rw [e]
  exact h
/-! ### spec_l2Good: function 131 -/
def spec_l2Good.b3 (o3 : Int → Int → List Int → Int → Option (Bool)) (k : Nat) (x0_3 : Int) (x1_3 : Int) (l2_3 : List Int) (x3_3 : Int) : Option (Bool) := (if x3_3 < (l2_3.length : Int) then ((chk l2_3.length x3_3).bind fun i1 => ((spec_l2Color.f k (l2_3.getD i1 0)).bind fun r2 => (cond (!r2) (some false) (o3 x0_3 x1_3 l2_3 (w64 (x3_3 + 1)))))) else ((spec_l2Side.f k x0_3).bind fun r3 => (cond r3 ((spec_l2Side.f k x1_3).bind fun r4 => (cond r4 (some (decide ((l2_3.length : Int) = (w64 (x0_3 * x1_3))))) (some false))) (some false))))
def spec_l2Good.l3 : Nat → Int → Int → List Int → Int → Option (Bool)
  | 0, _, _, _, _ => none
  | k + 1, x0_3, x1_3, l2_3, x3_3 => spec_l2Good.b3 (spec_l2Good.l3 k) k x0_3 x1_3 l2_3 x3_3
def spec_l2Good.m (o3 : Int → Int → List Int → Int → Option (Bool)) (k : Nat) (a0_0 : Int) (a0_1 : Int) (l0_2 : List Int) : Option (Bool) := (o3 a0_0 a0_1 l0_2 0)
def spec_l2Good.f (k : Nat) (a0_0 : Int) (a0_1 : Int) (l0_2 : List Int) : Option (Bool) := spec_l2Good.m (spec_l2Good.l3 k) k a0_0 a0_1 l0_2
noncomputable def spec_l2Good.spec (k : Nat) : FnSpec := ⟨[.ag [.d (.int .i64) none, .d (.int .i64) none, .d (.sl (.int .i64)) none]], [.d .bool none], fun x => spec_l2Good.f k x.1 x.2.1 x.2.2⟩
def spec_l2Good.S3 (x0_3 : Int) (x1_3 : Int) (l2_3 : List Int) (x3_3 : Int) : St := ⟨[(1, .ptr 100 0), (3, .val (.int .i64) x3_3)], [(100, some (.box [.val (.int .i64) x0_3, .val (.int .i64) x1_3, .val (.sl (.int .i64)) l2_3]))], 1000⟩
noncomputable def spec_l2Good.T : FnText := ⟨(conv [] (bodyOf Go.Proofs.Try.f131) 0).1, Go.Proofs.Try.f131.results.toList, 37, [(3, [(1, .bx 100 [.rd (.int .i64), .rd (.int .i64), .rd (.sl (.int .i64))]), (3, .rd (.int .i64))])], [.ag [.d (.int .i64) none, .d (.int .i64) none, .d (.sl (.int .i64)) none]], [.d .bool none]⟩
noncomputable def spec_l2Good.tbl (k : Nat) : Tbl := [(132, spec_l2Color.spec k), (180, spec_l2Side.spec k)]
theorem spec_l2Good.e3 (k : Nat) (o : Nat → St → Option (Bool)) (x0_3 : Int) (x1_3 : Int) (l2_3 : List Int) (x3_3 : Int) : spec_l2Good.T.step tyt (spec_l2Good.tbl k) o 3 (spec_l2Good.S3 x0_3 x1_3 l2_3 x3_3) = spec_l2Good.b3 (fun x0_3 x1_3 l2_3 x3_3 => o 3 (spec_l2Good.S3 x0_3 x1_3 l2_3 x3_3)) k x0_3 x1_3 l2_3 x3_3 := by kernel_rfl
theorem spec_l2Good.e (k : Nat) (o : Nat → St → Option (Bool)) (a0_0 : Int) (a0_1 : Int) (l0_2 : List Int) : spec_l2Good.T.main tyt (spec_l2Good.tbl k) o (a0_0, a0_1, l0_2) = spec_l2Good.m (fun x0_3 x1_3 l2_3 x3_3 => o 3 (spec_l2Good.S3 x0_3 x1_3 l2_3 x3_3)) k a0_0 a0_1 l0_2 := by kernel_rfl
theorem spec_l2Good.ok : spec_l2Good.T.ok = true := by kernel_rfl
theorem spec_l2Good.run (k : Nat) : (∀ (x0_3 : Int) (x1_3 : Int) (l2_3 : List Int) (x3_3 : Int), spec_l2Good.T.run tyt spec_l2Good.tbl k 3 (spec_l2Good.S3 x0_3 x1_3 l2_3 x3_3) = spec_l2Good.l3 k x0_3 x1_3 l2_3 x3_3) := by
  induction k with
  | zero => exact fun x0_3 x1_3 l2_3 x3_3 => rfl
  | succ k ih =>
    exact fun x0_3 x1_3 l2_3 x3_3 => by
      have q3 : (fun x0_3 x1_3 l2_3 x3_3 => spec_l2Good.T.run tyt spec_l2Good.tbl k 3 (spec_l2Good.S3 x0_3 x1_3 l2_3 x3_3)) = spec_l2Good.l3 k := by funext x0_3 x1_3 l2_3 x3_3; exact ih x0_3 x1_3 l2_3 x3_3
      exact (spec_l2Good.e3 k (spec_l2Good.T.run tyt spec_l2Good.tbl k) x0_3 x1_3 l2_3 x3_3).trans (by rw [q3]; rfl)
theorem spec_l2Good.tblok (k : Nat) : TblOk Go.Proofs.Try.prog (spec_l2Good.tbl k) := TblOk.cons (spec_l2Color.sound k) (TblOk.cons (spec_l2Side.sound k) (TblOk.nil _))
theorem spec_l2Good.sound (k : Nat) : Sound Go.Proofs.Try.prog 131 (spec_l2Good.spec k) := by
  have h := fn_ok (F := spec_l2Good.T) (tbl := spec_l2Good.tbl) mixed tyok Go.Proofs.Try.func131 (by kernel_rfl) (c0 := bodyOf Go.Proofs.Try.f131) rfl (conv_code _ _ _) rfl rfl spec_l2Good.ok k (fun j _ => spec_l2Good.tblok j)
  have q3 : (fun x0_3 x1_3 l2_3 x3_3 => spec_l2Good.T.run tyt spec_l2Good.tbl k 3 (spec_l2Good.S3 x0_3 x1_3 l2_3 x3_3)) = spec_l2Good.l3 k := by funext x0_3 x1_3 l2_3 x3_3; exact (spec_l2Good.run k) x0_3 x1_3 l2_3 x3_3
  have e : spec_l2Good.spec k = ⟨spec_l2Good.T.ps, spec_l2Good.T.rs, spec_l2Good.T.ev tyt spec_l2Good.tbl k⟩ := congrArg (FnSpec.mk _ _) (funext fun x => ((spec_l2Good.e k (spec_l2Good.T.run tyt spec_l2Good.tbl k) x.1 x.2.1 x.2.2).trans (by rw [q3]; rfl)).symm)
  rw [e]
  exact h
/-! ### spec_l8Colors: function 191 -/
def spec_l8Colors.b3 (o3 : List Int → Int → Option (Bool)) (k : Nat) (l0_3 : List Int) (x1_3 : Int) : Option (Bool) := (if x1_3 < (l0_3.length : Int) then ((chk l0_3.length x1_3).bind fun i1 => ((spec_l2Color.f k (l0_3.getD i1 0)).bind fun r2 => (cond (!r2) (some false) (o3 l0_3 (w64 (x1_3 + 1)))))) else (some true))
def spec_l8Colors.l3 : Nat → List Int → Int → Option (Bool)
  | 0, _, _ => none
  | k + 1, l0_3, x1_3 => spec_l8Colors.b3 (spec_l8Colors.l3 k) k l0_3 x1_3
def spec_l8Colors.m (o3 : List Int → Int → Option (Bool)) (k : Nat) (l0 : List Int) : Option (Bool) := (o3 l0 0)
def spec_l8Colors.f (k : Nat) (l0 : List Int) : Option (Bool) := spec_l8Colors.m (spec_l8Colors.l3 k) k l0
noncomputable def spec_l8Colors.spec (k : Nat) : FnSpec := ⟨[.d (.sl (.int .i64)) none], [.d .bool none], fun x => spec_l8Colors.f k x⟩
def spec_l8Colors.S3 (l0_3 : List Int) (x1_3 : Int) : St := ⟨[(0, .val (.sl (.int .i64)) l0_3), (3, .val (.int .i64) x1_3)], [], 1000⟩
noncomputable def spec_l8Colors.T : FnText := ⟨(conv [] (bodyOf Go.Proofs.Try.f191) 0).1, Go.Proofs.Try.f191.results.toList, 16, [(3, [(0, .rd (.sl (.int .i64))), (3, .rd (.int .i64))])], [.d (.sl (.int .i64)) none], [.d .bool none]⟩
noncomputable def spec_l8Colors.tbl (k : Nat) : Tbl := [(132, spec_l2Color.spec k)]
theorem spec_l8Colors.e3 (k : Nat) (o : Nat → St → Option (Bool)) (l0_3 : List Int) (x1_3 : Int) : spec_l8Colors.T.step tyt (spec_l8Colors.tbl k) o 3 (spec_l8Colors.S3 l0_3 x1_3) = spec_l8Colors.b3 (fun l0_3 x1_3 => o 3 (spec_l8Colors.S3 l0_3 x1_3)) k l0_3 x1_3 := by kernel_rfl
theorem spec_l8Colors.e (k : Nat) (o : Nat → St → Option (Bool)) (l0 : List Int) : spec_l8Colors.T.main tyt (spec_l8Colors.tbl k) o l0 = spec_l8Colors.m (fun l0_3 x1_3 => o 3 (spec_l8Colors.S3 l0_3 x1_3)) k l0 := by kernel_rfl
theorem spec_l8Colors.ok : spec_l8Colors.T.ok = true := by kernel_rfl
theorem spec_l8Colors.run (k : Nat) : (∀ (l0_3 : List Int) (x1_3 : Int), spec_l8Colors.T.run tyt spec_l8Colors.tbl k 3 (spec_l8Colors.S3 l0_3 x1_3) = spec_l8Colors.l3 k l0_3 x1_3) := by
  induction k with
  | zero => exact fun l0_3 x1_3 => rfl
  | succ k ih =>
    exact fun l0_3 x1_3 => by
      have q3 : (fun l0_3 x1_3 => spec_l8Colors.T.run tyt spec_l8Colors.tbl k 3 (spec_l8Colors.S3 l0_3 x1_3)) = spec_l8Colors.l3 k := by funext l0_3 x1_3; exact ih l0_3 x1_3
      exact (spec_l8Colors.e3 k (spec_l8Colors.T.run tyt spec_l8Colors.tbl k) l0_3 x1_3).trans (by rw [q3]; rfl)
theorem spec_l8Colors.tblok (k : Nat) : TblOk Go.Proofs.Try.prog (spec_l8Colors.tbl k) := TblOk.cons (spec_l2Color.sound k) (TblOk.nil _)
theorem spec_l8Colors.sound (k : Nat) : Sound Go.Proofs.Try.prog 191 (spec_l8Colors.spec k) := by
  have h := fn_ok (F := spec_l8Colors.T) (tbl := spec_l8Colors.tbl) mixed tyok Go.Proofs.Try.func191 (by kernel_rfl) (c0 := bodyOf Go.Proofs.Try.f191) rfl (conv_code _ _ _) rfl rfl spec_l8Colors.ok k (fun j _ => spec_l8Colors.tblok j)
  have q3 : (fun l0_3 x1_3 => spec_l8Colors.T.run tyt spec_l8Colors.tbl k 3 (spec_l8Colors.S3 l0_3 x1_3)) = spec_l8Colors.l3 k := by funext l0_3 x1_3; exact (spec_l8Colors.run k) l0_3 x1_3
  have e : spec_l8Colors.spec k = ⟨spec_l8Colors.T.ps, spec_l8Colors.T.rs, spec_l8Colors.T.ev tyt spec_l8Colors.tbl k⟩ := congrArg (FnSpec.mk _ _) (funext fun x => ((spec_l8Colors.e k (spec_l8Colors.T.run tyt spec_l8Colors.tbl k) x).trans (by rw [q3]; rfl)).symm)
  rw [e]
  exact h
/-! ### spec_l8Pattern: function 211 -/
def spec_l8Pattern.m (k : Nat) (l0 : List Int) : Option (Bool) := ((spec_l8Colors.f k l0).bind fun r1 => (cond r1 ((spec_l1In.f k (l0.length : Int) 1 8).bind fun r2 => (some r2)) (some false)))
def spec_l8Pattern.f (k : Nat) (l0 : List Int) : Option (Bool) := spec_l8Pattern.m k l0
noncomputable def spec_l8Pattern.spec (k : Nat) : FnSpec := ⟨[.d (.sl (.int .i64)) none], [.d .bool none], fun x => spec_l8Pattern.f k x⟩
noncomputable def spec_l8Pattern.T : FnText := ⟨(conv [] (bodyOf Go.Proofs.Try.f211) 0).1, Go.Proofs.Try.f211.results.toList, 10, [], [.d (.sl (.int .i64)) none], [.d .bool none]⟩
noncomputable def spec_l8Pattern.tbl (k : Nat) : Tbl := [(191, spec_l8Colors.spec k), (134, spec_l1In.spec k)]
theorem spec_l8Pattern.e (k : Nat) (o : Nat → St → Option (Bool)) (l0 : List Int) : spec_l8Pattern.T.main tyt (spec_l8Pattern.tbl k) o l0 = spec_l8Pattern.m k l0 := by kernel_rfl
theorem spec_l8Pattern.ok : spec_l8Pattern.T.ok = true := by kernel_rfl
theorem spec_l8Pattern.tblok (k : Nat) : TblOk Go.Proofs.Try.prog (spec_l8Pattern.tbl k) := TblOk.cons (spec_l8Colors.sound k) (TblOk.cons (spec_l1In.sound k) (TblOk.nil _))
theorem spec_l8Pattern.sound (k : Nat) : Sound Go.Proofs.Try.prog 211 (spec_l8Pattern.spec k) := by
  have h := fn_ok (F := spec_l8Pattern.T) (tbl := spec_l8Pattern.tbl) mixed tyok Go.Proofs.Try.func211 (by kernel_rfl) (c0 := bodyOf Go.Proofs.Try.f211) rfl (conv_code _ _ _) rfl rfl spec_l8Pattern.ok k (fun j _ => spec_l8Pattern.tblok j)
  have e : spec_l8Pattern.spec k = ⟨spec_l8Pattern.T.ps, spec_l8Pattern.T.rs, spec_l8Pattern.T.ev tyt spec_l8Pattern.tbl k⟩ := congrArg (FnSpec.mk _ _) (funext fun x => ((spec_l8Pattern.e k (spec_l8Pattern.T.run tyt spec_l8Pattern.tbl k) x).trans (by rfl)).symm)
  rw [e]
  exact h
/-! ### spec_l6Blank: function 198 -/
def spec_l6Blank.m (k : Nat) (a0 : Int) (a1 : Int) : Option (Int × Int × List Int × Bool) := ((spec_l2Side.f k a0).bind fun r1 => (cond (!r1) (some (0, 0, [], false)) ((spec_l2Side.f k a1).bind fun r2 => (cond (!r2) (some (0, 0, [], false)) ((mkl 17592186044416 (w64 (a0 * a1)) (w64 (a0 * a1))).bind fun n3 => (some (a0, a1, (List.replicate n3 (0 : Int)), true)))))))
def spec_l6Blank.f (k : Nat) (a0 : Int) (a1 : Int) : Option (Int × Int × List Int × Bool) := spec_l6Blank.m k a0 a1
noncomputable def spec_l6Blank.spec (k : Nat) : FnSpec := ⟨[.d (.int .i64) none, .d (.int .i64) none], [.ag [.d (.int .i64) none, .d (.int .i64) none, .d (.sl (.int .i64)) (some 3)], .d .bool none], fun x => spec_l6Blank.f k x.1 x.2⟩
noncomputable def spec_l6Blank.T : FnText := ⟨(conv [] (bodyOf Go.Proofs.Try.f198) 0).1, Go.Proofs.Try.f198.results.toList, 22, [], [.d (.int .i64) none, .d (.int .i64) none], [.ag [.d (.int .i64) none, .d (.int .i64) none, .d (.sl (.int .i64)) (some 3)], .d .bool none]⟩
noncomputable def spec_l6Blank.tbl (k : Nat) : Tbl := [(180, spec_l2Side.spec k)]
theorem spec_l6Blank.e (k : Nat) (o : Nat → St → Option (Int × Int × List Int × Bool)) (a0 : Int) (a1 : Int) : spec_l6Blank.T.main tyt (spec_l6Blank.tbl k) o (a0, a1) = spec_l6Blank.m k a0 a1 := by kernel_rfl
theorem spec_l6Blank.ok : spec_l6Blank.T.ok = true := by kernel_rfl
theorem spec_l6Blank.tblok (k : Nat) : TblOk Go.Proofs.Try.prog (spec_l6Blank.tbl k) := TblOk.cons (spec_l2Side.sound k) (TblOk.nil _)
theorem spec_l6Blank.sound (k : Nat) : Sound Go.Proofs.Try.prog 198 (spec_l6Blank.spec k) := by
  have h := fn_ok (F := spec_l6Blank.T) (tbl := spec_l6Blank.tbl) mixed tyok Go.Proofs.Try.func198 (by kernel_rfl) (c0 := bodyOf Go.Proofs.Try.f198) rfl (conv_code _ _ _) rfl rfl spec_l6Blank.ok k (fun j _ => spec_l6Blank.tblok j)
  have e : spec_l6Blank.spec k = ⟨spec_l6Blank.T.ps, spec_l6Blank.T.rs, spec_l6Blank.T.ev tyt spec_l6Blank.tbl k⟩ := congrArg (FnSpec.mk _ _) (funext fun x => ((spec_l6Blank.e k (spec_l6Blank.T.run tyt spec_l6Blank.tbl k) x.1 x.2).trans (by rfl)).symm)
  rw [e]
  exact h
/-! ### spec_l8Length: function 190 -/
def spec_l8Length.m (k : Nat) (a0 : Int) (a1 : Int) : Option (Int) := (some (w64 ((w64 ((w64 (2 * a0)) + (w64 (2 * a1)))) - 4)))
def spec_l8Length.f (k : Nat) (a0 : Int) (a1 : Int) : Option (Int) := spec_l8Length.m k a0 a1
noncomputable def spec_l8Length.spec (k : Nat) : FnSpec := ⟨[.d (.int .i64) none, .d (.int .i64) none], [.d (.int .i64) none], fun x => spec_l8Length.f k x.1 x.2⟩
noncomputable def spec_l8Length.T : FnText := ⟨(conv [] (bodyOf Go.Proofs.Try.f190) 0).1, Go.Proofs.Try.f190.results.toList, 11, [], [.d (.int .i64) none, .d (.int .i64) none], [.d (.int .i64) none]⟩
noncomputable def spec_l8Length.tbl (k : Nat) : Tbl := []
theorem spec_l8Length.e (k : Nat) (o : Nat → St → Option (Int)) (a0 : Int) (a1 : Int) : spec_l8Length.T.main tyt (spec_l8Length.tbl k) o (a0, a1) = spec_l8Length.m k a0 a1 := by kernel_rfl
theorem spec_l8Length.ok : spec_l8Length.T.ok = true := by kernel_rfl
theorem spec_l8Length.tblok (k : Nat) : TblOk Go.Proofs.Try.prog (spec_l8Length.tbl k) := TblOk.nil _
theorem spec_l8Length.sound (k : Nat) : Sound Go.Proofs.Try.prog 190 (spec_l8Length.spec k) := by
  have h := fn_ok (F := spec_l8Length.T) (tbl := spec_l8Length.tbl) mixed tyok Go.Proofs.Try.func190 (by kernel_rfl) (c0 := bodyOf Go.Proofs.Try.f190) rfl (conv_code _ _ _) rfl rfl spec_l8Length.ok k (fun j _ => spec_l8Length.tblok j)
  have e : spec_l8Length.spec k = ⟨spec_l8Length.T.ps, spec_l8Length.T.rs, spec_l8Length.T.ev tyt spec_l8Length.tbl k⟩ := congrArg (FnSpec.mk _ _) (funext fun x => ((spec_l8Length.e k (spec_l8Length.T.run tyt spec_l8Length.tbl k) x.1 x.2).trans (by rfl)).symm)
  rw [e]
  exact h
/-! ### spec_l1Own: function 232 -/
def spec_l1Own.m (k : Nat) (l0 : List Int) : Option (List Int) := ((app 17592186044416 ([] : List (Int)) l0).bind fun l1 => (some l1))
def spec_l1Own.f (k : Nat) (l0 : List Int) : Option (List Int) := spec_l1Own.m k l0
noncomputable def spec_l1Own.spec (k : Nat) : FnSpec := ⟨[.d (.sl (.int .i64)) none], [.d (.sl (.int .i64)) (some 3)], fun x => spec_l1Own.f k x⟩
noncomputable def spec_l1Own.T : FnText := ⟨(conv [] (bodyOf Go.Proofs.Try.f232) 0).1, Go.Proofs.Try.f232.results.toList, 6, [], [.d (.sl (.int .i64)) none], [.d (.sl (.int .i64)) (some 3)]⟩
noncomputable def spec_l1Own.tbl (k : Nat) : Tbl := []
theorem spec_l1Own.e (k : Nat) (o : Nat → St → Option (List Int)) (l0 : List Int) : spec_l1Own.T.main tyt (spec_l1Own.tbl k) o l0 = spec_l1Own.m k l0 := by kernel_rfl
theorem spec_l1Own.ok : spec_l1Own.T.ok = true := by kernel_rfl
theorem spec_l1Own.tblok (k : Nat) : TblOk Go.Proofs.Try.prog (spec_l1Own.tbl k) := TblOk.nil _
theorem spec_l1Own.sound (k : Nat) : Sound Go.Proofs.Try.prog 232 (spec_l1Own.spec k) := by
  have h := fn_ok (F := spec_l1Own.T) (tbl := spec_l1Own.tbl) mixed tyok Go.Proofs.Try.func232 (by kernel_rfl) (c0 := bodyOf Go.Proofs.Try.f232) rfl (conv_code _ _ _) rfl rfl spec_l1Own.ok k (fun j _ => spec_l1Own.tblok j)
  have e : spec_l1Own.spec k = ⟨spec_l1Own.T.ps, spec_l1Own.T.rs, spec_l1Own.T.ev tyt spec_l1Own.tbl k⟩ := congrArg (FnSpec.mk _ _) (funext fun x => ((spec_l1Own.e k (spec_l1Own.T.run tyt spec_l1Own.tbl k) x).trans (by rfl)).symm)
  rw [e]
  exact h
/-! ### spec_l2Own: function 135 -/
def spec_l2Own.m (k : Nat) (a0_0 : Int) (a0_1 : Int) (l0_2 : List Int) : Option (Int × Int × List Int) := ((spec_l1Own.f k l0_2).bind fun r1 => (some (a0_0, a0_1, r1)))
def spec_l2Own.f (k : Nat) (a0_0 : Int) (a0_1 : Int) (l0_2 : List Int) : Option (Int × Int × List Int) := spec_l2Own.m k a0_0 a0_1 l0_2
noncomputable def spec_l2Own.spec (k : Nat) : FnSpec := ⟨[.ag [.d (.int .i64) none, .d (.int .i64) none, .d (.sl (.int .i64)) none]], [.ag [.d (.int .i64) none, .d (.int .i64) none, .d (.sl (.int .i64)) (some 3)]], fun x => spec_l2Own.f k x.1 x.2.1 x.2.2⟩
noncomputable def spec_l2Own.T : FnText := ⟨(conv [] (bodyOf Go.Proofs.Try.f135) 0).1, Go.Proofs.Try.f135.results.toList, 11, [], [.ag [.d (.int .i64) none, .d (.int .i64) none, .d (.sl (.int .i64)) none]], [.ag [.d (.int .i64) none, .d (.int .i64) none, .d (.sl (.int .i64)) (some 3)]]⟩
noncomputable def spec_l2Own.tbl (k : Nat) : Tbl := [(232, spec_l1Own.spec k)]
theorem spec_l2Own.e (k : Nat) (o : Nat → St → Option (Int × Int × List Int)) (a0_0 : Int) (a0_1 : Int) (l0_2 : List Int) : spec_l2Own.T.main tyt (spec_l2Own.tbl k) o (a0_0, a0_1, l0_2) = spec_l2Own.m k a0_0 a0_1 l0_2 := by kernel_rfl
theorem spec_l2Own.ok : spec_l2Own.T.ok = true := by kernel_rfl
theorem spec_l2Own.tblok (k : Nat) : TblOk Go.Proofs.Try.prog (spec_l2Own.tbl k) := TblOk.cons (spec_l1Own.sound k) (TblOk.nil _)
theorem spec_l2Own.sound (k : Nat) : Sound Go.Proofs.Try.prog 135 (spec_l2Own.spec k) := by
  have h := fn_ok (F := spec_l2Own.T) (tbl := spec_l2Own.tbl) mixed tyok Go.Proofs.Try.func135 (by kernel_rfl) (c0 := bodyOf Go.Proofs.Try.f135) rfl (conv_code _ _ _) rfl rfl spec_l2Own.ok k (fun j _ => spec_l2Own.tblok j)
  have e : spec_l2Own.spec k = ⟨spec_l2Own.T.ps, spec_l2Own.T.rs, spec_l2Own.T.ev tyt spec_l2Own.tbl k⟩ := congrArg (FnSpec.mk _ _) (funext fun x => ((spec_l2Own.e k (spec_l2Own.T.run tyt spec_l2Own.tbl k) x.1 x.2.1 x.2.2).trans (by rfl)).symm)
  rw [e]
  exact h
/-! ### spec_l2At: function 176 -/
def spec_l2At.m (k : Nat) (a0_0 : Int) (a0_1 : Int) (l0_2 : List Int) (a1 : Int) (a2 : Int) : Option (Int) := ((chk l0_2.length (w64 ((w64 (a1 * a0_0)) + a2))).bind fun i1 => (some (l0_2.getD i1 0)))
def spec_l2At.f (k : Nat) (a0_0 : Int) (a0_1 : Int) (l0_2 : List Int) (a1 : Int) (a2 : Int) : Option (Int) := spec_l2At.m k a0_0 a0_1 l0_2 a1 a2
noncomputable def spec_l2At.spec (k : Nat) : FnSpec := ⟨[.ag [.d (.int .i64) none, .d (.int .i64) none, .d (.sl (.int .i64)) none], .d (.int .i64) none, .d (.int .i64) none], [.d (.int .i64) none], fun x => spec_l2At.f k x.1 x.2.1 x.2.2.1 x.2.2.2.1 x.2.2.2.2⟩
noncomputable def spec_l2At.T : FnText := ⟨(conv [] (bodyOf Go.Proofs.Try.f176) 0).1, Go.Proofs.Try.f176.results.toList, 17, [], [.ag [.d (.int .i64) none, .d (.int .i64) none, .d (.sl (.int .i64)) none], .d (.int .i64) none, .d (.int .i64) none], [.d (.int .i64) none]⟩
noncomputable def spec_l2At.tbl (k : Nat) : Tbl := []
theorem spec_l2At.e (k : Nat) (o : Nat → St → Option (Int)) (a0_0 : Int) (a0_1 : Int) (l0_2 : List Int) (a1 : Int) (a2 : Int) : spec_l2At.T.main tyt (spec_l2At.tbl k) o (a0_0, a0_1, l0_2, a1, a2) = spec_l2At.m k a0_0 a0_1 l0_2 a1 a2 := by kernel_rfl
theorem spec_l2At.ok : spec_l2At.T.ok = true := by kernel_rfl
theorem spec_l2At.tblok (k : Nat) : TblOk Go.Proofs.Try.prog (spec_l2At.tbl k) := TblOk.nil _
theorem spec_l2At.sound (k : Nat) : Sound Go.Proofs.Try.prog 176 (spec_l2At.spec k) := by
  have h := fn_ok (F := spec_l2At.T) (tbl := spec_l2At.tbl) mixed tyok Go.Proofs.Try.func176 (by kernel_rfl) (c0 := bodyOf Go.Proofs.Try.f176) rfl (conv_code _ _ _) rfl rfl spec_l2At.ok k (fun j _ => spec_l2At.tblok j)
  have e : spec_l2At.spec k = ⟨spec_l2At.T.ps, spec_l2At.T.rs, spec_l2At.T.ev tyt spec_l2At.tbl k⟩ := congrArg (FnSpec.mk _ _) (funext fun x => ((spec_l2At.e k (spec_l2At.T.run tyt spec_l2At.tbl k) x.1 x.2.1 x.2.2.1 x.2.2.2.1 x.2.2.2.2).trans (by rfl)).symm)
  rw [e]
  exact h
/-! ### spec_l2Put: function 174 -/
def spec_l2Put.b4 (o9 : Int → Int → Int → Int → List Int → Int → Int → List Int → Int → Int → List Int → Int → Int → List Int → Int → Int → Option (Int × Int × List Int)) (k : Nat) (x0_4 : Int) (x1_4 : Int) (x2_4 : Int) (x3_4 : Int) (l4_4 : List Int) (x5_4 : Int) (x6_4 : Int) (l7_4 : List Int) (x8_4 : Int) (x9_4 : Int) (l10_4 : List Int) (x11_4 : Int) (x12_4 : Int) (l13_4 : List Int) (x14_4 : Int) : Option (Int × Int × List Int) := (if x14_4 < x6_4 then (o9 x0_4 x1_4 x2_4 x3_4 l4_4 x5_4 x6_4 l7_4 x8_4 x9_4 l10_4 x11_4 x12_4 l13_4 x14_4 0) else (some (x11_4, x12_4, l13_4)))
def spec_l2Put.b9 (o4 : Int → Int → Int → Int → List Int → Int → Int → List Int → Int → Int → List Int → Int → Int → List Int → Int → Option (Int × Int × List Int)) (o9 : Int → Int → Int → Int → List Int → Int → Int → List Int → Int → Int → List Int → Int → Int → List Int → Int → Int → Option (Int × Int × List Int)) (k : Nat) (x0_9 : Int) (x1_9 : Int) (x2_9 : Int) (x3_9 : Int) (l4_9 : List Int) (x5_9 : Int) (x6_9 : Int) (l7_9 : List Int) (x8_9 : Int) (x9_9 : Int) (l10_9 : List Int) (x11_9 : Int) (x12_9 : Int) (l13_9 : List Int) (x14_9 : Int) (x15_9 : Int) : Option (Int × Int × List Int) := (if x15_9 < x5_9 then ((spec_l2At.f k x5_9 x6_9 l7_9 x14_9 x15_9).bind fun r2 => ((chk l13_9.length (w64 ((w64 ((w64 ((w64 (x0_9 + x14_9)) * x2_9)) + x1_9)) + x15_9))).bind fun i3 => (o9 x0_9 x1_9 x2_9 x3_9 l4_9 x5_9 x6_9 l7_9 x8_9 x9_9 l10_9 x11_9 x12_9 (l13_9.set i3 r2) x14_9 (w64 (x15_9 + 1))))) else (o4 x0_9 x1_9 x2_9 x3_9 l4_9 x5_9 x6_9 l7_9 x8_9 x9_9 l10_9 x11_9 x12_9 l13_9 (w64 (x14_9 + 1))))
mutual
def spec_l2Put.l4 : Nat → Int → Int → Int → Int → List Int → Int → Int → List Int → Int → Int → List Int → Int → Int → List Int → Int → Option (Int × Int × List Int)
  | 0, _, _, _, _, _, _, _, _, _, _, _, _, _, _, _ => none
  | k + 1, x0_4, x1_4, x2_4, x3_4, l4_4, x5_4, x6_4, l7_4, x8_4, x9_4, l10_4, x11_4, x12_4, l13_4, x14_4 => spec_l2Put.b4 (spec_l2Put.l9 k) k x0_4 x1_4 x2_4 x3_4 l4_4 x5_4 x6_4 l7_4 x8_4 x9_4 l10_4 x11_4 x12_4 l13_4 x14_4
def spec_l2Put.l9 : Nat → Int → Int → Int → Int → List Int → Int → Int → List Int → Int → Int → List Int → Int → Int → List Int → Int → Int → Option (Int × Int × List Int)
  | 0, _, _, _, _, _, _, _, _, _, _, _, _, _, _, _, _ => none
  | k + 1, x0_9, x1_9, x2_9, x3_9, l4_9, x5_9, x6_9, l7_9, x8_9, x9_9, l10_9, x11_9, x12_9, l13_9, x14_9, x15_9 => spec_l2Put.b9 (spec_l2Put.l4 k) (spec_l2Put.l9 k) k x0_9 x1_9 x2_9 x3_9 l4_9 x5_9 x6_9 l7_9 x8_9 x9_9 l10_9 x11_9 x12_9 l13_9 x14_9 x15_9
end
def spec_l2Put.m (o4 : Int → Int → Int → Int → List Int → Int → Int → List Int → Int → Int → List Int → Int → Int → List Int → Int → Option (Int × Int × List Int)) (k : Nat) (a0_0 : Int) (a0_1 : Int) (l0_2 : List Int) (a1_0 : Int) (a1_1 : Int) (l1_2 : List Int) (a2 : Int) (a3 : Int) : Option (Int × Int × List Int) := ((spec_l2Own.f k a0_0 a0_1 l0_2).bind fun r1 => (o4 a2 a3 a0_0 a0_1 l0_2 a1_0 a1_1 l1_2 0 0 [] r1.1 r1.2.1 r1.2.2 0))
def spec_l2Put.f (k : Nat) (a0_0 : Int) (a0_1 : Int) (l0_2 : List Int) (a1_0 : Int) (a1_1 : Int) (l1_2 : List Int) (a2 : Int) (a3 : Int) : Option (Int × Int × List Int) := spec_l2Put.m (spec_l2Put.l4 k) k a0_0 a0_1 l0_2 a1_0 a1_1 l1_2 a2 a3
noncomputable def spec_l2Put.spec (k : Nat) : FnSpec := ⟨[.ag [.d (.int .i64) none, .d (.int .i64) none, .d (.sl (.int .i64)) none], .ag [.d (.int .i64) none, .d (.int .i64) none, .d (.sl (.int .i64)) none], .d (.int .i64) none, .d (.int .i64) none], [.ag [.d (.int .i64) none, .d (.int .i64) none, .d (.sl (.int .i64)) (some 3)]], fun x => spec_l2Put.f k x.1 x.2.1 x.2.2.1 x.2.2.2.1 x.2.2.2.2.1 x.2.2.2.2.2.1 x.2.2.2.2.2.2.1 x.2.2.2.2.2.2.2⟩
def spec_l2Put.S4 (x0_4 : Int) (x1_4 : Int) (x2_4 : Int) (x3_4 : Int) (l4_4 : List Int) (x5_4 : Int) (x6_4 : Int) (l7_4 : List Int) (x8_4 : Int) (x9_4 : Int) (l10_4 : List Int) (x11_4 : Int) (x12_4 : Int) (l13_4 : List Int) (x14_4 : Int) : St := ⟨[(2, .val (.int .i64) x0_4), (3, .val (.int .i64) x1_4), (4, .ptr 100 0), (5, .ptr 101 0), (8, .ptr 102 0), (9, .ptr 103 0), (10, .val (.int .i64) x14_4)], [(103, some (.box [.val (.int .i64) x11_4, .val (.int .i64) x12_4, .ref 104])), (104, some (.row 3 (.int .i64) l13_4)), (102, some (.box [.val (.int .i64) x8_4, .val (.int .i64) x9_4, .val (.sl (.int .i64)) l10_4])), (101, some (.box [.val (.int .i64) x5_4, .val (.int .i64) x6_4, .val (.sl (.int .i64)) l7_4])), (100, some (.box [.val (.int .i64) x2_4, .val (.int .i64) x3_4, .val (.sl (.int .i64)) l4_4]))], 1000⟩
def spec_l2Put.S9 (x0_9 : Int) (x1_9 : Int) (x2_9 : Int) (x3_9 : Int) (l4_9 : List Int) (x5_9 : Int) (x6_9 : Int) (l7_9 : List Int) (x8_9 : Int) (x9_9 : Int) (l10_9 : List Int) (x11_9 : Int) (x12_9 : Int) (l13_9 : List Int) (x14_9 : Int) (x15_9 : Int) : St := ⟨[(2, .val (.int .i64) x0_9), (3, .val (.int .i64) x1_9), (4, .ptr 100 0), (5, .ptr 101 0), (8, .ptr 102 0), (9, .ptr 103 0), (10, .val (.int .i64) x14_9), (11, .val (.int .i64) x15_9)], [(103, some (.box [.val (.int .i64) x11_9, .val (.int .i64) x12_9, .ref 104])), (104, some (.row 3 (.int .i64) l13_9)), (102, some (.box [.val (.int .i64) x8_9, .val (.int .i64) x9_9, .val (.sl (.int .i64)) l10_9])), (101, some (.box [.val (.int .i64) x5_9, .val (.int .i64) x6_9, .val (.sl (.int .i64)) l7_9])), (100, some (.box [.val (.int .i64) x2_9, .val (.int .i64) x3_9, .val (.sl (.int .i64)) l4_9]))], 1000⟩
noncomputable def spec_l2Put.T : FnText := ⟨(conv [] (bodyOf Go.Proofs.Try.f174) 0).1, Go.Proofs.Try.f174.results.toList, 44, [(4, [(2, .rd (.int .i64)), (3, .rd (.int .i64)), (4, .bx 100 [.rd (.int .i64), .rd (.int .i64), .rd (.sl (.int .i64))]), (5, .bx 101 [.rd (.int .i64), .rd (.int .i64), .rd (.sl (.int .i64))]), (8, .bx 102 [.rd (.int .i64), .rd (.int .i64), .rd (.sl (.int .i64))]), (9, .bx 103 [.rd (.int .i64), .rd (.int .i64), .own 3 (.int .i64) 104]), (10, .rd (.int .i64))]), (9, [(2, .rd (.int .i64)), (3, .rd (.int .i64)), (4, .bx 100 [.rd (.int .i64), .rd (.int .i64), .rd (.sl (.int .i64))]), (5, .bx 101 [.rd (.int .i64), .rd (.int .i64), .rd (.sl (.int .i64))]), (8, .bx 102 [.rd (.int .i64), .rd (.int .i64), .rd (.sl (.int .i64))]), (9, .bx 103 [.rd (.int .i64), .rd (.int .i64), .own 3 (.int .i64) 104]), (10, .rd (.int .i64)), (11, .rd (.int .i64))])], [.ag [.d (.int .i64) none, .d (.int .i64) none, .d (.sl (.int .i64)) none], .ag [.d (.int .i64) none, .d (.int .i64) none, .d (.sl (.int .i64)) none], .d (.int .i64) none, .d (.int .i64) none], [.ag [.d (.int .i64) none, .d (.int .i64) none, .d (.sl (.int .i64)) (some 3)]]⟩
noncomputable def spec_l2Put.tbl (k : Nat) : Tbl := [(135, spec_l2Own.spec k), (176, spec_l2At.spec k)]
theorem spec_l2Put.e4 (k : Nat) (o : Nat → St → Option (Int × Int × List Int)) (x0_4 : Int) (x1_4 : Int) (x2_4 : Int) (x3_4 : Int) (l4_4 : List Int) (x5_4 : Int) (x6_4 : Int) (l7_4 : List Int) (x8_4 : Int) (x9_4 : Int) (l10_4 : List Int) (x11_4 : Int) (x12_4 : Int) (l13_4 : List Int) (x14_4 : Int) : spec_l2Put.T.step tyt (spec_l2Put.tbl k) o 4 (spec_l2Put.S4 x0_4 x1_4 x2_4 x3_4 l4_4 x5_4 x6_4 l7_4 x8_4 x9_4 l10_4 x11_4 x12_4 l13_4 x14_4) = spec_l2Put.b4 (fun x0_9 x1_9 x2_9 x3_9 l4_9 x5_9 x6_9 l7_9 x8_9 x9_9 l10_9 x11_9 x12_9 l13_9 x14_9 x15_9 => o 9 (spec_l2Put.S9 x0_9 x1_9 x2_9 x3_9 l4_9 x5_9 x6_9 l7_9 x8_9 x9_9 l10_9 x11_9 x12_9 l13_9 x14_9 x15_9)) k x0_4 x1_4 x2_4 x3_4 l4_4 x5_4 x6_4 l7_4 x8_4 x9_4 l10_4 x11_4 x12_4 l13_4 x14_4 := by kernel_rfl
theorem spec_l2Put.e9 (k : Nat) (o : Nat → St → Option (Int × Int × List Int)) (x0_9 : Int) (x1_9 : Int) (x2_9 : Int) (x3_9 : Int) (l4_9 : List Int) (x5_9 : Int) (x6_9 : Int) (l7_9 : List Int) (x8_9 : Int) (x9_9 : Int) (l10_9 : List Int) (x11_9 : Int) (x12_9 : Int) (l13_9 : List Int) (x14_9 : Int) (x15_9 : Int) : spec_l2Put.T.step tyt (spec_l2Put.tbl k) o 9 (spec_l2Put.S9 x0_9 x1_9 x2_9 x3_9 l4_9 x5_9 x6_9 l7_9 x8_9 x9_9 l10_9 x11_9 x12_9 l13_9 x14_9 x15_9) = spec_l2Put.b9 (fun x0_4 x1_4 x2_4 x3_4 l4_4 x5_4 x6_4 l7_4 x8_4 x9_4 l10_4 x11_4 x12_4 l13_4 x14_4 => o 4 (spec_l2Put.S4 x0_4 x1_4 x2_4 x3_4 l4_4 x5_4 x6_4 l7_4 x8_4 x9_4 l10_4 x11_4 x12_4 l13_4 x14_4)) (fun x0_9 x1_9 x2_9 x3_9 l4_9 x5_9 x6_9 l7_9 x8_9 x9_9 l10_9 x11_9 x12_9 l13_9 x14_9 x15_9 => o 9 (spec_l2Put.S9 x0_9 x1_9 x2_9 x3_9 l4_9 x5_9 x6_9 l7_9 x8_9 x9_9 l10_9 x11_9 x12_9 l13_9 x14_9 x15_9)) k x0_9 x1_9 x2_9 x3_9 l4_9 x5_9 x6_9 l7_9 x8_9 x9_9 l10_9 x11_9 x12_9 l13_9 x14_9 x15_9 := by kernel_rfl
theorem spec_l2Put.e (k : Nat) (o : Nat → St → Option (Int × Int × List Int)) (a0_0 : Int) (a0_1 : Int) (l0_2 : List Int) (a1_0 : Int) (a1_1 : Int) (l1_2 : List Int) (a2 : Int) (a3 : Int) : spec_l2Put.T.main tyt (spec_l2Put.tbl k) o (a0_0, a0_1, l0_2, a1_0, a1_1, l1_2, a2, a3) = spec_l2Put.m (fun x0_4 x1_4 x2_4 x3_4 l4_4 x5_4 x6_4 l7_4 x8_4 x9_4 l10_4 x11_4 x12_4 l13_4 x14_4 => o 4 (spec_l2Put.S4 x0_4 x1_4 x2_4 x3_4 l4_4 x5_4 x6_4 l7_4 x8_4 x9_4 l10_4 x11_4 x12_4 l13_4 x14_4)) k a0_0 a0_1 l0_2 a1_0 a1_1 l1_2 a2 a3 := by kernel_rfl
theorem spec_l2Put.ok : spec_l2Put.T.ok = true := by kernel_rfl
theorem spec_l2Put.run (k : Nat) : (∀ (x0_4 : Int) (x1_4 : Int) (x2_4 : Int) (x3_4 : Int) (l4_4 : List Int) (x5_4 : Int) (x6_4 : Int) (l7_4 : List Int) (x8_4 : Int) (x9_4 : Int) (l10_4 : List Int) (x11_4 : Int) (x12_4 : Int) (l13_4 : List Int) (x14_4 : Int), spec_l2Put.T.run tyt spec_l2Put.tbl k 4 (spec_l2Put.S4 x0_4 x1_4 x2_4 x3_4 l4_4 x5_4 x6_4 l7_4 x8_4 x9_4 l10_4 x11_4 x12_4 l13_4 x14_4) = spec_l2Put.l4 k x0_4 x1_4 x2_4 x3_4 l4_4 x5_4 x6_4 l7_4 x8_4 x9_4 l10_4 x11_4 x12_4 l13_4 x14_4) ∧ (∀ (x0_9 : Int) (x1_9 : Int) (x2_9 : Int) (x3_9 : Int) (l4_9 : List Int) (x5_9 : Int) (x6_9 : Int) (l7_9 : List Int) (x8_9 : Int) (x9_9 : Int) (l10_9 : List Int) (x11_9 : Int) (x12_9 : Int) (l13_9 : List Int) (x14_9 : Int) (x15_9 : Int), spec_l2Put.T.run tyt spec_l2Put.tbl k 9 (spec_l2Put.S9 x0_9 x1_9 x2_9 x3_9 l4_9 x5_9 x6_9 l7_9 x8_9 x9_9 l10_9 x11_9 x12_9 l13_9 x14_9 x15_9) = spec_l2Put.l9 k x0_9 x1_9 x2_9 x3_9 l4_9 x5_9 x6_9 l7_9 x8_9 x9_9 l10_9 x11_9 x12_9 l13_9 x14_9 x15_9) := by
  induction k with
  | zero => exact ⟨fun x0_4 x1_4 x2_4 x3_4 l4_4 x5_4 x6_4 l7_4 x8_4 x9_4 l10_4 x11_4 x12_4 l13_4 x14_4 => rfl, fun x0_9 x1_9 x2_9 x3_9 l4_9 x5_9 x6_9 l7_9 x8_9 x9_9 l10_9 x11_9 x12_9 l13_9 x14_9 x15_9 => rfl⟩
  | succ k ih =>
    exact ⟨fun x0_4 x1_4 x2_4 x3_4 l4_4 x5_4 x6_4 l7_4 x8_4 x9_4 l10_4 x11_4 x12_4 l13_4 x14_4 => by
      have q9 : (fun x0_9 x1_9 x2_9 x3_9 l4_9 x5_9 x6_9 l7_9 x8_9 x9_9 l10_9 x11_9 x12_9 l13_9 x14_9 x15_9 => spec_l2Put.T.run tyt spec_l2Put.tbl k 9 (spec_l2Put.S9 x0_9 x1_9 x2_9 x3_9 l4_9 x5_9 x6_9 l7_9 x8_9 x9_9 l10_9 x11_9 x12_9 l13_9 x14_9 x15_9)) = spec_l2Put.l9 k := by funext x0_9 x1_9 x2_9 x3_9 l4_9 x5_9 x6_9 l7_9 x8_9 x9_9 l10_9 x11_9 x12_9 l13_9 x14_9 x15_9; exact ih.2 x0_9 x1_9 x2_9 x3_9 l4_9 x5_9 x6_9 l7_9 x8_9 x9_9 l10_9 x11_9 x12_9 l13_9 x14_9 x15_9
      exact (spec_l2Put.e4 k (spec_l2Put.T.run tyt spec_l2Put.tbl k) x0_4 x1_4 x2_4 x3_4 l4_4 x5_4 x6_4 l7_4 x8_4 x9_4 l10_4 x11_4 x12_4 l13_4 x14_4).trans (by rw [q9]; rfl), fun x0_9 x1_9 x2_9 x3_9 l4_9 x5_9 x6_9 l7_9 x8_9 x9_9 l10_9 x11_9 x12_9 l13_9 x14_9 x15_9 => by
      have q4 : (fun x0_4 x1_4 x2_4 x3_4 l4_4 x5_4 x6_4 l7_4 x8_4 x9_4 l10_4 x11_4 x12_4 l13_4 x14_4 => spec_l2Put.T.run tyt spec_l2Put.tbl k 4 (spec_l2Put.S4 x0_4 x1_4 x2_4 x3_4 l4_4 x5_4 x6_4 l7_4 x8_4 x9_4 l10_4 x11_4 x12_4 l13_4 x14_4)) = spec_l2Put.l4 k := by funext x0_4 x1_4 x2_4 x3_4 l4_4 x5_4 x6_4 l7_4 x8_4 x9_4 l10_4 x11_4 x12_4 l13_4 x14_4; exact ih.1 x0_4 x1_4 x2_4 x3_4 l4_4 x5_4 x6_4 l7_4 x8_4 x9_4 l10_4 x11_4 x12_4 l13_4 x14_4
      have q9 : (fun x0_9 x1_9 x2_9 x3_9 l4_9 x5_9 x6_9 l7_9 x8_9 x9_9 l10_9 x11_9 x12_9 l13_9 x14_9 x15_9 => spec_l2Put.T.run tyt spec_l2Put.tbl k 9 (spec_l2Put.S9 x0_9 x1_9 x2_9 x3_9 l4_9 x5_9 x6_9 l7_9 x8_9 x9_9 l10_9 x11_9 x12_9 l13_9 x14_9 x15_9)) = spec_l2Put.l9 k := by funext x0_9 x1_9 x2_9 x3_9 l4_9 x5_9 x6_9 l7_9 x8_9 x9_9 l10_9 x11_9 x12_9 l13_9 x14_9 x15_9; exact ih.2 x0_9 x1_9 x2_9 x3_9 l4_9 x5_9 x6_9 l7_9 x8_9 x9_9 l10_9 x11_9 x12_9 l13_9 x14_9 x15_9
      exact (spec_l2Put.e9 k (spec_l2Put.T.run tyt spec_l2Put.tbl k) x0_9 x1_9 x2_9 x3_9 l4_9 x5_9 x6_9 l7_9 x8_9 x9_9 l10_9 x11_9 x12_9 l13_9 x14_9 x15_9).trans (by rw [q4, q9]; rfl)⟩
theorem spec_l2Put.tblok (k : Nat) : TblOk Go.Proofs.Try.prog (spec_l2Put.tbl k) := TblOk.cons (spec_l2Own.sound k) (TblOk.cons (spec_l2At.sound k) (TblOk.nil _))
theorem spec_l2Put.sound (k : Nat) : Sound Go.Proofs.Try.prog 174 (spec_l2Put.spec k) := by
  have h := fn_ok (F := spec_l2Put.T) (tbl := spec_l2Put.tbl) mixed tyok Go.Proofs.Try.func174 (by kernel_rfl) (c0 := bodyOf Go.Proofs.Try.f174) rfl (conv_code _ _ _) rfl rfl spec_l2Put.ok k (fun j _ => spec_l2Put.tblok j)
  have q4 : (fun x0_4 x1_4 x2_4 x3_4 l4_4 x5_4 x6_4 l7_4 x8_4 x9_4 l10_4 x11_4 x12_4 l13_4 x14_4 => spec_l2Put.T.run tyt spec_l2Put.tbl k 4 (spec_l2Put.S4 x0_4 x1_4 x2_4 x3_4 l4_4 x5_4 x6_4 l7_4 x8_4 x9_4 l10_4 x11_4 x12_4 l13_4 x14_4)) = spec_l2Put.l4 k := by funext x0_4 x1_4 x2_4 x3_4 l4_4 x5_4 x6_4 l7_4 x8_4 x9_4 l10_4 x11_4 x12_4 l13_4 x14_4; exact (spec_l2Put.run k).1 x0_4 x1_4 x2_4 x3_4 l4_4 x5_4 x6_4 l7_4 x8_4 x9_4 l10_4 x11_4 x12_4 l13_4 x14_4
  have e : spec_l2Put.spec k = ⟨spec_l2Put.T.ps, spec_l2Put.T.rs, spec_l2Put.T.ev tyt spec_l2Put.tbl k⟩ := congrArg (FnSpec.mk _ _) (funext fun x => ((spec_l2Put.e k (spec_l2Put.T.run tyt spec_l2Put.tbl k) x.1 x.2.1 x.2.2.1 x.2.2.2.1 x.2.2.2.2.1 x.2.2.2.2.2.1 x.2.2.2.2.2.2.1 x.2.2.2.2.2.2.2).trans (by rw [q4]; rfl)).symm)
  rw [e]
  exact h
/-! ### spec_l8Places: function 243 -/
def spec_l8Places.b4 (o4 : Int → Int → List Int → Int → Option (List Int)) (o10 : Int → Int → List Int → Int → Option (List Int)) (k : Nat) (x0_4 : Int) (x1_4 : Int) (l2_4 : List Int) (x3_4 : Int) : Option (List Int) := (if x3_4 < x0_4 then ((app 17592186044416 l2_4 [x3_4]).bind fun l1 => (o4 x0_4 x1_4 l1 (w64 (x3_4 + 1)))) else (o10 x0_4 x1_4 l2_4 1))
def spec_l8Places.b10 (o10 : Int → Int → List Int → Int → Option (List Int)) (o16 : Int → Int → List Int → Int → Option (List Int)) (k : Nat) (x0_10 : Int) (x1_10 : Int) (l2_10 : List Int) (x3_10 : Int) : Option (List Int) := (if x3_10 < x1_10 then ((app 17592186044416 l2_10 [(w64 ((w64 ((w64 (x3_10 * x0_10)) + x0_10)) - 1))]).bind fun l2 => (o10 x0_10 x1_10 l2 (w64 (x3_10 + 1)))) else (o16 x0_10 x1_10 l2_10 (w64 (x0_10 - 2))))
def spec_l8Places.b16 (o16 : Int → Int → List Int → Int → Option (List Int)) (o22 : Int → List Int → Int → Option (List Int)) (k : Nat) (x0_16 : Int) (x1_16 : Int) (l2_16 : List Int) (x3_16 : Int) : Option (List Int) := (if 0 ≤ x3_16 then ((app 17592186044416 l2_16 [(w64 ((w64 ((w64 (x1_16 - 1)) * x0_16)) + x3_16))]).bind fun l3 => (o16 x0_16 x1_16 l3 (w64 (x3_16 - 1)))) else (o22 x0_16 l2_16 (w64 (x1_16 - 2))))
def spec_l8Places.b22 (o22 : Int → List Int → Int → Option (List Int)) (k : Nat) (x0_22 : Int) (l1_22 : List Int) (x2_22 : Int) : Option (List Int) := (if 0 < x2_22 then ((app 17592186044416 l1_22 [(w64 (x2_22 * x0_22))]).bind fun l4 => (o22 x0_22 l4 (w64 (x2_22 - 1)))) else (some l1_22))
mutual
def spec_l8Places.l4 : Nat → Int → Int → List Int → Int → Option (List Int)
  | 0, _, _, _, _ => none
  | k + 1, x0_4, x1_4, l2_4, x3_4 => spec_l8Places.b4 (spec_l8Places.l4 k) (spec_l8Places.l10 k) k x0_4 x1_4 l2_4 x3_4
def spec_l8Places.l10 : Nat → Int → Int → List Int → Int → Option (List Int)
  | 0, _, _, _, _ => none
  | k + 1, x0_10, x1_10, l2_10, x3_10 => spec_l8Places.b10 (spec_l8Places.l10 k) (spec_l8Places.l16 k) k x0_10 x1_10 l2_10 x3_10
def spec_l8Places.l16 : Nat → Int → Int → List Int → Int → Option (List Int)
  | 0, _, _, _, _ => none
  | k + 1, x0_16, x1_16, l2_16, x3_16 => spec_l8Places.b16 (spec_l8Places.l16 k) (spec_l8Places.l22 k) k x0_16 x1_16 l2_16 x3_16
def spec_l8Places.l22 : Nat → Int → List Int → Int → Option (List Int)
  | 0, _, _, _ => none
  | k + 1, x0_22, l1_22, x2_22 => spec_l8Places.b22 (spec_l8Places.l22 k) k x0_22 l1_22 x2_22
end
def spec_l8Places.m (o4 : Int → Int → List Int → Int → Option (List Int)) (k : Nat) (a0 : Int) (a1 : Int) : Option (List Int) := (o4 a0 a1 ([] : List (Int)) 0)
def spec_l8Places.f (k : Nat) (a0 : Int) (a1 : Int) : Option (List Int) := spec_l8Places.m (spec_l8Places.l4 k) k a0 a1
noncomputable def spec_l8Places.spec (k : Nat) : FnSpec := ⟨[.d (.int .i64) none, .d (.int .i64) none], [.d (.sl (.int .i64)) (some 3)], fun x => spec_l8Places.f k x.1 x.2⟩
def spec_l8Places.S4 (x0_4 : Int) (x1_4 : Int) (l2_4 : List Int) (x3_4 : Int) : St := ⟨[(0, .val (.int .i64) x0_4), (1, .val (.int .i64) x1_4), (5, .ref 100), (6, .val (.int .i64) x3_4)], [(100, some (.row 3 (.int .i64) l2_4))], 1000⟩
def spec_l8Places.S10 (x0_10 : Int) (x1_10 : Int) (l2_10 : List Int) (x3_10 : Int) : St := ⟨[(0, .val (.int .i64) x0_10), (1, .val (.int .i64) x1_10), (5, .ref 100), (7, .val (.int .i64) x3_10)], [(100, some (.row 3 (.int .i64) l2_10))], 1000⟩
def spec_l8Places.S16 (x0_16 : Int) (x1_16 : Int) (l2_16 : List Int) (x3_16 : Int) : St := ⟨[(0, .val (.int .i64) x0_16), (1, .val (.int .i64) x1_16), (5, .ref 100), (8, .val (.int .i64) x3_16)], [(100, some (.row 3 (.int .i64) l2_16))], 1000⟩
def spec_l8Places.S22 (x0_22 : Int) (l1_22 : List Int) (x2_22 : Int) : St := ⟨[(0, .val (.int .i64) x0_22), (5, .ref 100), (9, .val (.int .i64) x2_22)], [(100, some (.row 3 (.int .i64) l1_22))], 1000⟩
noncomputable def spec_l8Places.T : FnText := ⟨(conv [] (bodyOf Go.Proofs.Try.f243) 0).1, Go.Proofs.Try.f243.results.toList, 62, [(4, [(0, .rd (.int .i64)), (1, .rd (.int .i64)), (5, .own 3 (.int .i64) 100), (6, .rd (.int .i64))]), (10, [(0, .rd (.int .i64)), (1, .rd (.int .i64)), (5, .own 3 (.int .i64) 100), (7, .rd (.int .i64))]), (16, [(0, .rd (.int .i64)), (1, .rd (.int .i64)), (5, .own 3 (.int .i64) 100), (8, .rd (.int .i64))]), (22, [(0, .rd (.int .i64)), (5, .own 3 (.int .i64) 100), (9, .rd (.int .i64))])], [.d (.int .i64) none, .d (.int .i64) none], [.d (.sl (.int .i64)) (some 3)]⟩
noncomputable def spec_l8Places.tbl (k : Nat) : Tbl := []
theorem spec_l8Places.e4 (k : Nat) (o : Nat → St → Option (List Int)) (x0_4 : Int) (x1_4 : Int) (l2_4 : List Int) (x3_4 : Int) : spec_l8Places.T.step tyt (spec_l8Places.tbl k) o 4 (spec_l8Places.S4 x0_4 x1_4 l2_4 x3_4) = spec_l8Places.b4 (fun x0_4 x1_4 l2_4 x3_4 => o 4 (spec_l8Places.S4 x0_4 x1_4 l2_4 x3_4)) (fun x0_10 x1_10 l2_10 x3_10 => o 10 (spec_l8Places.S10 x0_10 x1_10 l2_10 x3_10)) k x0_4 x1_4 l2_4 x3_4 := by kernel_rfl
theorem spec_l8Places.e10 (k : Nat) (o : Nat → St → Option (List Int)) (x0_10 : Int) (x1_10 : Int) (l2_10 : List Int) (x3_10 : Int) : spec_l8Places.T.step tyt (spec_l8Places.tbl k) o 10 (spec_l8Places.S10 x0_10 x1_10 l2_10 x3_10) = spec_l8Places.b10 (fun x0_10 x1_10 l2_10 x3_10 => o 10 (spec_l8Places.S10 x0_10 x1_10 l2_10 x3_10)) (fun x0_16 x1_16 l2_16 x3_16 => o 16 (spec_l8Places.S16 x0_16 x1_16 l2_16 x3_16)) k x0_10 x1_10 l2_10 x3_10 := by kernel_rfl
theorem spec_l8Places.e16 (k : Nat) (o : Nat → St → Option (List Int)) (x0_16 : Int) (x1_16 : Int) (l2_16 : List Int) (x3_16 : Int) : spec_l8Places.T.step tyt (spec_l8Places.tbl k) o 16 (spec_l8Places.S16 x0_16 x1_16 l2_16 x3_16) = spec_l8Places.b16 (fun x0_16 x1_16 l2_16 x3_16 => o 16 (spec_l8Places.S16 x0_16 x1_16 l2_16 x3_16)) (fun x0_22 l1_22 x2_22 => o 22 (spec_l8Places.S22 x0_22 l1_22 x2_22)) k x0_16 x1_16 l2_16 x3_16 := by kernel_rfl
theorem spec_l8Places.e22 (k : Nat) (o : Nat → St → Option (List Int)) (x0_22 : Int) (l1_22 : List Int) (x2_22 : Int) : spec_l8Places.T.step tyt (spec_l8Places.tbl k) o 22 (spec_l8Places.S22 x0_22 l1_22 x2_22) = spec_l8Places.b22 (fun x0_22 l1_22 x2_22 => o 22 (spec_l8Places.S22 x0_22 l1_22 x2_22)) k x0_22 l1_22 x2_22 := by kernel_rfl
theorem spec_l8Places.e (k : Nat) (o : Nat → St → Option (List Int)) (a0 : Int) (a1 : Int) : spec_l8Places.T.main tyt (spec_l8Places.tbl k) o (a0, a1) = spec_l8Places.m (fun x0_4 x1_4 l2_4 x3_4 => o 4 (spec_l8Places.S4 x0_4 x1_4 l2_4 x3_4)) k a0 a1 := by kernel_rfl
theorem spec_l8Places.ok : spec_l8Places.T.ok = true := by kernel_rfl
theorem spec_l8Places.run (k : Nat) : (∀ (x0_4 : Int) (x1_4 : Int) (l2_4 : List Int) (x3_4 : Int), spec_l8Places.T.run tyt spec_l8Places.tbl k 4 (spec_l8Places.S4 x0_4 x1_4 l2_4 x3_4) = spec_l8Places.l4 k x0_4 x1_4 l2_4 x3_4) ∧ (∀ (x0_10 : Int) (x1_10 : Int) (l2_10 : List Int) (x3_10 : Int), spec_l8Places.T.run tyt spec_l8Places.tbl k 10 (spec_l8Places.S10 x0_10 x1_10 l2_10 x3_10) = spec_l8Places.l10 k x0_10 x1_10 l2_10 x3_10) ∧ (∀ (x0_16 : Int) (x1_16 : Int) (l2_16 : List Int) (x3_16 : Int), spec_l8Places.T.run tyt spec_l8Places.tbl k 16 (spec_l8Places.S16 x0_16 x1_16 l2_16 x3_16) = spec_l8Places.l16 k x0_16 x1_16 l2_16 x3_16) ∧ (∀ (x0_22 : Int) (l1_22 : List Int) (x2_22 : Int), spec_l8Places.T.run tyt spec_l8Places.tbl k 22 (spec_l8Places.S22 x0_22 l1_22 x2_22) = spec_l8Places.l22 k x0_22 l1_22 x2_22) := by
  induction k with
  | zero => exact ⟨fun x0_4 x1_4 l2_4 x3_4 => rfl, fun x0_10 x1_10 l2_10 x3_10 => rfl, fun x0_16 x1_16 l2_16 x3_16 => rfl, fun x0_22 l1_22 x2_22 => rfl⟩
  | succ k ih =>
    exact ⟨fun x0_4 x1_4 l2_4 x3_4 => by
      have q4 : (fun x0_4 x1_4 l2_4 x3_4 => spec_l8Places.T.run tyt spec_l8Places.tbl k 4 (spec_l8Places.S4 x0_4 x1_4 l2_4 x3_4)) = spec_l8Places.l4 k := by funext x0_4 x1_4 l2_4 x3_4; exact ih.1 x0_4 x1_4 l2_4 x3_4
      have q10 : (fun x0_10 x1_10 l2_10 x3_10 => spec_l8Places.T.run tyt spec_l8Places.tbl k 10 (spec_l8Places.S10 x0_10 x1_10 l2_10 x3_10)) = spec_l8Places.l10 k := by funext x0_10 x1_10 l2_10 x3_10; exact ih.2.1 x0_10 x1_10 l2_10 x3_10
      exact (spec_l8Places.e4 k (spec_l8Places.T.run tyt spec_l8Places.tbl k) x0_4 x1_4 l2_4 x3_4).trans (by rw [q4, q10]; rfl), fun x0_10 x1_10 l2_10 x3_10 => by
      have q10 : (fun x0_10 x1_10 l2_10 x3_10 => spec_l8Places.T.run tyt spec_l8Places.tbl k 10 (spec_l8Places.S10 x0_10 x1_10 l2_10 x3_10)) = spec_l8Places.l10 k := by funext x0_10 x1_10 l2_10 x3_10; exact ih.2.1 x0_10 x1_10 l2_10 x3_10
      have q16 : (fun x0_16 x1_16 l2_16 x3_16 => spec_l8Places.T.run tyt spec_l8Places.tbl k 16 (spec_l8Places.S16 x0_16 x1_16 l2_16 x3_16)) = spec_l8Places.l16 k := by funext x0_16 x1_16 l2_16 x3_16; exact ih.2.2.1 x0_16 x1_16 l2_16 x3_16
      exact (spec_l8Places.e10 k (spec_l8Places.T.run tyt spec_l8Places.tbl k) x0_10 x1_10 l2_10 x3_10).trans (by rw [q10, q16]; rfl), fun x0_16 x1_16 l2_16 x3_16 => by
      have q16 : (fun x0_16 x1_16 l2_16 x3_16 => spec_l8Places.T.run tyt spec_l8Places.tbl k 16 (spec_l8Places.S16 x0_16 x1_16 l2_16 x3_16)) = spec_l8Places.l16 k := by funext x0_16 x1_16 l2_16 x3_16; exact ih.2.2.1 x0_16 x1_16 l2_16 x3_16
      have q22 : (fun x0_22 l1_22 x2_22 => spec_l8Places.T.run tyt spec_l8Places.tbl k 22 (spec_l8Places.S22 x0_22 l1_22 x2_22)) = spec_l8Places.l22 k := by funext x0_22 l1_22 x2_22; exact ih.2.2.2 x0_22 l1_22 x2_22
      exact (spec_l8Places.e16 k (spec_l8Places.T.run tyt spec_l8Places.tbl k) x0_16 x1_16 l2_16 x3_16).trans (by rw [q16, q22]; rfl), fun x0_22 l1_22 x2_22 => by
      have q22 : (fun x0_22 l1_22 x2_22 => spec_l8Places.T.run tyt spec_l8Places.tbl k 22 (spec_l8Places.S22 x0_22 l1_22 x2_22)) = spec_l8Places.l22 k := by funext x0_22 l1_22 x2_22; exact ih.2.2.2 x0_22 l1_22 x2_22
      exact (spec_l8Places.e22 k (spec_l8Places.T.run tyt spec_l8Places.tbl k) x0_22 l1_22 x2_22).trans (by rw [q22]; rfl)⟩
theorem spec_l8Places.tblok (k : Nat) : TblOk Go.Proofs.Try.prog (spec_l8Places.tbl k) := TblOk.nil _
theorem spec_l8Places.sound (k : Nat) : Sound Go.Proofs.Try.prog 243 (spec_l8Places.spec k) := by
  have h := fn_ok (F := spec_l8Places.T) (tbl := spec_l8Places.tbl) mixed tyok Go.Proofs.Try.func243 (by kernel_rfl) (c0 := bodyOf Go.Proofs.Try.f243) rfl (conv_code _ _ _) rfl rfl spec_l8Places.ok k (fun j _ => spec_l8Places.tblok j)
  have q4 : (fun x0_4 x1_4 l2_4 x3_4 => spec_l8Places.T.run tyt spec_l8Places.tbl k 4 (spec_l8Places.S4 x0_4 x1_4 l2_4 x3_4)) = spec_l8Places.l4 k := by funext x0_4 x1_4 l2_4 x3_4; exact (spec_l8Places.run k).1 x0_4 x1_4 l2_4 x3_4
  have e : spec_l8Places.spec k = ⟨spec_l8Places.T.ps, spec_l8Places.T.rs, spec_l8Places.T.ev tyt spec_l8Places.tbl k⟩ := congrArg (FnSpec.mk _ _) (funext fun x => ((spec_l8Places.e k (spec_l8Places.T.run tyt spec_l8Places.tbl k) x.1 x.2).trans (by rw [q4]; rfl)).symm)
  rw [e]
  exact h
/-! ### spec_l8Put: function 192 -/
def spec_l8Put.b4 (o4 : List Int → Int → Int → List Int → Int → Int → List Int → List Int → Int → Option (Int × Int × List Int)) (k : Nat) (l0_4 : List Int) (x1_4 : Int) (x2_4 : Int) (l3_4 : List Int) (x4_4 : Int) (x5_4 : Int) (l6_4 : List Int) (l7_4 : List Int) (x8_4 : Int) : Option (Int × Int × List Int) := (if x8_4 < (l7_4.length : Int) then ((chk l7_4.length x8_4).bind fun i3 => ((rem x8_4 (l0_4.length : Int)).bind fun q4 => ((chk l0_4.length q4).bind fun i5 => ((chk l6_4.length (l7_4.getD i3 0)).bind fun i6 => (o4 l0_4 x1_4 x2_4 l3_4 x4_4 x5_4 (l6_4.set i6 (l0_4.getD i5 0)) l7_4 (w64 (x8_4 + 1))))))) else (some (x4_4, x5_4, l6_4)))
def spec_l8Put.l4 : Nat → List Int → Int → Int → List Int → Int → Int → List Int → List Int → Int → Option (Int × Int × List Int)
  | 0, _, _, _, _, _, _, _, _, _ => none
  | k + 1, l0_4, x1_4, x2_4, l3_4, x4_4, x5_4, l6_4, l7_4, x8_4 => spec_l8Put.b4 (spec_l8Put.l4 k) k l0_4 x1_4 x2_4 l3_4 x4_4 x5_4 l6_4 l7_4 x8_4
def spec_l8Put.m (o4 : List Int → Int → Int → List Int → Int → Int → List Int → List Int → Int → Option (Int × Int × List Int)) (k : Nat) (a0_0 : Int) (a0_1 : Int) (l0_2 : List Int) (l1 : List Int) : Option (Int × Int × List Int) := ((spec_l2Own.f k a0_0 a0_1 l0_2).bind fun r1 => ((spec_l8Places.f k a0_0 a0_1).bind fun r2 => (o4 l1 0 0 [] r1.1 r1.2.1 r1.2.2 r2 0)))
def spec_l8Put.f (k : Nat) (a0_0 : Int) (a0_1 : Int) (l0_2 : List Int) (l1 : List Int) : Option (Int × Int × List Int) := spec_l8Put.m (spec_l8Put.l4 k) k a0_0 a0_1 l0_2 l1
noncomputable def spec_l8Put.spec (k : Nat) : FnSpec := ⟨[.ag [.d (.int .i64) none, .d (.int .i64) none, .d (.sl (.int .i64)) none], .d (.sl (.int .i64)) none], [.ag [.d (.int .i64) none, .d (.int .i64) none, .d (.sl (.int .i64)) (some 3)]], fun x => spec_l8Put.f k x.1 x.2.1 x.2.2.1 x.2.2.2⟩
def spec_l8Put.S4 (l0_4 : List Int) (x1_4 : Int) (x2_4 : Int) (l3_4 : List Int) (x4_4 : Int) (x5_4 : Int) (l6_4 : List Int) (l7_4 : List Int) (x8_4 : Int) : St := ⟨[(1, .val (.sl (.int .i64)) l0_4), (4, .ptr 100 0), (5, .ptr 101 0), (6, .ref 103), (7, .val (.int .i64) x8_4)], [(103, some (.row 3 (.int .i64) l7_4)), (101, some (.box [.val (.int .i64) x4_4, .val (.int .i64) x5_4, .ref 102])), (102, some (.row 3 (.int .i64) l6_4)), (100, some (.box [.val (.int .i64) x1_4, .val (.int .i64) x2_4, .val (.sl (.int .i64)) l3_4]))], 1000⟩
noncomputable def spec_l8Put.T : FnText := ⟨(conv [] (bodyOf Go.Proofs.Try.f192) 0).1, Go.Proofs.Try.f192.results.toList, 36, [(4, [(1, .rd (.sl (.int .i64))), (4, .bx 100 [.rd (.int .i64), .rd (.int .i64), .rd (.sl (.int .i64))]), (5, .bx 101 [.rd (.int .i64), .rd (.int .i64), .own 3 (.int .i64) 102]), (6, .own 3 (.int .i64) 103), (7, .rd (.int .i64))])], [.ag [.d (.int .i64) none, .d (.int .i64) none, .d (.sl (.int .i64)) none], .d (.sl (.int .i64)) none], [.ag [.d (.int .i64) none, .d (.int .i64) none, .d (.sl (.int .i64)) (some 3)]]⟩
noncomputable def spec_l8Put.tbl (k : Nat) : Tbl := [(135, spec_l2Own.spec k), (243, spec_l8Places.spec k)]
theorem spec_l8Put.e4 (k : Nat) (o : Nat → St → Option (Int × Int × List Int)) (l0_4 : List Int) (x1_4 : Int) (x2_4 : Int) (l3_4 : List Int) (x4_4 : Int) (x5_4 : Int) (l6_4 : List Int) (l7_4 : List Int) (x8_4 : Int) : spec_l8Put.T.step tyt (spec_l8Put.tbl k) o 4 (spec_l8Put.S4 l0_4 x1_4 x2_4 l3_4 x4_4 x5_4 l6_4 l7_4 x8_4) = spec_l8Put.b4 (fun l0_4 x1_4 x2_4 l3_4 x4_4 x5_4 l6_4 l7_4 x8_4 => o 4 (spec_l8Put.S4 l0_4 x1_4 x2_4 l3_4 x4_4 x5_4 l6_4 l7_4 x8_4)) k l0_4 x1_4 x2_4 l3_4 x4_4 x5_4 l6_4 l7_4 x8_4 := by kernel_rfl
theorem spec_l8Put.e (k : Nat) (o : Nat → St → Option (Int × Int × List Int)) (a0_0 : Int) (a0_1 : Int) (l0_2 : List Int) (l1 : List Int) : spec_l8Put.T.main tyt (spec_l8Put.tbl k) o (a0_0, a0_1, l0_2, l1) = spec_l8Put.m (fun l0_4 x1_4 x2_4 l3_4 x4_4 x5_4 l6_4 l7_4 x8_4 => o 4 (spec_l8Put.S4 l0_4 x1_4 x2_4 l3_4 x4_4 x5_4 l6_4 l7_4 x8_4)) k a0_0 a0_1 l0_2 l1 := by kernel_rfl
theorem spec_l8Put.ok : spec_l8Put.T.ok = true := by kernel_rfl
theorem spec_l8Put.run (k : Nat) : (∀ (l0_4 : List Int) (x1_4 : Int) (x2_4 : Int) (l3_4 : List Int) (x4_4 : Int) (x5_4 : Int) (l6_4 : List Int) (l7_4 : List Int) (x8_4 : Int), spec_l8Put.T.run tyt spec_l8Put.tbl k 4 (spec_l8Put.S4 l0_4 x1_4 x2_4 l3_4 x4_4 x5_4 l6_4 l7_4 x8_4) = spec_l8Put.l4 k l0_4 x1_4 x2_4 l3_4 x4_4 x5_4 l6_4 l7_4 x8_4) := by
  induction k with
  | zero => exact fun l0_4 x1_4 x2_4 l3_4 x4_4 x5_4 l6_4 l7_4 x8_4 => rfl
  | succ k ih =>
    exact fun l0_4 x1_4 x2_4 l3_4 x4_4 x5_4 l6_4 l7_4 x8_4 => by
      have q4 : (fun l0_4 x1_4 x2_4 l3_4 x4_4 x5_4 l6_4 l7_4 x8_4 => spec_l8Put.T.run tyt spec_l8Put.tbl k 4 (spec_l8Put.S4 l0_4 x1_4 x2_4 l3_4 x4_4 x5_4 l6_4 l7_4 x8_4)) = spec_l8Put.l4 k := by funext l0_4 x1_4 x2_4 l3_4 x4_4 x5_4 l6_4 l7_4 x8_4; exact ih l0_4 x1_4 x2_4 l3_4 x4_4 x5_4 l6_4 l7_4 x8_4
      exact (spec_l8Put.e4 k (spec_l8Put.T.run tyt spec_l8Put.tbl k) l0_4 x1_4 x2_4 l3_4 x4_4 x5_4 l6_4 l7_4 x8_4).trans (by rw [q4]; rfl)
theorem spec_l8Put.tblok (k : Nat) : TblOk Go.Proofs.Try.prog (spec_l8Put.tbl k) := TblOk.cons (spec_l2Own.sound k) (TblOk.cons (spec_l8Places.sound k) (TblOk.nil _))
theorem spec_l8Put.sound (k : Nat) : Sound Go.Proofs.Try.prog 192 (spec_l8Put.spec k) := by
  have h := fn_ok (F := spec_l8Put.T) (tbl := spec_l8Put.tbl) mixed tyok Go.Proofs.Try.func192 (by kernel_rfl) (c0 := bodyOf Go.Proofs.Try.f192) rfl (conv_code _ _ _) rfl rfl spec_l8Put.ok k (fun j _ => spec_l8Put.tblok j)
  have q4 : (fun l0_4 x1_4 x2_4 l3_4 x4_4 x5_4 l6_4 l7_4 x8_4 => spec_l8Put.T.run tyt spec_l8Put.tbl k 4 (spec_l8Put.S4 l0_4 x1_4 x2_4 l3_4 x4_4 x5_4 l6_4 l7_4 x8_4)) = spec_l8Put.l4 k := by funext l0_4 x1_4 x2_4 l3_4 x4_4 x5_4 l6_4 l7_4 x8_4; exact (spec_l8Put.run k) l0_4 x1_4 x2_4 l3_4 x4_4 x5_4 l6_4 l7_4 x8_4
  have e : spec_l8Put.spec k = ⟨spec_l8Put.T.ps, spec_l8Put.T.rs, spec_l8Put.T.ev tyt spec_l8Put.tbl k⟩ := congrArg (FnSpec.mk _ _) (funext fun x => ((spec_l8Put.e k (spec_l8Put.T.run tyt spec_l8Put.tbl k) x.1 x.2.1 x.2.2.1 x.2.2.2).trans (by rw [q4]; rfl)).symm)
  rw [e]
  exact h
/-! ### spec_AddBorder: function 94 -/
def spec_AddBorder.m (k : Nat) (a0_0 : Int) (a0_1 : Int) (l0_2 : List Int) (l1 : List Int) : Option (Int × Int × List Int × Bool) := ((spec_l2Good.f k a0_0 a0_1 l0_2).bind fun r1 => (cond (!r1) (some (0, 0, [], false)) ((spec_l8Pattern.f k l1).bind fun r2 => (cond (!r2) (some (0, 0, [], false)) ((spec_l6Blank.f k (w64 (a0_0 + 2)) (w64 (a0_1 + 2))).bind fun r3 => (cond (!r3.2.2.2) (some (0, 0, [], false)) ((spec_l8Length.f k r3.1 r3.2.1).bind fun r4 => ((rem r4 (l1.length : Int)).bind fun q5 => (if ¬ q5 = 0 then (some (0, 0, [], false)) else ((spec_l2Put.f k r3.1 r3.2.1 r3.2.2.1 a0_0 a0_1 l0_2 1 1).bind fun r6 => ((spec_l8Put.f k r6.1 r6.2.1 r6.2.2 l1).bind fun r7 => (some (r7.1, r7.2.1, r7.2.2, true)))))))))))))
def spec_AddBorder.f (k : Nat) (a0_0 : Int) (a0_1 : Int) (l0_2 : List Int) (l1 : List Int) : Option (Int × Int × List Int × Bool) := spec_AddBorder.m k a0_0 a0_1 l0_2 l1
noncomputable def spec_AddBorder.spec (k : Nat) : FnSpec := ⟨[.ag [.d (.int .i64) none, .d (.int .i64) none, .d (.sl (.int .i64)) none], .d (.sl (.int .i64)) none], [.ag [.d (.int .i64) none, .d (.int .i64) none, .d (.sl (.int .i64)) (some 3)], .d .bool none], fun x => spec_AddBorder.f k x.1 x.2.1 x.2.2.1 x.2.2.2⟩
noncomputable def spec_AddBorder.T : FnText := ⟨(conv [] (bodyOf Go.Proofs.Try.f94) 0).1, Go.Proofs.Try.f94.results.toList, 46, [], [.ag [.d (.int .i64) none, .d (.int .i64) none, .d (.sl (.int .i64)) none], .d (.sl (.int .i64)) none], [.ag [.d (.int .i64) none, .d (.int .i64) none, .d (.sl (.int .i64)) (some 3)], .d .bool none]⟩
noncomputable def spec_AddBorder.tbl (k : Nat) : Tbl := [(131, spec_l2Good.spec k), (211, spec_l8Pattern.spec k), (198, spec_l6Blank.spec k), (190, spec_l8Length.spec k), (174, spec_l2Put.spec k), (192, spec_l8Put.spec k)]
theorem spec_AddBorder.e (k : Nat) (o : Nat → St → Option (Int × Int × List Int × Bool)) (a0_0 : Int) (a0_1 : Int) (l0_2 : List Int) (l1 : List Int) : spec_AddBorder.T.main tyt (spec_AddBorder.tbl k) o (a0_0, a0_1, l0_2, l1) = spec_AddBorder.m k a0_0 a0_1 l0_2 l1 := by kernel_rfl
theorem spec_AddBorder.ok : spec_AddBorder.T.ok = true := by kernel_rfl
theorem spec_AddBorder.tblok (k : Nat) : TblOk Go.Proofs.Try.prog (spec_AddBorder.tbl k) := TblOk.cons (spec_l2Good.sound k) (TblOk.cons (spec_l8Pattern.sound k) (TblOk.cons (spec_l6Blank.sound k) (TblOk.cons (spec_l8Length.sound k) (TblOk.cons (spec_l2Put.sound k) (TblOk.cons (spec_l8Put.sound k) (TblOk.nil _))))))
theorem spec_AddBorder.sound (k : Nat) : Sound Go.Proofs.Try.prog 94 (spec_AddBorder.spec k) := by
  have h := fn_ok (F := spec_AddBorder.T) (tbl := spec_AddBorder.tbl) mixed tyok Go.Proofs.Try.func94 (by kernel_rfl) (c0 := bodyOf Go.Proofs.Try.f94) rfl (conv_code _ _ _) rfl rfl spec_AddBorder.ok k (fun j _ => spec_AddBorder.tblok j)
  have e : spec_AddBorder.spec k = ⟨spec_AddBorder.T.ps, spec_AddBorder.T.rs, spec_AddBorder.T.ev tyt spec_AddBorder.tbl k⟩ := congrArg (FnSpec.mk _ _) (funext fun x => ((spec_AddBorder.e k (spec_AddBorder.T.run tyt spec_AddBorder.tbl k) x.1 x.2.1 x.2.2.1 x.2.2.2).trans (by rfl)).symm)
  rw [e]
  exact h
/-! ### laws_vInts: function 29 -/
def laws_vInts.b6 (o6 : List Int → List Int → Int → Option (Bool)) (k : Nat) (l0_6 : List Int) (l1_6 : List Int) (x2_6 : Int) : Option (Bool) := (if x2_6 < (l0_6.length : Int) then ((chk l0_6.length x2_6).bind fun i1 => ((chk l1_6.length x2_6).bind fun i2 => (if ¬ (l0_6.getD i1 0) = (l1_6.getD i2 0) then (some false) else (o6 l0_6 l1_6 (w64 (x2_6 + 1)))))) else (some true))
def laws_vInts.l6 : Nat → List Int → List Int → Int → Option (Bool)
  | 0, _, _, _ => none
  | k + 1, l0_6, l1_6, x2_6 => laws_vInts.b6 (laws_vInts.l6 k) k l0_6 l1_6 x2_6
def laws_vInts.m (o6 : List Int → List Int → Int → Option (Bool)) (k : Nat) (l0 : List Int) (l1 : List Int) : Option (Bool) := (if ¬ (l0.length : Int) = (l1.length : Int) then (some false) else (o6 l0 l1 0))
def laws_vInts.f (k : Nat) (l0 : List Int) (l1 : List Int) : Option (Bool) := laws_vInts.m (laws_vInts.l6 k) k l0 l1
noncomputable def laws_vInts.spec (k : Nat) : FnSpec := ⟨[.d (.sl (.int .i64)) none, .d (.sl (.int .i64)) none], [.d .bool none], fun x => laws_vInts.f k x.1 x.2⟩
def laws_vInts.S6 (l0_6 : List Int) (l1_6 : List Int) (x2_6 : Int) : St := ⟨[(0, .val (.sl (.int .i64)) l0_6), (1, .val (.sl (.int .i64)) l1_6), (5, .val (.int .i64) x2_6)], [], 1000⟩
noncomputable def laws_vInts.T : FnText := ⟨(conv [] (bodyOf Go.Proofs.Try.f29) 0).1, Go.Proofs.Try.f29.results.toList, 26, [(6, [(0, .rd (.sl (.int .i64))), (1, .rd (.sl (.int .i64))), (5, .rd (.int .i64))])], [.d (.sl (.int .i64)) none, .d (.sl (.int .i64)) none], [.d .bool none]⟩
noncomputable def laws_vInts.tbl (k : Nat) : Tbl := []
theorem laws_vInts.e6 (k : Nat) (o : Nat → St → Option (Bool)) (l0_6 : List Int) (l1_6 : List Int) (x2_6 : Int) : laws_vInts.T.step tyt (laws_vInts.tbl k) o 6 (laws_vInts.S6 l0_6 l1_6 x2_6) = laws_vInts.b6 (fun l0_6 l1_6 x2_6 => o 6 (laws_vInts.S6 l0_6 l1_6 x2_6)) k l0_6 l1_6 x2_6 := by kernel_rfl
theorem laws_vInts.e (k : Nat) (o : Nat → St → Option (Bool)) (l0 : List Int) (l1 : List Int) : laws_vInts.T.main tyt (laws_vInts.tbl k) o (l0, l1) = laws_vInts.m (fun l0_6 l1_6 x2_6 => o 6 (laws_vInts.S6 l0_6 l1_6 x2_6)) k l0 l1 := by kernel_rfl
theorem laws_vInts.ok : laws_vInts.T.ok = true := by kernel_rfl
theorem laws_vInts.run (k : Nat) : (∀ (l0_6 : List Int) (l1_6 : List Int) (x2_6 : Int), laws_vInts.T.run tyt laws_vInts.tbl k 6 (laws_vInts.S6 l0_6 l1_6 x2_6) = laws_vInts.l6 k l0_6 l1_6 x2_6) := by
  induction k with
  | zero => exact fun l0_6 l1_6 x2_6 => rfl
  | succ k ih =>
    exact fun l0_6 l1_6 x2_6 => by
      have q6 : (fun l0_6 l1_6 x2_6 => laws_vInts.T.run tyt laws_vInts.tbl k 6 (laws_vInts.S6 l0_6 l1_6 x2_6)) = laws_vInts.l6 k := by funext l0_6 l1_6 x2_6; exact ih l0_6 l1_6 x2_6
      exact (laws_vInts.e6 k (laws_vInts.T.run tyt laws_vInts.tbl k) l0_6 l1_6 x2_6).trans (by rw [q6]; rfl)
theorem laws_vInts.tblok (k : Nat) : TblOk Go.Proofs.Try.prog (laws_vInts.tbl k) := TblOk.nil _
theorem laws_vInts.sound (k : Nat) : Sound Go.Proofs.Try.prog 29 (laws_vInts.spec k) := by
  have h := fn_ok (F := laws_vInts.T) (tbl := laws_vInts.tbl) mixed tyok Go.Proofs.Try.func29 (by kernel_rfl) (c0 := bodyOf Go.Proofs.Try.f29) rfl (conv_code _ _ _) rfl rfl laws_vInts.ok k (fun j _ => laws_vInts.tblok j)
  have q6 : (fun l0_6 l1_6 x2_6 => laws_vInts.T.run tyt laws_vInts.tbl k 6 (laws_vInts.S6 l0_6 l1_6 x2_6)) = laws_vInts.l6 k := by funext l0_6 l1_6 x2_6; exact (laws_vInts.run k) l0_6 l1_6 x2_6
  have e : laws_vInts.spec k = ⟨laws_vInts.T.ps, laws_vInts.T.rs, laws_vInts.T.ev tyt laws_vInts.tbl k⟩ := congrArg (FnSpec.mk _ _) (funext fun x => ((laws_vInts.e k (laws_vInts.T.run tyt laws_vInts.tbl k) x.1 x.2).trans (by rw [q6]; rfl)).symm)
  rw [e]
  exact h
/-! ### laws_vChart: function 36 -/
def laws_vChart.m (k : Nat) (a0_0 : Int) (a0_1 : Int) (l0_2 : List Int) (a1_0 : Int) (a1_1 : Int) (l1_2 : List Int) : Option (Bool) := (if a0_0 = a1_0 then (if a0_1 = a1_1 then ((laws_vInts.f k l0_2 l1_2).bind fun r1 => (some r1)) else (some false)) else (some false))
def laws_vChart.f (k : Nat) (a0_0 : Int) (a0_1 : Int) (l0_2 : List Int) (a1_0 : Int) (a1_1 : Int) (l1_2 : List Int) : Option (Bool) := laws_vChart.m k a0_0 a0_1 l0_2 a1_0 a1_1 l1_2
noncomputable def laws_vChart.spec (k : Nat) : FnSpec := ⟨[.ag [.d (.int .i64) none, .d (.int .i64) none, .d (.sl (.int .i64)) none], .ag [.d (.int .i64) none, .d (.int .i64) none, .d (.sl (.int .i64)) none]], [.d .bool none], fun x => laws_vChart.f k x.1 x.2.1 x.2.2.1 x.2.2.2.1 x.2.2.2.2.1 x.2.2.2.2.2⟩
noncomputable def laws_vChart.T : FnText := ⟨(conv [] (bodyOf Go.Proofs.Try.f36) 0).1, Go.Proofs.Try.f36.results.toList, 24, [], [.ag [.d (.int .i64) none, .d (.int .i64) none, .d (.sl (.int .i64)) none], .ag [.d (.int .i64) none, .d (.int .i64) none, .d (.sl (.int .i64)) none]], [.d .bool none]⟩
noncomputable def laws_vChart.tbl (k : Nat) : Tbl := [(29, laws_vInts.spec k)]
theorem laws_vChart.e (k : Nat) (o : Nat → St → Option (Bool)) (a0_0 : Int) (a0_1 : Int) (l0_2 : List Int) (a1_0 : Int) (a1_1 : Int) (l1_2 : List Int) : laws_vChart.T.main tyt (laws_vChart.tbl k) o (a0_0, a0_1, l0_2, a1_0, a1_1, l1_2) = laws_vChart.m k a0_0 a0_1 l0_2 a1_0 a1_1 l1_2 := by kernel_rfl
theorem laws_vChart.ok : laws_vChart.T.ok = true := by kernel_rfl
theorem laws_vChart.tblok (k : Nat) : TblOk Go.Proofs.Try.prog (laws_vChart.tbl k) := TblOk.cons (laws_vInts.sound k) (TblOk.nil _)
theorem laws_vChart.sound (k : Nat) : Sound Go.Proofs.Try.prog 36 (laws_vChart.spec k) := by
  have h := fn_ok (F := laws_vChart.T) (tbl := laws_vChart.tbl) mixed tyok Go.Proofs.Try.func36 (by kernel_rfl) (c0 := bodyOf Go.Proofs.Try.f36) rfl (conv_code _ _ _) rfl rfl laws_vChart.ok k (fun j _ => laws_vChart.tblok j)
  have e : laws_vChart.spec k = ⟨laws_vChart.T.ps, laws_vChart.T.rs, laws_vChart.T.ev tyt laws_vChart.tbl k⟩ := congrArg (FnSpec.mk _ _) (funext fun x => ((laws_vChart.e k (laws_vChart.T.run tyt laws_vChart.tbl k) x.1 x.2.1 x.2.2.1 x.2.2.2.1 x.2.2.2.2.1 x.2.2.2.2.2).trans (by rfl)).symm)
  rw [e]
  exact h
/-! ### impl_isRingSide: function 188 -/
def impl_isRingSide.m (k : Nat) (a0 : Int) : Option (Bool) := ((impl_in.f k a0 2 8).bind fun r1 => (some r1))
def impl_isRingSide.f (k : Nat) (a0 : Int) : Option (Bool) := impl_isRingSide.m k a0
noncomputable def impl_isRingSide.spec (k : Nat) : FnSpec := ⟨[.d (.int .i64) none], [.d .bool none], fun x => impl_isRingSide.f k x⟩
noncomputable def impl_isRingSide.T : FnText := ⟨(conv [] (bodyOf Go.Proofs.Try.f188) 0).1, Go.Proofs.Try.f188.results.toList, 5, [], [.d (.int .i64) none], [.d .bool none]⟩
noncomputable def impl_isRingSide.tbl (k : Nat) : Tbl := [(139, impl_in.spec k)]
theorem impl_isRingSide.e (k : Nat) (o : Nat → St → Option (Bool)) (a0 : Int) : impl_isRingSide.T.main tyt (impl_isRingSide.tbl k) o a0 = impl_isRingSide.m k a0 := by kernel_rfl
theorem impl_isRingSide.ok : impl_isRingSide.T.ok = true := by kernel_rfl
theorem impl_isRingSide.tblok (k : Nat) : TblOk Go.Proofs.Try.prog (impl_isRingSide.tbl k) := TblOk.cons (impl_in.sound k) (TblOk.nil _)
theorem impl_isRingSide.sound (k : Nat) : Sound Go.Proofs.Try.prog 188 (impl_isRingSide.spec k) := by
  have h := fn_ok (F := impl_isRingSide.T) (tbl := impl_isRingSide.tbl) mixed tyok Go.Proofs.Try.func188 (by kernel_rfl) (c0 := bodyOf Go.Proofs.Try.f188) rfl (conv_code _ _ _) rfl rfl impl_isRingSide.ok k (fun j _ => impl_isRingSide.tblok j)
  have e : impl_isRingSide.spec k = ⟨impl_isRingSide.T.ps, impl_isRingSide.T.rs, impl_isRingSide.T.ev tyt impl_isRingSide.tbl k⟩ := congrArg (FnSpec.mk _ _) (funext fun x => ((impl_isRingSide.e k (impl_isRingSide.T.run tyt impl_isRingSide.tbl k) x).trans (by rfl)).symm)
  rw [e]
  exact h
/-! ### impl_hasRing: function 182 -/
def impl_hasRing.m (k : Nat) (a0_0 : Int) (a0_1 : Int) (l0_2 : List Int) : Option (Bool) := ((impl_IsChart.f k a0_0 a0_1 l0_2).bind fun r1 => (cond r1 ((impl_isRingSide.f k a0_0).bind fun r2 => (cond r2 ((impl_isRingSide.f k a0_1).bind fun r3 => (some r3)) (some false))) (some false)))
def impl_hasRing.f (k : Nat) (a0_0 : Int) (a0_1 : Int) (l0_2 : List Int) : Option (Bool) := impl_hasRing.m k a0_0 a0_1 l0_2
noncomputable def impl_hasRing.spec (k : Nat) : FnSpec := ⟨[.ag [.d (.int .i64) none, .d (.int .i64) none, .d (.sl (.int .i64)) none]], [.d .bool none], fun x => impl_hasRing.f k x.1 x.2.1 x.2.2⟩
noncomputable def impl_hasRing.T : FnText := ⟨(conv [] (bodyOf Go.Proofs.Try.f182) 0).1, Go.Proofs.Try.f182.results.toList, 15, [], [.ag [.d (.int .i64) none, .d (.int .i64) none, .d (.sl (.int .i64)) none]], [.d .bool none]⟩
noncomputable def impl_hasRing.tbl (k : Nat) : Tbl := [(39, impl_IsChart.spec k), (188, impl_isRingSide.spec k)]
theorem impl_hasRing.e (k : Nat) (o : Nat → St → Option (Bool)) (a0_0 : Int) (a0_1 : Int) (l0_2 : List Int) : impl_hasRing.T.main tyt (impl_hasRing.tbl k) o (a0_0, a0_1, l0_2) = impl_hasRing.m k a0_0 a0_1 l0_2 := by kernel_rfl
theorem impl_hasRing.ok : impl_hasRing.T.ok = true := by kernel_rfl
theorem impl_hasRing.tblok (k : Nat) : TblOk Go.Proofs.Try.prog (impl_hasRing.tbl k) := TblOk.cons (impl_IsChart.sound k) (TblOk.cons (impl_isRingSide.sound k) (TblOk.nil _))
theorem impl_hasRing.sound (k : Nat) : Sound Go.Proofs.Try.prog 182 (impl_hasRing.spec k) := by
  have h := fn_ok (F := impl_hasRing.T) (tbl := impl_hasRing.tbl) mixed tyok Go.Proofs.Try.func182 (by kernel_rfl) (c0 := bodyOf Go.Proofs.Try.f182) rfl (conv_code _ _ _) rfl rfl impl_hasRing.ok k (fun j _ => impl_hasRing.tblok j)
  have e : impl_hasRing.spec k = ⟨impl_hasRing.T.ps, impl_hasRing.T.rs, impl_hasRing.T.ev tyt impl_hasRing.tbl k⟩ := congrArg (FnSpec.mk _ _) (funext fun x => ((impl_hasRing.e k (impl_hasRing.T.run tyt impl_hasRing.tbl k) x.1 x.2.1 x.2.2).trans (by rfl)).symm)
  rw [e]
  exact h
/-! ### impl_Chart_at: function 171 -/
def impl_Chart_at.m (k : Nat) (a0_0 : Int) (a0_1 : Int) (l0_2 : List Int) (a1 : Int) (a2 : Int) : Option (Int) := ((chk l0_2.length (w64 ((w64 (a1 * a0_0)) + a2))).bind fun i1 => (some (l0_2.getD i1 0)))
def impl_Chart_at.f (k : Nat) (a0_0 : Int) (a0_1 : Int) (l0_2 : List Int) (a1 : Int) (a2 : Int) : Option (Int) := impl_Chart_at.m k a0_0 a0_1 l0_2 a1 a2
noncomputable def impl_Chart_at.spec (k : Nat) : FnSpec := ⟨[.ag [.d (.int .i64) none, .d (.int .i64) none, .d (.sl (.int .i64)) none], .d (.int .i64) none, .d (.int .i64) none], [.d (.int .i64) none], fun x => impl_Chart_at.f k x.1 x.2.1 x.2.2.1 x.2.2.2.1 x.2.2.2.2⟩
noncomputable def impl_Chart_at.T : FnText := ⟨(conv [] (bodyOf Go.Proofs.Try.f171) 0).1, Go.Proofs.Try.f171.results.toList, 17, [], [.ag [.d (.int .i64) none, .d (.int .i64) none, .d (.sl (.int .i64)) none], .d (.int .i64) none, .d (.int .i64) none], [.d (.int .i64) none]⟩
noncomputable def impl_Chart_at.tbl (k : Nat) : Tbl := []
theorem impl_Chart_at.e (k : Nat) (o : Nat → St → Option (Int)) (a0_0 : Int) (a0_1 : Int) (l0_2 : List Int) (a1 : Int) (a2 : Int) : impl_Chart_at.T.main tyt (impl_Chart_at.tbl k) o (a0_0, a0_1, l0_2, a1, a2) = impl_Chart_at.m k a0_0 a0_1 l0_2 a1 a2 := by kernel_rfl
theorem impl_Chart_at.ok : impl_Chart_at.T.ok = true := by kernel_rfl
theorem impl_Chart_at.tblok (k : Nat) : TblOk Go.Proofs.Try.prog (impl_Chart_at.tbl k) := TblOk.nil _
theorem impl_Chart_at.sound (k : Nat) : Sound Go.Proofs.Try.prog 171 (impl_Chart_at.spec k) := by
  have h := fn_ok (F := impl_Chart_at.T) (tbl := impl_Chart_at.tbl) mixed tyok Go.Proofs.Try.func171 (by kernel_rfl) (c0 := bodyOf Go.Proofs.Try.f171) rfl (conv_code _ _ _) rfl rfl impl_Chart_at.ok k (fun j _ => impl_Chart_at.tblok j)
  have e : impl_Chart_at.spec k = ⟨impl_Chart_at.T.ps, impl_Chart_at.T.rs, impl_Chart_at.T.ev tyt impl_Chart_at.tbl k⟩ := congrArg (FnSpec.mk _ _) (funext fun x => ((impl_Chart_at.e k (impl_Chart_at.T.run tyt impl_Chart_at.tbl k) x.1 x.2.1 x.2.2.1 x.2.2.2.1 x.2.2.2.2).trans (by rfl)).symm)
  rw [e]
  exact h
/-! ### impl_Chart_part_1: function 241 -/
def impl_Chart_part_1.m (k : Nat) (a0 : Int) (a1 : Int) (a2_0 : Int) (a2_1 : Int) (l2_2 : List Int) (a3_0 : Int) (a4_0 : Int) : Option (Int) := ((impl_Chart_at.f k a2_0 a2_1 l2_2 (w64 (a3_0 + a0)) (w64 (a4_0 + a1))).bind fun r1 => (some r1))
def impl_Chart_part_1.f (k : Nat) (a0 : Int) (a1 : Int) (a2_0 : Int) (a2_1 : Int) (l2_2 : List Int) (a3_0 : Int) (a4_0 : Int) : Option (Int) := impl_Chart_part_1.m k a0 a1 a2_0 a2_1 l2_2 a3_0 a4_0
noncomputable def impl_Chart_part_1.spec (k : Nat) : FnSpec := ⟨[.d (.int .i64) none, .d (.int .i64) none, .rb [.d (.int .i64) none, .d (.int .i64) none, .d (.sl (.int .i64)) none], .rb [.d (.int .i64) none], .rb [.d (.int .i64) none]], [.d (.int .i64) none], fun x => impl_Chart_part_1.f k x.1 x.2.1 x.2.2.1 x.2.2.2.1 x.2.2.2.2.1 x.2.2.2.2.2.1 x.2.2.2.2.2.2⟩
noncomputable def impl_Chart_part_1.T : FnText := ⟨(conv [] (bodyOf Go.Proofs.Try.f241) 0).1, Go.Proofs.Try.f241.results.toList, 16, [], [.d (.int .i64) none, .d (.int .i64) none, .rb [.d (.int .i64) none, .d (.int .i64) none, .d (.sl (.int .i64)) none], .rb [.d (.int .i64) none], .rb [.d (.int .i64) none]], [.d (.int .i64) none]⟩
noncomputable def impl_Chart_part_1.tbl (k : Nat) : Tbl := [(171, impl_Chart_at.spec k)]
theorem impl_Chart_part_1.e (k : Nat) (o : Nat → St → Option (Int)) (a0 : Int) (a1 : Int) (a2_0 : Int) (a2_1 : Int) (l2_2 : List Int) (a3_0 : Int) (a4_0 : Int) : impl_Chart_part_1.T.main tyt (impl_Chart_part_1.tbl k) o (a0, a1, a2_0, a2_1, l2_2, a3_0, a4_0) = impl_Chart_part_1.m k a0 a1 a2_0 a2_1 l2_2 a3_0 a4_0 := by kernel_rfl
theorem impl_Chart_part_1.ok : impl_Chart_part_1.T.ok = true := by kernel_rfl
theorem impl_Chart_part_1.tblok (k : Nat) : TblOk Go.Proofs.Try.prog (impl_Chart_part_1.tbl k) := TblOk.cons (impl_Chart_at.sound k) (TblOk.nil _)
theorem impl_Chart_part_1.sound (k : Nat) : Sound Go.Proofs.Try.prog 241 (impl_Chart_part_1.spec k) := by
  have h := fn_ok (F := impl_Chart_part_1.T) (tbl := impl_Chart_part_1.tbl) mixed tyok Go.Proofs.Try.func241 (by kernel_rfl) (c0 := bodyOf Go.Proofs.Try.f241) rfl (conv_code _ _ _) rfl rfl impl_Chart_part_1.ok k (fun j _ => impl_Chart_part_1.tblok j)
  have e : impl_Chart_part_1.spec k = ⟨impl_Chart_part_1.T.ps, impl_Chart_part_1.T.rs, impl_Chart_part_1.T.ev tyt impl_Chart_part_1.tbl k⟩ := congrArg (FnSpec.mk _ _) (funext fun x => ((impl_Chart_part_1.e k (impl_Chart_part_1.T.run tyt impl_Chart_part_1.tbl k) x.1 x.2.1 x.2.2.1 x.2.2.2.1 x.2.2.2.2.1 x.2.2.2.2.2.1 x.2.2.2.2.2.2).trans (by rfl)).symm)
  rw [e]
  exact h
/-! ### impl_makeChart__impl_Chart_part_1: function 178 -/
def impl_makeChart__impl_Chart_part_1.b4 (o10 : Int → Int → Int → List Int → Int → Int → Int → Int → List Int → Int → Int → List Int → Int → Int → Int → Int → Int → Option (Int × Int × List Int)) (k : Nat) (x0_4 : Int) (x1_4 : Int) (x2_4 : Int) (l3_4 : List Int) (x4_4 : Int) (x5_4 : Int) (x6_4 : Int) (x7_4 : Int) (l8_4 : List Int) (x9_4 : Int) (x10_4 : Int) (l11_4 : List Int) (x12_4 : Int) (x13_4 : Int) : Option (Int × Int × List Int) := (if x13_4 < x12_4 then (o10 x0_4 x1_4 x2_4 l3_4 x4_4 x5_4 x6_4 x7_4 l8_4 x9_4 x10_4 l11_4 x13_4 x12_4 x13_4 x0_4 0) else (some (x9_4, x10_4, l11_4)))
def impl_makeChart__impl_Chart_part_1.b10 (o4 : Int → Int → Int → List Int → Int → Int → Int → Int → List Int → Int → Int → List Int → Int → Int → Option (Int × Int × List Int)) (o10 : Int → Int → Int → List Int → Int → Int → Int → Int → List Int → Int → Int → List Int → Int → Int → Int → Int → Int → Option (Int × Int × List Int)) (k : Nat) (x0_10 : Int) (x1_10 : Int) (x2_10 : Int) (l3_10 : List Int) (x4_10 : Int) (x5_10 : Int) (x6_10 : Int) (x7_10 : Int) (l8_10 : List Int) (x9_10 : Int) (x10_10 : Int) (l11_10 : List Int) (x12_10 : Int) (x13_10 : Int) (x14_10 : Int) (x15_10 : Int) (x16_10 : Int) : Option (Int × Int × List Int) := (if x16_10 < x15_10 then ((impl_Chart_part_1.f k x12_10 x16_10 x1_10 x2_10 l3_10 x4_10 x5_10).bind fun r1 => ((app 17592186044416 l11_10 [r1]).bind fun l2 => (o10 x0_10 x1_10 x2_10 l3_10 x4_10 x5_10 x6_10 x7_10 l8_10 x9_10 x10_10 l2 x12_10 x13_10 x14_10 x15_10 (w64 (x16_10 + 1))))) else (o4 x0_10 x1_10 x2_10 l3_10 x4_10 x5_10 x6_10 x7_10 l8_10 x9_10 x10_10 l11_10 x13_10 (w64 (x14_10 + 1))))
mutual
def impl_makeChart__impl_Chart_part_1.l4 : Nat → Int → Int → Int → List Int → Int → Int → Int → Int → List Int → Int → Int → List Int → Int → Int → Option (Int × Int × List Int)
  | 0, _, _, _, _, _, _, _, _, _, _, _, _, _, _ => none
  | k + 1, x0_4, x1_4, x2_4, l3_4, x4_4, x5_4, x6_4, x7_4, l8_4, x9_4, x10_4, l11_4, x12_4, x13_4 => impl_makeChart__impl_Chart_part_1.b4 (impl_makeChart__impl_Chart_part_1.l10 k) k x0_4 x1_4 x2_4 l3_4 x4_4 x5_4 x6_4 x7_4 l8_4 x9_4 x10_4 l11_4 x12_4 x13_4
def impl_makeChart__impl_Chart_part_1.l10 : Nat → Int → Int → Int → List Int → Int → Int → Int → Int → List Int → Int → Int → List Int → Int → Int → Int → Int → Int → Option (Int × Int × List Int)
  | 0, _, _, _, _, _, _, _, _, _, _, _, _, _, _, _, _, _ => none
  | k + 1, x0_10, x1_10, x2_10, l3_10, x4_10, x5_10, x6_10, x7_10, l8_10, x9_10, x10_10, l11_10, x12_10, x13_10, x14_10, x15_10, x16_10 => impl_makeChart__impl_Chart_part_1.b10 (impl_makeChart__impl_Chart_part_1.l4 k) (impl_makeChart__impl_Chart_part_1.l10 k) k x0_10 x1_10 x2_10 l3_10 x4_10 x5_10 x6_10 x7_10 l8_10 x9_10 x10_10 l11_10 x12_10 x13_10 x14_10 x15_10 x16_10
end
def impl_makeChart__impl_Chart_part_1.m (o4 : Int → Int → Int → List Int → Int → Int → Int → Int → List Int → Int → Int → List Int → Int → Int → Option (Int × Int × List Int)) (k : Nat) (a0 : Int) (a1 : Int) (a2_0_0 : Int) (a2_0_1 : Int) (l2_0_2 : List Int) (a2_1_0 : Int) (a2_2_0 : Int) : Option (Int × Int × List Int) := (o4 a0 a2_0_0 a2_0_1 l2_0_2 a2_1_0 a2_2_0 0 0 [] a0 a1 [] a1 0)
def impl_makeChart__impl_Chart_part_1.f (k : Nat) (a0 : Int) (a1 : Int) (a2_0_0 : Int) (a2_0_1 : Int) (l2_0_2 : List Int) (a2_1_0 : Int) (a2_2_0 : Int) : Option (Int × Int × List Int) := impl_makeChart__impl_Chart_part_1.m (impl_makeChart__impl_Chart_part_1.l4 k) k a0 a1 a2_0_0 a2_0_1 l2_0_2 a2_1_0 a2_2_0
noncomputable def impl_makeChart__impl_Chart_part_1.spec (k : Nat) : FnSpec := ⟨[.d (.int .i64) none, .d (.int .i64) none, .fv 241 [] [.rb [.d (.int .i64) none, .d (.int .i64) none, .d (.sl (.int .i64)) none], .rb [.d (.int .i64) none], .rb [.d (.int .i64) none]]], [.ag [.d (.int .i64) none, .d (.int .i64) none, .d (.sl (.int .i64)) (some 3)]], fun x => impl_makeChart__impl_Chart_part_1.f k x.1 x.2.1 x.2.2.1 x.2.2.2.1 x.2.2.2.2.1 x.2.2.2.2.2.1 x.2.2.2.2.2.2⟩
def impl_makeChart__impl_Chart_part_1.S4 (x0_4 : Int) (x1_4 : Int) (x2_4 : Int) (l3_4 : List Int) (x4_4 : Int) (x5_4 : Int) (x6_4 : Int) (x7_4 : Int) (l8_4 : List Int) (x9_4 : Int) (x10_4 : Int) (l11_4 : List Int) (x12_4 : Int) (x13_4 : Int) : St := ⟨[(0, .val (.int .i64) x0_4), (2, .fn 241 [] [.cptr [.val (.int .i64) x1_4, .val (.int .i64) x2_4, .val (.sl (.int .i64)) l3_4] 0, .cptr [.val (.int .i64) x4_4] 0, .cptr [.val (.int .i64) x5_4] 0]), (6, .ptr 100 0), (7, .ptr 101 0), (13, .val (.int .i64) x12_4), (14, .val (.int .i64) x13_4)], [(101, some (.box [.val (.int .i64) x9_4, .val (.int .i64) x10_4, .ref 102])), (102, some (.row 3 (.int .i64) l11_4)), (100, some (.box [.val (.int .i64) x6_4, .val (.int .i64) x7_4, .val (.sl (.int .i64)) l8_4]))], 1000⟩
def impl_makeChart__impl_Chart_part_1.S10 (x0_10 : Int) (x1_10 : Int) (x2_10 : Int) (l3_10 : List Int) (x4_10 : Int) (x5_10 : Int) (x6_10 : Int) (x7_10 : Int) (l8_10 : List Int) (x9_10 : Int) (x10_10 : Int) (l11_10 : List Int) (x12_10 : Int) (x13_10 : Int) (x14_10 : Int) (x15_10 : Int) (x16_10 : Int) : St := ⟨[(0, .val (.int .i64) x0_10), (2, .fn 241 [] [.cptr [.val (.int .i64) x1_10, .val (.int .i64) x2_10, .val (.sl (.int .i64)) l3_10] 0, .cptr [.val (.int .i64) x4_10] 0, .cptr [.val (.int .i64) x5_10] 0]), (6, .ptr 100 0), (7, .ptr 101 0), (8, .val (.int .i64) x12_10), (13, .val (.int .i64) x13_10), (14, .val (.int .i64) x14_10), (17, .val (.int .i64) x15_10), (18, .val (.int .i64) x16_10)], [(101, some (.box [.val (.int .i64) x9_10, .val (.int .i64) x10_10, .ref 102])), (102, some (.row 3 (.int .i64) l11_10)), (100, some (.box [.val (.int .i64) x6_10, .val (.int .i64) x7_10, .val (.sl (.int .i64)) l8_10]))], 1000⟩
noncomputable def impl_makeChart__impl_Chart_part_1.T : FnText := ⟨(conv [] (bodyOf Go.Proofs.Try.f178) 0).1, Go.Proofs.Try.f178.results.toList, 33, [(4, [(0, .rd (.int .i64)), (2, .as), (6, .bx 100 [.rd (.int .i64), .rd (.int .i64), .rd (.sl (.int .i64))]), (7, .bx 101 [.rd (.int .i64), .rd (.int .i64), .own 3 (.int .i64) 102]), (13, .rd (.int .i64)), (14, .rd (.int .i64))]), (10, [(0, .rd (.int .i64)), (2, .as), (6, .bx 100 [.rd (.int .i64), .rd (.int .i64), .rd (.sl (.int .i64))]), (7, .bx 101 [.rd (.int .i64), .rd (.int .i64), .own 3 (.int .i64) 102]), (8, .rd (.int .i64)), (13, .rd (.int .i64)), (14, .rd (.int .i64)), (17, .rd (.int .i64)), (18, .rd (.int .i64))])], [.d (.int .i64) none, .d (.int .i64) none, .fv 241 [] [.rb [.d (.int .i64) none, .d (.int .i64) none, .d (.sl (.int .i64)) none], .rb [.d (.int .i64) none], .rb [.d (.int .i64) none]]], [.ag [.d (.int .i64) none, .d (.int .i64) none, .d (.sl (.int .i64)) (some 3)]]⟩
noncomputable def impl_makeChart__impl_Chart_part_1.tbl (k : Nat) : Tbl := [(241, impl_Chart_part_1.spec k)]
theorem impl_makeChart__impl_Chart_part_1.e4 (k : Nat) (o : Nat → St → Option (Int × Int × List Int)) (x0_4 : Int) (x1_4 : Int) (x2_4 : Int) (l3_4 : List Int) (x4_4 : Int) (x5_4 : Int) (x6_4 : Int) (x7_4 : Int) (l8_4 : List Int) (x9_4 : Int) (x10_4 : Int) (l11_4 : List Int) (x12_4 : Int) (x13_4 : Int) : impl_makeChart__impl_Chart_part_1.T.step tyt (impl_makeChart__impl_Chart_part_1.tbl k) o 4 (impl_makeChart__impl_Chart_part_1.S4 x0_4 x1_4 x2_4 l3_4 x4_4 x5_4 x6_4 x7_4 l8_4 x9_4 x10_4 l11_4 x12_4 x13_4) = impl_makeChart__impl_Chart_part_1.b4 (fun x0_10 x1_10 x2_10 l3_10 x4_10 x5_10 x6_10 x7_10 l8_10 x9_10 x10_10 l11_10 x12_10 x13_10 x14_10 x15_10 x16_10 => o 10 (impl_makeChart__impl_Chart_part_1.S10 x0_10 x1_10 x2_10 l3_10 x4_10 x5_10 x6_10 x7_10 l8_10 x9_10 x10_10 l11_10 x12_10 x13_10 x14_10 x15_10 x16_10)) k x0_4 x1_4 x2_4 l3_4 x4_4 x5_4 x6_4 x7_4 l8_4 x9_4 x10_4 l11_4 x12_4 x13_4 := by kernel_rfl
theorem impl_makeChart__impl_Chart_part_1.e10 (k : Nat) (o : Nat → St → Option (Int × Int × List Int)) (x0_10 : Int) (x1_10 : Int) (x2_10 : Int) (l3_10 : List Int) (x4_10 : Int) (x5_10 : Int) (x6_10 : Int) (x7_10 : Int) (l8_10 : List Int) (x9_10 : Int) (x10_10 : Int) (l11_10 : List Int) (x12_10 : Int) (x13_10 : Int) (x14_10 : Int) (x15_10 : Int) (x16_10 : Int) : impl_makeChart__impl_Chart_part_1.T.step tyt (impl_makeChart__impl_Chart_part_1.tbl k) o 10 (impl_makeChart__impl_Chart_part_1.S10 x0_10 x1_10 x2_10 l3_10 x4_10 x5_10 x6_10 x7_10 l8_10 x9_10 x10_10 l11_10 x12_10 x13_10 x14_10 x15_10 x16_10) = impl_makeChart__impl_Chart_part_1.b10 (fun x0_4 x1_4 x2_4 l3_4 x4_4 x5_4 x6_4 x7_4 l8_4 x9_4 x10_4 l11_4 x12_4 x13_4 => o 4 (impl_makeChart__impl_Chart_part_1.S4 x0_4 x1_4 x2_4 l3_4 x4_4 x5_4 x6_4 x7_4 l8_4 x9_4 x10_4 l11_4 x12_4 x13_4)) (fun x0_10 x1_10 x2_10 l3_10 x4_10 x5_10 x6_10 x7_10 l8_10 x9_10 x10_10 l11_10 x12_10 x13_10 x14_10 x15_10 x16_10 => o 10 (impl_makeChart__impl_Chart_part_1.S10 x0_10 x1_10 x2_10 l3_10 x4_10 x5_10 x6_10 x7_10 l8_10 x9_10 x10_10 l11_10 x12_10 x13_10 x14_10 x15_10 x16_10)) k x0_10 x1_10 x2_10 l3_10 x4_10 x5_10 x6_10 x7_10 l8_10 x9_10 x10_10 l11_10 x12_10 x13_10 x14_10 x15_10 x16_10 := by kernel_rfl
theorem impl_makeChart__impl_Chart_part_1.e (k : Nat) (o : Nat → St → Option (Int × Int × List Int)) (a0 : Int) (a1 : Int) (a2_0_0 : Int) (a2_0_1 : Int) (l2_0_2 : List Int) (a2_1_0 : Int) (a2_2_0 : Int) : impl_makeChart__impl_Chart_part_1.T.main tyt (impl_makeChart__impl_Chart_part_1.tbl k) o (a0, a1, a2_0_0, a2_0_1, l2_0_2, a2_1_0, a2_2_0) = impl_makeChart__impl_Chart_part_1.m (fun x0_4 x1_4 x2_4 l3_4 x4_4 x5_4 x6_4 x7_4 l8_4 x9_4 x10_4 l11_4 x12_4 x13_4 => o 4 (impl_makeChart__impl_Chart_part_1.S4 x0_4 x1_4 x2_4 l3_4 x4_4 x5_4 x6_4 x7_4 l8_4 x9_4 x10_4 l11_4 x12_4 x13_4)) k a0 a1 a2_0_0 a2_0_1 l2_0_2 a2_1_0 a2_2_0 := by kernel_rfl
theorem impl_makeChart__impl_Chart_part_1.ok : impl_makeChart__impl_Chart_part_1.T.ok = true := by kernel_rfl
theorem impl_makeChart__impl_Chart_part_1.run (k : Nat) : (∀ (x0_4 : Int) (x1_4 : Int) (x2_4 : Int) (l3_4 : List Int) (x4_4 : Int) (x5_4 : Int) (x6_4 : Int) (x7_4 : Int) (l8_4 : List Int) (x9_4 : Int) (x10_4 : Int) (l11_4 : List Int) (x12_4 : Int) (x13_4 : Int), impl_makeChart__impl_Chart_part_1.T.run tyt impl_makeChart__impl_Chart_part_1.tbl k 4 (impl_makeChart__impl_Chart_part_1.S4 x0_4 x1_4 x2_4 l3_4 x4_4 x5_4 x6_4 x7_4 l8_4 x9_4 x10_4 l11_4 x12_4 x13_4) = impl_makeChart__impl_Chart_part_1.l4 k x0_4 x1_4 x2_4 l3_4 x4_4 x5_4 x6_4 x7_4 l8_4 x9_4 x10_4 l11_4 x12_4 x13_4) ∧ (∀ (x0_10 : Int) (x1_10 : Int) (x2_10 : Int) (l3_10 : List Int) (x4_10 : Int) (x5_10 : Int) (x6_10 : Int) (x7_10 : Int) (l8_10 : List Int) (x9_10 : Int) (x10_10 : Int) (l11_10 : List Int) (x12_10 : Int) (x13_10 : Int) (x14_10 : Int) (x15_10 : Int) (x16_10 : Int), impl_makeChart__impl_Chart_part_1.T.run tyt impl_makeChart__impl_Chart_part_1.tbl k 10 (impl_makeChart__impl_Chart_part_1.S10 x0_10 x1_10 x2_10 l3_10 x4_10 x5_10 x6_10 x7_10 l8_10 x9_10 x10_10 l11_10 x12_10 x13_10 x14_10 x15_10 x16_10) = impl_makeChart__impl_Chart_part_1.l10 k x0_10 x1_10 x2_10 l3_10 x4_10 x5_10 x6_10 x7_10 l8_10 x9_10 x10_10 l11_10 x12_10 x13_10 x14_10 x15_10 x16_10) := by
  induction k with
  | zero => exact ⟨fun x0_4 x1_4 x2_4 l3_4 x4_4 x5_4 x6_4 x7_4 l8_4 x9_4 x10_4 l11_4 x12_4 x13_4 => rfl, fun x0_10 x1_10 x2_10 l3_10 x4_10 x5_10 x6_10 x7_10 l8_10 x9_10 x10_10 l11_10 x12_10 x13_10 x14_10 x15_10 x16_10 => rfl⟩
  | succ k ih =>
    exact ⟨fun x0_4 x1_4 x2_4 l3_4 x4_4 x5_4 x6_4 x7_4 l8_4 x9_4 x10_4 l11_4 x12_4 x13_4 => by
      have q10 : (fun x0_10 x1_10 x2_10 l3_10 x4_10 x5_10 x6_10 x7_10 l8_10 x9_10 x10_10 l11_10 x12_10 x13_10 x14_10 x15_10 x16_10 => impl_makeChart__impl_Chart_part_1.T.run tyt impl_makeChart__impl_Chart_part_1.tbl k 10 (impl_makeChart__impl_Chart_part_1.S10 x0_10 x1_10 x2_10 l3_10 x4_10 x5_10 x6_10 x7_10 l8_10 x9_10 x10_10 l11_10 x12_10 x13_10 x14_10 x15_10 x16_10)) = impl_makeChart__impl_Chart_part_1.l10 k := by funext x0_10 x1_10 x2_10 l3_10 x4_10 x5_10 x6_10 x7_10 l8_10 x9_10 x10_10 l11_10 x12_10 x13_10 x14_10 x15_10 x16_10; exact ih.2 x0_10 x1_10 x2_10 l3_10 x4_10 x5_10 x6_10 x7_10 l8_10 x9_10 x10_10 l11_10 x12_10 x13_10 x14_10 x15_10 x16_10
      exact (impl_makeChart__impl_Chart_part_1.e4 k (impl_makeChart__impl_Chart_part_1.T.run tyt impl_makeChart__impl_Chart_part_1.tbl k) x0_4 x1_4 x2_4 l3_4 x4_4 x5_4 x6_4 x7_4 l8_4 x9_4 x10_4 l11_4 x12_4 x13_4).trans (by rw [q10]; rfl), fun x0_10 x1_10 x2_10 l3_10 x4_10 x5_10 x6_10 x7_10 l8_10 x9_10 x10_10 l11_10 x12_10 x13_10 x14_10 x15_10 x16_10 => by
      have q4 : (fun x0_4 x1_4 x2_4 l3_4 x4_4 x5_4 x6_4 x7_4 l8_4 x9_4 x10_4 l11_4 x12_4 x13_4 => impl_makeChart__impl_Chart_part_1.T.run tyt impl_makeChart__impl_Chart_part_1.tbl k 4 (impl_makeChart__impl_Chart_part_1.S4 x0_4 x1_4 x2_4 l3_4 x4_4 x5_4 x6_4 x7_4 l8_4 x9_4 x10_4 l11_4 x12_4 x13_4)) = impl_makeChart__impl_Chart_part_1.l4 k := by funext x0_4 x1_4 x2_4 l3_4 x4_4 x5_4 x6_4 x7_4 l8_4 x9_4 x10_4 l11_4 x12_4 x13_4; exact ih.1 x0_4 x1_4 x2_4 l3_4 x4_4 x5_4 x6_4 x7_4 l8_4 x9_4 x10_4 l11_4 x12_4 x13_4
      have q10 : (fun x0_10 x1_10 x2_10 l3_10 x4_10 x5_10 x6_10 x7_10 l8_10 x9_10 x10_10 l11_10 x12_10 x13_10 x14_10 x15_10 x16_10 => impl_makeChart__impl_Chart_part_1.T.run tyt impl_makeChart__impl_Chart_part_1.tbl k 10 (impl_makeChart__impl_Chart_part_1.S10 x0_10 x1_10 x2_10 l3_10 x4_10 x5_10 x6_10 x7_10 l8_10 x9_10 x10_10 l11_10 x12_10 x13_10 x14_10 x15_10 x16_10)) = impl_makeChart__impl_Chart_part_1.l10 k := by funext x0_10 x1_10 x2_10 l3_10 x4_10 x5_10 x6_10 x7_10 l8_10 x9_10 x10_10 l11_10 x12_10 x13_10 x14_10 x15_10 x16_10; exact ih.2 x0_10 x1_10 x2_10 l3_10 x4_10 x5_10 x6_10 x7_10 l8_10 x9_10 x10_10 l11_10 x12_10 x13_10 x14_10 x15_10 x16_10
      exact (impl_makeChart__impl_Chart_part_1.e10 k (impl_makeChart__impl_Chart_part_1.T.run tyt impl_makeChart__impl_Chart_part_1.tbl k) x0_10 x1_10 x2_10 l3_10 x4_10 x5_10 x6_10 x7_10 l8_10 x9_10 x10_10 l11_10 x12_10 x13_10 x14_10 x15_10 x16_10).trans (by rw [q4, q10]; rfl)⟩
theorem impl_makeChart__impl_Chart_part_1.tblok (k : Nat) : TblOk Go.Proofs.Try.prog (impl_makeChart__impl_Chart_part_1.tbl k) := TblOk.cons (impl_Chart_part_1.sound k) (TblOk.nil _)
theorem impl_makeChart__impl_Chart_part_1.sound (k : Nat) : Sound Go.Proofs.Try.prog 178 (impl_makeChart__impl_Chart_part_1.spec k) := by
  have h := fn_ok (F := impl_makeChart__impl_Chart_part_1.T) (tbl := impl_makeChart__impl_Chart_part_1.tbl) mixed tyok Go.Proofs.Try.func178 (by kernel_rfl) (c0 := bodyOf Go.Proofs.Try.f178) rfl (conv_code _ _ _) rfl rfl impl_makeChart__impl_Chart_part_1.ok k (fun j _ => impl_makeChart__impl_Chart_part_1.tblok j)
  have q4 : (fun x0_4 x1_4 x2_4 l3_4 x4_4 x5_4 x6_4 x7_4 l8_4 x9_4 x10_4 l11_4 x12_4 x13_4 => impl_makeChart__impl_Chart_part_1.T.run tyt impl_makeChart__impl_Chart_part_1.tbl k 4 (impl_makeChart__impl_Chart_part_1.S4 x0_4 x1_4 x2_4 l3_4 x4_4 x5_4 x6_4 x7_4 l8_4 x9_4 x10_4 l11_4 x12_4 x13_4)) = impl_makeChart__impl_Chart_part_1.l4 k := by funext x0_4 x1_4 x2_4 l3_4 x4_4 x5_4 x6_4 x7_4 l8_4 x9_4 x10_4 l11_4 x12_4 x13_4; exact (impl_makeChart__impl_Chart_part_1.run k).1 x0_4 x1_4 x2_4 l3_4 x4_4 x5_4 x6_4 x7_4 l8_4 x9_4 x10_4 l11_4 x12_4 x13_4
  have e : impl_makeChart__impl_Chart_part_1.spec k = ⟨impl_makeChart__impl_Chart_part_1.T.ps, impl_makeChart__impl_Chart_part_1.T.rs, impl_makeChart__impl_Chart_part_1.T.ev tyt impl_makeChart__impl_Chart_part_1.tbl k⟩ := congrArg (FnSpec.mk _ _) (funext fun x => ((impl_makeChart__impl_Chart_part_1.e k (impl_makeChart__impl_Chart_part_1.T.run tyt impl_makeChart__impl_Chart_part_1.tbl k) x.1 x.2.1 x.2.2.1 x.2.2.2.1 x.2.2.2.2.1 x.2.2.2.2.2.1 x.2.2.2.2.2.2).trans (by rw [q4]; rfl)).symm)
  rw [e]
  exact h
/-! ### impl_Chart_part: function 166 -/
def impl_Chart_part.m (k : Nat) (a0_0 : Int) (a0_1 : Int) (l0_2 : List Int) (a1 : Int) (a2 : Int) (a3 : Int) (a4 : Int) : Option (Int × Int × List Int) := ((impl_makeChart__impl_Chart_part_1.f k a4 a3 a0_0 a0_1 l0_2 a1 a2).bind fun r1 => (some (r1.1, r1.2.1, r1.2.2)))
def impl_Chart_part.f (k : Nat) (a0_0 : Int) (a0_1 : Int) (l0_2 : List Int) (a1 : Int) (a2 : Int) (a3 : Int) (a4 : Int) : Option (Int × Int × List Int) := impl_Chart_part.m k a0_0 a0_1 l0_2 a1 a2 a3 a4
noncomputable def impl_Chart_part.spec (k : Nat) : FnSpec := ⟨[.ag [.d (.int .i64) none, .d (.int .i64) none, .d (.sl (.int .i64)) none], .d (.int .i64) none, .d (.int .i64) none, .d (.int .i64) none, .d (.int .i64) none], [.ag [.d (.int .i64) none, .d (.int .i64) none, .d (.sl (.int .i64)) (some 3)]], fun x => impl_Chart_part.f k x.1 x.2.1 x.2.2.1 x.2.2.2.1 x.2.2.2.2.1 x.2.2.2.2.2.1 x.2.2.2.2.2.2⟩
noncomputable def impl_Chart_part.T : FnText := ⟨(conv [] (bodyOf Go.Proofs.Try.f166) 0).1, Go.Proofs.Try.f166.results.toList, 15, [], [.ag [.d (.int .i64) none, .d (.int .i64) none, .d (.sl (.int .i64)) none], .d (.int .i64) none, .d (.int .i64) none, .d (.int .i64) none, .d (.int .i64) none], [.ag [.d (.int .i64) none, .d (.int .i64) none, .d (.sl (.int .i64)) (some 3)]]⟩
noncomputable def impl_Chart_part.tbl (k : Nat) : Tbl := [(178, impl_makeChart__impl_Chart_part_1.spec k)]
theorem impl_Chart_part.e (k : Nat) (o : Nat → St → Option (Int × Int × List Int)) (a0_0 : Int) (a0_1 : Int) (l0_2 : List Int) (a1 : Int) (a2 : Int) (a3 : Int) (a4 : Int) : impl_Chart_part.T.main tyt (impl_Chart_part.tbl k) o (a0_0, a0_1, l0_2, a1, a2, a3, a4) = impl_Chart_part.m k a0_0 a0_1 l0_2 a1 a2 a3 a4 := by kernel_rfl
theorem impl_Chart_part.ok : impl_Chart_part.T.ok = true := by kernel_rfl
theorem impl_Chart_part.tblok (k : Nat) : TblOk Go.Proofs.Try.prog (impl_Chart_part.tbl k) := TblOk.cons (impl_makeChart__impl_Chart_part_1.sound k) (TblOk.nil _)
theorem impl_Chart_part.sound (k : Nat) : Sound Go.Proofs.Try.prog 166 (impl_Chart_part.spec k) := by
  have h := fn_ok (F := impl_Chart_part.T) (tbl := impl_Chart_part.tbl) mixed tyok Go.Proofs.Try.func166 (by kernel_rfl) (c0 := bodyOf Go.Proofs.Try.f166) rfl (conv_code _ _ _) rfl rfl impl_Chart_part.ok k (fun j _ => impl_Chart_part.tblok j)
  have e : impl_Chart_part.spec k = ⟨impl_Chart_part.T.ps, impl_Chart_part.T.rs, impl_Chart_part.T.ev tyt impl_Chart_part.tbl k⟩ := congrArg (FnSpec.mk _ _) (funext fun x => ((impl_Chart_part.e k (impl_Chart_part.T.run tyt impl_Chart_part.tbl k) x.1 x.2.1 x.2.2.1 x.2.2.2.1 x.2.2.2.2.1 x.2.2.2.2.2.1 x.2.2.2.2.2.2).trans (by rfl)).symm)
  rw [e]
  exact h
/-! ### impl_StripBorder: function 95 -/
def impl_StripBorder.m (k : Nat) (a0_0 : Int) (a0_1 : Int) (l0_2 : List Int) : Option (Int × Int × List Int × Bool) := ((impl_hasRing.f k a0_0 a0_1 l0_2).bind fun r1 => (cond (!r1) (some (0, 0, [], false)) (if a0_0 = 2 then (some (0, 0, [], false)) else (if a0_1 = 2 then (some (0, 0, [], false)) else ((impl_Chart_part.f k a0_0 a0_1 l0_2 1 1 (w64 (a0_1 - 2)) (w64 (a0_0 - 2))).bind fun r2 => (some (r2.1, r2.2.1, r2.2.2, true)))))))
def impl_StripBorder.f (k : Nat) (a0_0 : Int) (a0_1 : Int) (l0_2 : List Int) : Option (Int × Int × List Int × Bool) := impl_StripBorder.m k a0_0 a0_1 l0_2
noncomputable def impl_StripBorder.spec (k : Nat) : FnSpec := ⟨[.ag [.d (.int .i64) none, .d (.int .i64) none, .d (.sl (.int .i64)) none]], [.ag [.d (.int .i64) none, .d (.int .i64) none, .d (.sl (.int .i64)) (some 3)], .d .bool none], fun x => impl_StripBorder.f k x.1 x.2.1 x.2.2⟩
noncomputable def impl_StripBorder.T : FnText := ⟨(conv [] (bodyOf Go.Proofs.Try.f95) 0).1, Go.Proofs.Try.f95.results.toList, 26, [], [.ag [.d (.int .i64) none, .d (.int .i64) none, .d (.sl (.int .i64)) none]], [.ag [.d (.int .i64) none, .d (.int .i64) none, .d (.sl (.int .i64)) (some 3)], .d .bool none]⟩
noncomputable def impl_StripBorder.tbl (k : Nat) : Tbl := [(182, impl_hasRing.spec k), (166, impl_Chart_part.spec k)]
theorem impl_StripBorder.e (k : Nat) (o : Nat → St → Option (Int × Int × List Int × Bool)) (a0_0 : Int) (a0_1 : Int) (l0_2 : List Int) : impl_StripBorder.T.main tyt (impl_StripBorder.tbl k) o (a0_0, a0_1, l0_2) = impl_StripBorder.m k a0_0 a0_1 l0_2 := by kernel_rfl
theorem impl_StripBorder.ok : impl_StripBorder.T.ok = true := by kernel_rfl
theorem impl_StripBorder.tblok (k : Nat) : TblOk Go.Proofs.Try.prog (impl_StripBorder.tbl k) := TblOk.cons (impl_hasRing.sound k) (TblOk.cons (impl_Chart_part.sound k) (TblOk.nil _))
theorem impl_StripBorder.sound (k : Nat) : Sound Go.Proofs.Try.prog 95 (impl_StripBorder.spec k) := by
  have h := fn_ok (F := impl_StripBorder.T) (tbl := impl_StripBorder.tbl) mixed tyok Go.Proofs.Try.func95 (by kernel_rfl) (c0 := bodyOf Go.Proofs.Try.f95) rfl (conv_code _ _ _) rfl rfl impl_StripBorder.ok k (fun j _ => impl_StripBorder.tblok j)
  have e : impl_StripBorder.spec k = ⟨impl_StripBorder.T.ps, impl_StripBorder.T.rs, impl_StripBorder.T.ev tyt impl_StripBorder.tbl k⟩ := congrArg (FnSpec.mk _ _) (funext fun x => ((impl_StripBorder.e k (impl_StripBorder.T.run tyt impl_StripBorder.tbl k) x.1 x.2.1 x.2.2).trans (by rfl)).symm)
  rw [e]
  exact h
/-! ### impl_DoesMeet: function 96 -/
def impl_DoesMeet.m (k : Nat) (a0_0 : Int) (a0_1 : Int) (l0_2 : List Int) (l1 : List Int) : Option (Bool × Bool) := ((impl_hasRing.f k a0_0 a0_1 l0_2).bind fun r1 => (cond (!r1) (some (false, false)) ((impl_isPattern.f k l1).bind fun r2 => (cond (!r2) (some (false, false)) ((impl_ringLength.f k a0_0 a0_1).bind fun r3 => ((rem r3 (l1.length : Int)).bind fun q4 => (some ((decide (q4 = 0)), true))))))))
def impl_DoesMeet.f (k : Nat) (a0_0 : Int) (a0_1 : Int) (l0_2 : List Int) (l1 : List Int) : Option (Bool × Bool) := impl_DoesMeet.m k a0_0 a0_1 l0_2 l1
noncomputable def impl_DoesMeet.spec (k : Nat) : FnSpec := ⟨[.ag [.d (.int .i64) none, .d (.int .i64) none, .d (.sl (.int .i64)) none], .d (.sl (.int .i64)) none], [.d .bool none, .d .bool none], fun x => impl_DoesMeet.f k x.1 x.2.1 x.2.2.1 x.2.2.2⟩
noncomputable def impl_DoesMeet.T : FnText := ⟨(conv [] (bodyOf Go.Proofs.Try.f96) 0).1, Go.Proofs.Try.f96.results.toList, 23, [], [.ag [.d (.int .i64) none, .d (.int .i64) none, .d (.sl (.int .i64)) none], .d (.sl (.int .i64)) none], [.d .bool none, .d .bool none]⟩
noncomputable def impl_DoesMeet.tbl (k : Nat) : Tbl := [(182, impl_hasRing.spec k), (209, impl_isPattern.spec k), (186, impl_ringLength.spec k)]
theorem impl_DoesMeet.e (k : Nat) (o : Nat → St → Option (Bool × Bool)) (a0_0 : Int) (a0_1 : Int) (l0_2 : List Int) (l1 : List Int) : impl_DoesMeet.T.main tyt (impl_DoesMeet.tbl k) o (a0_0, a0_1, l0_2, l1) = impl_DoesMeet.m k a0_0 a0_1 l0_2 l1 := by kernel_rfl
theorem impl_DoesMeet.ok : impl_DoesMeet.T.ok = true := by kernel_rfl
theorem impl_DoesMeet.tblok (k : Nat) : TblOk Go.Proofs.Try.prog (impl_DoesMeet.tbl k) := TblOk.cons (impl_hasRing.sound k) (TblOk.cons (impl_isPattern.sound k) (TblOk.cons (impl_ringLength.sound k) (TblOk.nil _)))
theorem impl_DoesMeet.sound (k : Nat) : Sound Go.Proofs.Try.prog 96 (impl_DoesMeet.spec k) := by
  have h := fn_ok (F := impl_DoesMeet.T) (tbl := impl_DoesMeet.tbl) mixed tyok Go.Proofs.Try.func96 (by kernel_rfl) (c0 := bodyOf Go.Proofs.Try.f96) rfl (conv_code _ _ _) rfl rfl impl_DoesMeet.ok k (fun j _ => impl_DoesMeet.tblok j)
  have e : impl_DoesMeet.spec k = ⟨impl_DoesMeet.T.ps, impl_DoesMeet.T.rs, impl_DoesMeet.T.ev tyt impl_DoesMeet.tbl k⟩ := congrArg (FnSpec.mk _ _) (funext fun x => ((impl_DoesMeet.e k (impl_DoesMeet.T.run tyt impl_DoesMeet.tbl k) x.1 x.2.1 x.2.2.1 x.2.2.2).trans (by rfl)).symm)
  rw [e]
  exact h
/-! ### impl_Chart_ring: function 183 -/
def impl_Chart_ring.b4 (o4 : Int → Int → List Int → List Int → List Int → Int → Int → Option (List Int)) (k : Nat) (x0_4 : Int) (x1_4 : Int) (l2_4 : List Int) (l3_4 : List Int) (l4_4 : List Int) (x5_4 : Int) (x6_4 : Int) : Option (List Int) := (if x6_4 < x5_4 then ((chk l4_4.length x6_4).bind fun i2 => ((chk l2_4.length (l4_4.getD i2 0)).bind fun i3 => ((app 17592186044416 l3_4 [(l2_4.getD i3 0)]).bind fun l4 => (o4 x0_4 x1_4 l2_4 l4 l4_4 x5_4 (w64 (x6_4 + 1)))))) else (some l3_4))
def impl_Chart_ring.l4 : Nat → Int → Int → List Int → List Int → List Int → Int → Int → Option (List Int)
  | 0, _, _, _, _, _, _, _ => none
  | k + 1, x0_4, x1_4, l2_4, l3_4, l4_4, x5_4, x6_4 => impl_Chart_ring.b4 (impl_Chart_ring.l4 k) k x0_4 x1_4 l2_4 l3_4 l4_4 x5_4 x6_4
def impl_Chart_ring.m (o4 : Int → Int → List Int → List Int → List Int → Int → Int → Option (List Int)) (k : Nat) (a0_0 : Int) (a0_1 : Int) (l0_2 : List Int) : Option (List Int) := ((impl_ringPlaces.f k a0_0 a0_1).bind fun r1 => (o4 a0_0 a0_1 l0_2 ([] : List (Int)) r1 (r1.length : Int) 0))
def impl_Chart_ring.f (k : Nat) (a0_0 : Int) (a0_1 : Int) (l0_2 : List Int) : Option (List Int) := impl_Chart_ring.m (impl_Chart_ring.l4 k) k a0_0 a0_1 l0_2
noncomputable def impl_Chart_ring.spec (k : Nat) : FnSpec := ⟨[.ag [.d (.int .i64) none, .d (.int .i64) none, .d (.sl (.int .i64)) none]], [.d (.sl (.int .i64)) (some 3)], fun x => impl_Chart_ring.f k x.1 x.2.1 x.2.2⟩
def impl_Chart_ring.S4 (x0_4 : Int) (x1_4 : Int) (l2_4 : List Int) (l3_4 : List Int) (l4_4 : List Int) (x5_4 : Int) (x6_4 : Int) : St := ⟨[(1, .ptr 100 0), (3, .ref 101), (11, .ref 102), (12, .val (.int .i64) x5_4), (13, .val (.int .i64) x6_4)], [(102, some (.row 3 (.int .i64) l4_4)), (101, some (.row 3 (.int .i64) l3_4)), (100, some (.box [.val (.int .i64) x0_4, .val (.int .i64) x1_4, .val (.sl (.int .i64)) l2_4]))], 1000⟩
noncomputable def impl_Chart_ring.T : FnText := ⟨(conv [] (bodyOf Go.Proofs.Try.f183) 0).1, Go.Proofs.Try.f183.results.toList, 27, [(4, [(1, .bx 100 [.rd (.int .i64), .rd (.int .i64), .rd (.sl (.int .i64))]), (3, .own 3 (.int .i64) 101), (11, .own 3 (.int .i64) 102), (12, .rd (.int .i64)), (13, .rd (.int .i64))])], [.ag [.d (.int .i64) none, .d (.int .i64) none, .d (.sl (.int .i64)) none]], [.d (.sl (.int .i64)) (some 3)]⟩
noncomputable def impl_Chart_ring.tbl (k : Nat) : Tbl := [(242, impl_ringPlaces.spec k)]
theorem impl_Chart_ring.e4 (k : Nat) (o : Nat → St → Option (List Int)) (x0_4 : Int) (x1_4 : Int) (l2_4 : List Int) (l3_4 : List Int) (l4_4 : List Int) (x5_4 : Int) (x6_4 : Int) : impl_Chart_ring.T.step tyt (impl_Chart_ring.tbl k) o 4 (impl_Chart_ring.S4 x0_4 x1_4 l2_4 l3_4 l4_4 x5_4 x6_4) = impl_Chart_ring.b4 (fun x0_4 x1_4 l2_4 l3_4 l4_4 x5_4 x6_4 => o 4 (impl_Chart_ring.S4 x0_4 x1_4 l2_4 l3_4 l4_4 x5_4 x6_4)) k x0_4 x1_4 l2_4 l3_4 l4_4 x5_4 x6_4 := by kernel_rfl
theorem impl_Chart_ring.e (k : Nat) (o : Nat → St → Option (List Int)) (a0_0 : Int) (a0_1 : Int) (l0_2 : List Int) : impl_Chart_ring.T.main tyt (impl_Chart_ring.tbl k) o (a0_0, a0_1, l0_2) = impl_Chart_ring.m (fun x0_4 x1_4 l2_4 l3_4 l4_4 x5_4 x6_4 => o 4 (impl_Chart_ring.S4 x0_4 x1_4 l2_4 l3_4 l4_4 x5_4 x6_4)) k a0_0 a0_1 l0_2 := by kernel_rfl
theorem impl_Chart_ring.ok : impl_Chart_ring.T.ok = true := by kernel_rfl
theorem impl_Chart_ring.run (k : Nat) : (∀ (x0_4 : Int) (x1_4 : Int) (l2_4 : List Int) (l3_4 : List Int) (l4_4 : List Int) (x5_4 : Int) (x6_4 : Int), impl_Chart_ring.T.run tyt impl_Chart_ring.tbl k 4 (impl_Chart_ring.S4 x0_4 x1_4 l2_4 l3_4 l4_4 x5_4 x6_4) = impl_Chart_ring.l4 k x0_4 x1_4 l2_4 l3_4 l4_4 x5_4 x6_4) := by
  induction k with
  | zero => exact fun x0_4 x1_4 l2_4 l3_4 l4_4 x5_4 x6_4 => rfl
  | succ k ih =>
    exact fun x0_4 x1_4 l2_4 l3_4 l4_4 x5_4 x6_4 => by
      have q4 : (fun x0_4 x1_4 l2_4 l3_4 l4_4 x5_4 x6_4 => impl_Chart_ring.T.run tyt impl_Chart_ring.tbl k 4 (impl_Chart_ring.S4 x0_4 x1_4 l2_4 l3_4 l4_4 x5_4 x6_4)) = impl_Chart_ring.l4 k := by funext x0_4 x1_4 l2_4 l3_4 l4_4 x5_4 x6_4; exact ih x0_4 x1_4 l2_4 l3_4 l4_4 x5_4 x6_4
      exact (impl_Chart_ring.e4 k (impl_Chart_ring.T.run tyt impl_Chart_ring.tbl k) x0_4 x1_4 l2_4 l3_4 l4_4 x5_4 x6_4).trans (by rw [q4]; rfl)
theorem impl_Chart_ring.tblok (k : Nat) : TblOk Go.Proofs.Try.prog (impl_Chart_ring.tbl k) := TblOk.cons (impl_ringPlaces.sound k) (TblOk.nil _)
theorem impl_Chart_ring.sound (k : Nat) : Sound Go.Proofs.Try.prog 183 (impl_Chart_ring.spec k) := by
  have h := fn_ok (F := impl_Chart_ring.T) (tbl := impl_Chart_ring.tbl) mixed tyok Go.Proofs.Try.func183 (by kernel_rfl) (c0 := bodyOf Go.Proofs.Try.f183) rfl (conv_code _ _ _) rfl rfl impl_Chart_ring.ok k (fun j _ => impl_Chart_ring.tblok j)
  have q4 : (fun x0_4 x1_4 l2_4 l3_4 l4_4 x5_4 x6_4 => impl_Chart_ring.T.run tyt impl_Chart_ring.tbl k 4 (impl_Chart_ring.S4 x0_4 x1_4 l2_4 l3_4 l4_4 x5_4 x6_4)) = impl_Chart_ring.l4 k := by funext x0_4 x1_4 l2_4 l3_4 l4_4 x5_4 x6_4; exact (impl_Chart_ring.run k) x0_4 x1_4 l2_4 l3_4 l4_4 x5_4 x6_4
  have e : impl_Chart_ring.spec k = ⟨impl_Chart_ring.T.ps, impl_Chart_ring.T.rs, impl_Chart_ring.T.ev tyt impl_Chart_ring.tbl k⟩ := congrArg (FnSpec.mk _ _) (funext fun x => ((impl_Chart_ring.e k (impl_Chart_ring.T.run tyt impl_Chart_ring.tbl k) x.1 x.2.1 x.2.2).trans (by rw [q4]; rfl)).symm)
  rw [e]
  exact h
/-! ### impl_RingPeriod_1: function 189 -/
def impl_RingPeriod_1.b3 (o3 : Int → List Int → List Int → Int → Int → Option (Bool)) (k : Nat) (x0_3 : Int) (l1_3 : List Int) (l2_3 : List Int) (x3_3 : Int) (x4_3 : Int) : Option (Bool) := (if x4_3 < x3_3 then ((chk l2_3.length x4_3).bind fun i1 => ((rem (w64 (x4_3 + x0_3)) (l1_3.length : Int)).bind fun q2 => ((chk l1_3.length q2).bind fun i3 => (if ¬ (l2_3.getD i1 0) = (l1_3.getD i3 0) then (some false) else (o3 x0_3 l1_3 l2_3 x3_3 (w64 (x4_3 + 1))))))) else ((rem (l1_3.length : Int) x0_3).bind fun q4 => (some (decide (q4 = 0)))))
def impl_RingPeriod_1.l3 : Nat → Int → List Int → List Int → Int → Int → Option (Bool)
  | 0, _, _, _, _, _ => none
  | k + 1, x0_3, l1_3, l2_3, x3_3, x4_3 => impl_RingPeriod_1.b3 (impl_RingPeriod_1.l3 k) k x0_3 l1_3 l2_3 x3_3 x4_3
def impl_RingPeriod_1.m (o3 : Int → List Int → List Int → Int → Int → Option (Bool)) (k : Nat) (a0 : Int) (l1_0 : List Int) : Option (Bool) := (o3 a0 l1_0 l1_0 (l1_0.length : Int) 0)
def impl_RingPeriod_1.f (k : Nat) (a0 : Int) (l1_0 : List Int) : Option (Bool) := impl_RingPeriod_1.m (impl_RingPeriod_1.l3 k) k a0 l1_0
noncomputable def impl_RingPeriod_1.spec (k : Nat) : FnSpec := ⟨[.d (.int .i64) none, .rb [.d (.sl (.int .i64)) none]], [.d .bool none], fun x => impl_RingPeriod_1.f k x.1 x.2⟩
def impl_RingPeriod_1.S3 (x0_3 : Int) (l1_3 : List Int) (l2_3 : List Int) (x3_3 : Int) (x4_3 : Int) : St := ⟨[(0, .val (.int .i64) x0_3), (1, .cptr [.val (.sl (.int .i64)) l1_3] 0), (6, .val (.sl (.int .i64)) l2_3), (7, .val (.int .i64) x3_3), (8, .val (.int .i64) x4_3)], [], 1000⟩
noncomputable def impl_RingPeriod_1.T : FnText := ⟨(conv [] (bodyOf Go.Proofs.Try.f189) 0).1, Go.Proofs.Try.f189.results.toList, 30, [(3, [(0, .rd (.int .i64)), (1, .as), (6, .rd (.sl (.int .i64))), (7, .rd (.int .i64)), (8, .rd (.int .i64))])], [.d (.int .i64) none, .rb [.d (.sl (.int .i64)) none]], [.d .bool none]⟩
noncomputable def impl_RingPeriod_1.tbl (k : Nat) : Tbl := []
theorem impl_RingPeriod_1.e3 (k : Nat) (o : Nat → St → Option (Bool)) (x0_3 : Int) (l1_3 : List Int) (l2_3 : List Int) (x3_3 : Int) (x4_3 : Int) : impl_RingPeriod_1.T.step tyt (impl_RingPeriod_1.tbl k) o 3 (impl_RingPeriod_1.S3 x0_3 l1_3 l2_3 x3_3 x4_3) = impl_RingPeriod_1.b3 (fun x0_3 l1_3 l2_3 x3_3 x4_3 => o 3 (impl_RingPeriod_1.S3 x0_3 l1_3 l2_3 x3_3 x4_3)) k x0_3 l1_3 l2_3 x3_3 x4_3 := by kernel_rfl
theorem impl_RingPeriod_1.e (k : Nat) (o : Nat → St → Option (Bool)) (a0 : Int) (l1_0 : List Int) : impl_RingPeriod_1.T.main tyt (impl_RingPeriod_1.tbl k) o (a0, l1_0) = impl_RingPeriod_1.m (fun x0_3 l1_3 l2_3 x3_3 x4_3 => o 3 (impl_RingPeriod_1.S3 x0_3 l1_3 l2_3 x3_3 x4_3)) k a0 l1_0 := by kernel_rfl
theorem impl_RingPeriod_1.ok : impl_RingPeriod_1.T.ok = true := by kernel_rfl
theorem impl_RingPeriod_1.run (k : Nat) : (∀ (x0_3 : Int) (l1_3 : List Int) (l2_3 : List Int) (x3_3 : Int) (x4_3 : Int), impl_RingPeriod_1.T.run tyt impl_RingPeriod_1.tbl k 3 (impl_RingPeriod_1.S3 x0_3 l1_3 l2_3 x3_3 x4_3) = impl_RingPeriod_1.l3 k x0_3 l1_3 l2_3 x3_3 x4_3) := by
  induction k with
  | zero => exact fun x0_3 l1_3 l2_3 x3_3 x4_3 => rfl
  | succ k ih =>
    exact fun x0_3 l1_3 l2_3 x3_3 x4_3 => by
      have q3 : (fun x0_3 l1_3 l2_3 x3_3 x4_3 => impl_RingPeriod_1.T.run tyt impl_RingPeriod_1.tbl k 3 (impl_RingPeriod_1.S3 x0_3 l1_3 l2_3 x3_3 x4_3)) = impl_RingPeriod_1.l3 k := by funext x0_3 l1_3 l2_3 x3_3 x4_3; exact ih x0_3 l1_3 l2_3 x3_3 x4_3
      exact (impl_RingPeriod_1.e3 k (impl_RingPeriod_1.T.run tyt impl_RingPeriod_1.tbl k) x0_3 l1_3 l2_3 x3_3 x4_3).trans (by rw [q3]; rfl)
theorem impl_RingPeriod_1.tblok (k : Nat) : TblOk Go.Proofs.Try.prog (impl_RingPeriod_1.tbl k) := TblOk.nil _
theorem impl_RingPeriod_1.sound (k : Nat) : Sound Go.Proofs.Try.prog 189 (impl_RingPeriod_1.spec k) := by
  have h := fn_ok (F := impl_RingPeriod_1.T) (tbl := impl_RingPeriod_1.tbl) mixed tyok Go.Proofs.Try.func189 (by kernel_rfl) (c0 := bodyOf Go.Proofs.Try.f189) rfl (conv_code _ _ _) rfl rfl impl_RingPeriod_1.ok k (fun j _ => impl_RingPeriod_1.tblok j)
  have q3 : (fun x0_3 l1_3 l2_3 x3_3 x4_3 => impl_RingPeriod_1.T.run tyt impl_RingPeriod_1.tbl k 3 (impl_RingPeriod_1.S3 x0_3 l1_3 l2_3 x3_3 x4_3)) = impl_RingPeriod_1.l3 k := by funext x0_3 l1_3 l2_3 x3_3 x4_3; exact (impl_RingPeriod_1.run k) x0_3 l1_3 l2_3 x3_3 x4_3
  have e : impl_RingPeriod_1.spec k = ⟨impl_RingPeriod_1.T.ps, impl_RingPeriod_1.T.rs, impl_RingPeriod_1.T.ev tyt impl_RingPeriod_1.tbl k⟩ := congrArg (FnSpec.mk _ _) (funext fun x => ((impl_RingPeriod_1.e k (impl_RingPeriod_1.T.run tyt impl_RingPeriod_1.tbl k) x.1 x.2).trans (by rw [q3]; rfl)).symm)
  rw [e]
  exact h
/-! ### impl_RingPeriod: function 70 -/
def impl_RingPeriod.b8 (o8 : List Int → Int → Option (Int × Bool)) (k : Nat) (l0_8 : List Int) (x1_8 : Int) : Option (Int × Bool) := ((impl_RingPeriod_1.f k x1_8 l0_8).bind fun r3 => (cond (!r3) (o8 l0_8 (w64 (x1_8 + 1))) (some (x1_8, true))))
def impl_RingPeriod.l8 : Nat → List Int → Int → Option (Int × Bool)
  | 0, _, _ => none
  | k + 1, l0_8, x1_8 => impl_RingPeriod.b8 (impl_RingPeriod.l8 k) k l0_8 x1_8
def impl_RingPeriod.m (o8 : List Int → Int → Option (Int × Bool)) (k : Nat) (a0_0 : Int) (a0_1 : Int) (l0_2 : List Int) : Option (Int × Bool) := ((impl_hasRing.f k a0_0 a0_1 l0_2).bind fun r1 => (cond (!r1) (some (0, false)) ((impl_Chart_ring.f k a0_0 a0_1 l0_2).bind fun r2 => (o8 r2 1))))
def impl_RingPeriod.f (k : Nat) (a0_0 : Int) (a0_1 : Int) (l0_2 : List Int) : Option (Int × Bool) := impl_RingPeriod.m (impl_RingPeriod.l8 k) k a0_0 a0_1 l0_2
noncomputable def impl_RingPeriod.spec (k : Nat) : FnSpec := ⟨[.ag [.d (.int .i64) none, .d (.int .i64) none, .d (.sl (.int .i64)) none]], [.d (.int .i64) none, .d .bool none], fun x => impl_RingPeriod.f k x.1 x.2.1 x.2.2⟩
def impl_RingPeriod.S8 (l0_8 : List Int) (x1_8 : Int) : St := ⟨[(5, .fn 189 [] [.cptr [.val (.sl (.int .i64)) l0_8] 0]), (6, .val (.int .i64) x1_8)], [], 1000⟩
noncomputable def impl_RingPeriod.T : FnText := ⟨(conv [] (bodyOf Go.Proofs.Try.f70) 0).1, Go.Proofs.Try.f70.results.toList, 20, [(8, [(5, .fn [] [.fz [.rd (.sl (.int .i64))]]), (6, .rd (.int .i64))])], [.ag [.d (.int .i64) none, .d (.int .i64) none, .d (.sl (.int .i64)) none]], [.d (.int .i64) none, .d .bool none]⟩
noncomputable def impl_RingPeriod.tbl (k : Nat) : Tbl := [(182, impl_hasRing.spec k), (183, impl_Chart_ring.spec k), (189, impl_RingPeriod_1.spec k)]
theorem impl_RingPeriod.e8 (k : Nat) (o : Nat → St → Option (Int × Bool)) (l0_8 : List Int) (x1_8 : Int) : impl_RingPeriod.T.step tyt (impl_RingPeriod.tbl k) o 8 (impl_RingPeriod.S8 l0_8 x1_8) = impl_RingPeriod.b8 (fun l0_8 x1_8 => o 8 (impl_RingPeriod.S8 l0_8 x1_8)) k l0_8 x1_8 := by kernel_rfl
theorem impl_RingPeriod.e (k : Nat) (o : Nat → St → Option (Int × Bool)) (a0_0 : Int) (a0_1 : Int) (l0_2 : List Int) : impl_RingPeriod.T.main tyt (impl_RingPeriod.tbl k) o (a0_0, a0_1, l0_2) = impl_RingPeriod.m (fun l0_8 x1_8 => o 8 (impl_RingPeriod.S8 l0_8 x1_8)) k a0_0 a0_1 l0_2 := by kernel_rfl
theorem impl_RingPeriod.ok : impl_RingPeriod.T.ok = true := by kernel_rfl
theorem impl_RingPeriod.run (k : Nat) : (∀ (l0_8 : List Int) (x1_8 : Int), impl_RingPeriod.T.run tyt impl_RingPeriod.tbl k 8 (impl_RingPeriod.S8 l0_8 x1_8) = impl_RingPeriod.l8 k l0_8 x1_8) := by
  induction k with
  | zero => exact fun l0_8 x1_8 => rfl
  | succ k ih =>
    exact fun l0_8 x1_8 => by
      have q8 : (fun l0_8 x1_8 => impl_RingPeriod.T.run tyt impl_RingPeriod.tbl k 8 (impl_RingPeriod.S8 l0_8 x1_8)) = impl_RingPeriod.l8 k := by funext l0_8 x1_8; exact ih l0_8 x1_8
      exact (impl_RingPeriod.e8 k (impl_RingPeriod.T.run tyt impl_RingPeriod.tbl k) l0_8 x1_8).trans (by rw [q8]; rfl)
theorem impl_RingPeriod.tblok (k : Nat) : TblOk Go.Proofs.Try.prog (impl_RingPeriod.tbl k) := TblOk.cons (impl_hasRing.sound k) (TblOk.cons (impl_Chart_ring.sound k) (TblOk.cons (impl_RingPeriod_1.sound k) (TblOk.nil _)))
theorem impl_RingPeriod.sound (k : Nat) : Sound Go.Proofs.Try.prog 70 (impl_RingPeriod.spec k) := by
  have h := fn_ok (F := impl_RingPeriod.T) (tbl := impl_RingPeriod.tbl) mixed tyok Go.Proofs.Try.func70 (by kernel_rfl) (c0 := bodyOf Go.Proofs.Try.f70) rfl (conv_code _ _ _) rfl rfl impl_RingPeriod.ok k (fun j _ => impl_RingPeriod.tblok j)
  have q8 : (fun l0_8 x1_8 => impl_RingPeriod.T.run tyt impl_RingPeriod.tbl k 8 (impl_RingPeriod.S8 l0_8 x1_8)) = impl_RingPeriod.l8 k := by funext l0_8 x1_8; exact (impl_RingPeriod.run k) l0_8 x1_8
  have e : impl_RingPeriod.spec k = ⟨impl_RingPeriod.T.ps, impl_RingPeriod.T.rs, impl_RingPeriod.T.ev tyt impl_RingPeriod.tbl k⟩ := congrArg (FnSpec.mk _ _) (funext fun x => ((impl_RingPeriod.e k (impl_RingPeriod.T.run tyt impl_RingPeriod.tbl k) x.1 x.2.1 x.2.2).trans (by rw [q8]; rfl)).symm)
  rw [e]
  exact h
/-! ### impl_CornersOf: function 76 -/
def impl_CornersOf.m (k : Nat) (a0_0 : Int) (a0_1 : Int) (l0_2 : List Int) : Option (List Int × Bool) := ((impl_hasRing.f k a0_0 a0_1 l0_2).bind fun r1 => (cond (!r1) (some ([], false)) ((impl_Chart_at.f k a0_0 a0_1 l0_2 0 0).bind fun r2 => ((impl_Chart_at.f k a0_0 a0_1 l0_2 0 (w64 (a0_0 - 1))).bind fun r3 => ((impl_Chart_at.f k a0_0 a0_1 l0_2 (w64 (a0_1 - 1)) (w64 (a0_0 - 1))).bind fun r4 => ((impl_Chart_at.f k a0_0 a0_1 l0_2 (w64 (a0_1 - 1)) 0).bind fun r5 => (some ([r2, r3, r4, r5], true))))))))
def impl_CornersOf.f (k : Nat) (a0_0 : Int) (a0_1 : Int) (l0_2 : List Int) : Option (List Int × Bool) := impl_CornersOf.m k a0_0 a0_1 l0_2
noncomputable def impl_CornersOf.spec (k : Nat) : FnSpec := ⟨[.ag [.d (.int .i64) none, .d (.int .i64) none, .d (.sl (.int .i64)) none]], [.d (.sl (.int .i64)) (some 3), .d .bool none], fun x => impl_CornersOf.f k x.1 x.2.1 x.2.2⟩
noncomputable def impl_CornersOf.T : FnText := ⟨(conv [] (bodyOf Go.Proofs.Try.f76) 0).1, Go.Proofs.Try.f76.results.toList, 28, [], [.ag [.d (.int .i64) none, .d (.int .i64) none, .d (.sl (.int .i64)) none]], [.d (.sl (.int .i64)) (some 3), .d .bool none]⟩
noncomputable def impl_CornersOf.tbl (k : Nat) : Tbl := [(182, impl_hasRing.spec k), (171, impl_Chart_at.spec k)]
theorem impl_CornersOf.e (k : Nat) (o : Nat → St → Option (List Int × Bool)) (a0_0 : Int) (a0_1 : Int) (l0_2 : List Int) : impl_CornersOf.T.main tyt (impl_CornersOf.tbl k) o (a0_0, a0_1, l0_2) = impl_CornersOf.m k a0_0 a0_1 l0_2 := by kernel_rfl
theorem impl_CornersOf.ok : impl_CornersOf.T.ok = true := by kernel_rfl
theorem impl_CornersOf.tblok (k : Nat) : TblOk Go.Proofs.Try.prog (impl_CornersOf.tbl k) := TblOk.cons (impl_hasRing.sound k) (TblOk.cons (impl_Chart_at.sound k) (TblOk.nil _))
theorem impl_CornersOf.sound (k : Nat) : Sound Go.Proofs.Try.prog 76 (impl_CornersOf.spec k) := by
  have h := fn_ok (F := impl_CornersOf.T) (tbl := impl_CornersOf.tbl) mixed tyok Go.Proofs.Try.func76 (by kernel_rfl) (c0 := bodyOf Go.Proofs.Try.f76) rfl (conv_code _ _ _) rfl rfl impl_CornersOf.ok k (fun j _ => impl_CornersOf.tblok j)
  have e : impl_CornersOf.spec k = ⟨impl_CornersOf.T.ps, impl_CornersOf.T.rs, impl_CornersOf.T.ev tyt impl_CornersOf.tbl k⟩ := congrArg (FnSpec.mk _ _) (funext fun x => ((impl_CornersOf.e k (impl_CornersOf.T.run tyt impl_CornersOf.tbl k) x.1 x.2.1 x.2.2).trans (by rfl)).symm)
  rw [e]
  exact h
/-! ### spec_l8Side: function 193 -/
def spec_l8Side.m (k : Nat) (a0 : Int) : Option (Bool) := ((spec_l1In.f k a0 2 8).bind fun r1 => (some r1))
def spec_l8Side.f (k : Nat) (a0 : Int) : Option (Bool) := spec_l8Side.m k a0
noncomputable def spec_l8Side.spec (k : Nat) : FnSpec := ⟨[.d (.int .i64) none], [.d .bool none], fun x => spec_l8Side.f k x⟩
noncomputable def spec_l8Side.T : FnText := ⟨(conv [] (bodyOf Go.Proofs.Try.f193) 0).1, Go.Proofs.Try.f193.results.toList, 5, [], [.d (.int .i64) none], [.d .bool none]⟩
noncomputable def spec_l8Side.tbl (k : Nat) : Tbl := [(134, spec_l1In.spec k)]
theorem spec_l8Side.e (k : Nat) (o : Nat → St → Option (Bool)) (a0 : Int) : spec_l8Side.T.main tyt (spec_l8Side.tbl k) o a0 = spec_l8Side.m k a0 := by kernel_rfl
theorem spec_l8Side.ok : spec_l8Side.T.ok = true := by kernel_rfl
theorem spec_l8Side.tblok (k : Nat) : TblOk Go.Proofs.Try.prog (spec_l8Side.tbl k) := TblOk.cons (spec_l1In.sound k) (TblOk.nil _)
theorem spec_l8Side.sound (k : Nat) : Sound Go.Proofs.Try.prog 193 (spec_l8Side.spec k) := by
  have h := fn_ok (F := spec_l8Side.T) (tbl := spec_l8Side.tbl) mixed tyok Go.Proofs.Try.func193 (by kernel_rfl) (c0 := bodyOf Go.Proofs.Try.f193) rfl (conv_code _ _ _) rfl rfl spec_l8Side.ok k (fun j _ => spec_l8Side.tblok j)
  have e : spec_l8Side.spec k = ⟨spec_l8Side.T.ps, spec_l8Side.T.rs, spec_l8Side.T.ev tyt spec_l8Side.tbl k⟩ := congrArg (FnSpec.mk _ _) (funext fun x => ((spec_l8Side.e k (spec_l8Side.T.run tyt spec_l8Side.tbl k) x).trans (by rfl)).symm)
  rw [e]
  exact h
/-! ### spec_l8Good: function 184 -/
def spec_l8Good.m (k : Nat) (a0_0 : Int) (a0_1 : Int) (l0_2 : List Int) : Option (Bool) := ((spec_l2Good.f k a0_0 a0_1 l0_2).bind fun r1 => (cond r1 ((spec_l8Side.f k a0_0).bind fun r2 => (cond r2 ((spec_l8Side.f k a0_1).bind fun r3 => (some r3)) (some false))) (some false)))
def spec_l8Good.f (k : Nat) (a0_0 : Int) (a0_1 : Int) (l0_2 : List Int) : Option (Bool) := spec_l8Good.m k a0_0 a0_1 l0_2
noncomputable def spec_l8Good.spec (k : Nat) : FnSpec := ⟨[.ag [.d (.int .i64) none, .d (.int .i64) none, .d (.sl (.int .i64)) none]], [.d .bool none], fun x => spec_l8Good.f k x.1 x.2.1 x.2.2⟩
noncomputable def spec_l8Good.T : FnText := ⟨(conv [] (bodyOf Go.Proofs.Try.f184) 0).1, Go.Proofs.Try.f184.results.toList, 15, [], [.ag [.d (.int .i64) none, .d (.int .i64) none, .d (.sl (.int .i64)) none]], [.d .bool none]⟩
noncomputable def spec_l8Good.tbl (k : Nat) : Tbl := [(131, spec_l2Good.spec k), (193, spec_l8Side.spec k)]
theorem spec_l8Good.e (k : Nat) (o : Nat → St → Option (Bool)) (a0_0 : Int) (a0_1 : Int) (l0_2 : List Int) : spec_l8Good.T.main tyt (spec_l8Good.tbl k) o (a0_0, a0_1, l0_2) = spec_l8Good.m k a0_0 a0_1 l0_2 := by kernel_rfl
theorem spec_l8Good.ok : spec_l8Good.T.ok = true := by kernel_rfl
theorem spec_l8Good.tblok (k : Nat) : TblOk Go.Proofs.Try.prog (spec_l8Good.tbl k) := TblOk.cons (spec_l2Good.sound k) (TblOk.cons (spec_l8Side.sound k) (TblOk.nil _))
theorem spec_l8Good.sound (k : Nat) : Sound Go.Proofs.Try.prog 184 (spec_l8Good.spec k) := by
  have h := fn_ok (F := spec_l8Good.T) (tbl := spec_l8Good.tbl) mixed tyok Go.Proofs.Try.func184 (by kernel_rfl) (c0 := bodyOf Go.Proofs.Try.f184) rfl (conv_code _ _ _) rfl rfl spec_l8Good.ok k (fun j _ => spec_l8Good.tblok j)
  have e : spec_l8Good.spec k = ⟨spec_l8Good.T.ps, spec_l8Good.T.rs, spec_l8Good.T.ev tyt spec_l8Good.tbl k⟩ := congrArg (FnSpec.mk _ _) (funext fun x => ((spec_l8Good.e k (spec_l8Good.T.run tyt spec_l8Good.tbl k) x.1 x.2.1 x.2.2).trans (by rfl)).symm)
  rw [e]
  exact h
/-! ### spec_l1Cur_ringed: function 181 -/
def spec_l1Cur_ringed.b2 (k : Nat) (l0_2 : List Int) (x1_2 : Int) (x2_2 : Int) (x3_2 : Int) (x4_2 : Int) (l5_2 : List Int) (x6_2 : Int) (x7_2 : Int) (l8_2 : List Int) : Option (Int × Int × List Int × List Int × Int × Int) := ((spec_l1Cur_pattern8.f k l0_2 x1_2 x2_2).bind fun r6 => ((spec_l8Good.f k x6_2 x7_2 l8_2).bind fun r7 => (cond r7 ((spec_l8Pattern.f k r6.1).bind fun r8 => (cond r8 ((spec_l1Cur_one.f k r6.2.1 r6.2.2.1 r6.2.2.2 2).bind fun r9 => (cond r9.1 ((spec_l8Put.f k x6_2 x7_2 l8_2 r6.1).bind fun r10 => (some (r10.1, r10.2.1, r10.2.2, r9.2.1, r9.2.2.1, r9.2.2.2))) (some (x6_2, x7_2, l8_2, r9.2.1, r9.2.2.1, r9.2.2.2)))) (some (x6_2, x7_2, l8_2, r6.2.1, r6.2.2.1, r6.2.2.2)))) (some (x6_2, x7_2, l8_2, r6.2.1, r6.2.2.1, r6.2.2.2)))))
def spec_l1Cur_ringed.l2 : Nat → List Int → Int → Int → Int → Int → List Int → Int → Int → List Int → Option (Int × Int × List Int × List Int × Int × Int)
  | 0, _, _, _, _, _, _, _, _, _ => none
  | k + 1, l0_2, x1_2, x2_2, x3_2, x4_2, l5_2, x6_2, x7_2, l8_2 => spec_l1Cur_ringed.b2 k l0_2 x1_2 x2_2 x3_2 x4_2 l5_2 x6_2 x7_2 l8_2
def spec_l1Cur_ringed.m (o2 : List Int → Int → Int → Int → Int → List Int → Int → Int → List Int → Option (Int × Int × List Int × List Int × Int × Int)) (k : Nat) (l0_0 : List Int) (a0_1 : Int) (a0_2 : Int) : Option (Int × Int × List Int × List Int × Int × Int) := ((spec_l1Cur_among_2.f k l0_0 a0_1 a0_2 [2, 3, 4, 5, 6, 8]).bind fun r1 => ((spec_l1Cur_among_2.f k r1.2.1 r1.2.2.1 r1.2.2.2.1 [2, 3, 4, 5, 8]).bind fun r2 => ((spec_l1Cur_plain.f k r2.2.1 r2.2.2.1 r2.2.2.2.1 r1.1 r2.1).bind fun r3 => ((spec_l1Cur_one.f k r3.2.2.2.1 r3.2.2.2.2.1 r3.2.2.2.2.2 8).bind fun r4 => (cond r4.1 ((spec_l1Cur_chart.f k r4.2.1 r4.2.2.1 r4.2.2.2).bind fun r5 => (o2 r5.2.2.2.1 r5.2.2.2.2.1 r5.2.2.2.2.2 0 0 [] r5.1 r5.2.1 r5.2.2.1)) (o2 r4.2.1 r4.2.2.1 r4.2.2.2 0 0 [] r3.1 r3.2.1 r3.2.2.1))))))
def spec_l1Cur_ringed.f (k : Nat) (l0_0 : List Int) (a0_1 : Int) (a0_2 : Int) : Option (Int × Int × List Int × List Int × Int × Int) := spec_l1Cur_ringed.m (spec_l1Cur_ringed.l2 k) k l0_0 a0_1 a0_2
noncomputable def spec_l1Cur_ringed.spec (k : Nat) : FnSpec := ⟨[.bx [.d (.sl (.int .u8)) none, .d (.int .i64) none, .d (.int .u64) none]], [.ag [.d (.int .i64) none, .d (.int .i64) none, .d (.sl (.int .i64)) (some 3)]], fun x => spec_l1Cur_ringed.f k x.1 x.2.1 x.2.2⟩
def spec_l1Cur_ringed.S2 (l0_2 : List Int) (x1_2 : Int) (x2_2 : Int) (x3_2 : Int) (x4_2 : Int) (l5_2 : List Int) (x6_2 : Int) (x7_2 : Int) (l8_2 : List Int) : St := ⟨[(0, .ptr 0 0), (2, .ptr 100 0), (3, .ptr 101 0)], [(101, some (.box [.val (.int .i64) x6_2, .val (.int .i64) x7_2, .ref 102])), (102, some (.row 3 (.int .i64) l8_2)), (100, some (.box [.val (.int .i64) x3_2, .val (.int .i64) x4_2, .val (.sl (.int .i64)) l5_2])), (0, some (.box [.val (.sl (.int .u8)) l0_2, .val (.int .i64) x1_2, .val (.int .u64) x2_2]))], 1000⟩
noncomputable def spec_l1Cur_ringed.T : FnText := ⟨(conv [2] (bodyOf Go.Proofs.Try.f181) 0).1, Go.Proofs.Try.f181.results.toList, 33, [(2, [(0, .bx 0 [.rd (.sl (.int .u8)), .rd (.int .i64), .rd (.int .u64)]), (2, .bx 100 [.rd (.int .i64), .rd (.int .i64), .rd (.sl (.int .i64))]), (3, .bx 101 [.rd (.int .i64), .rd (.int .i64), .own 3 (.int .i64) 102])])], [.bx [.d (.sl (.int .u8)) none, .d (.int .i64) none, .d (.int .u64) none]], [.ag [.d (.int .i64) none, .d (.int .i64) none, .d (.sl (.int .i64)) (some 3)]]⟩
noncomputable def spec_l1Cur_ringed.tbl (k : Nat) : Tbl := [(164, spec_l1Cur_among_2.spec k), (172, spec_l1Cur_plain.spec k), (173, spec_l1Cur_one.spec k), (153, spec_l1Cur_chart.spec k), (208, spec_l1Cur_pattern8.spec k), (184, spec_l8Good.spec k), (211, spec_l8Pattern.spec k), (192, spec_l8Put.spec k)]
theorem spec_l1Cur_ringed.e2 (k : Nat) (o : Nat → St → Option (Int × Int × List Int × List Int × Int × Int)) (l0_2 : List Int) (x1_2 : Int) (x2_2 : Int) (x3_2 : Int) (x4_2 : Int) (l5_2 : List Int) (x6_2 : Int) (x7_2 : Int) (l8_2 : List Int) : spec_l1Cur_ringed.T.step tyt (spec_l1Cur_ringed.tbl k) o 2 (spec_l1Cur_ringed.S2 l0_2 x1_2 x2_2 x3_2 x4_2 l5_2 x6_2 x7_2 l8_2) = spec_l1Cur_ringed.b2 k l0_2 x1_2 x2_2 x3_2 x4_2 l5_2 x6_2 x7_2 l8_2 := by kernel_rfl
theorem spec_l1Cur_ringed.e (k : Nat) (o : Nat → St → Option (Int × Int × List Int × List Int × Int × Int)) (l0_0 : List Int) (a0_1 : Int) (a0_2 : Int) : spec_l1Cur_ringed.T.main tyt (spec_l1Cur_ringed.tbl k) o (l0_0, a0_1, a0_2) = spec_l1Cur_ringed.m (fun l0_2 x1_2 x2_2 x3_2 x4_2 l5_2 x6_2 x7_2 l8_2 => o 2 (spec_l1Cur_ringed.S2 l0_2 x1_2 x2_2 x3_2 x4_2 l5_2 x6_2 x7_2 l8_2)) k l0_0 a0_1 a0_2 := by kernel_rfl
theorem spec_l1Cur_ringed.ok : spec_l1Cur_ringed.T.ok = true := by kernel_rfl
theorem spec_l1Cur_ringed.run (k : Nat) : (∀ (l0_2 : List Int) (x1_2 : Int) (x2_2 : Int) (x3_2 : Int) (x4_2 : Int) (l5_2 : List Int) (x6_2 : Int) (x7_2 : Int) (l8_2 : List Int), spec_l1Cur_ringed.T.run tyt spec_l1Cur_ringed.tbl k 2 (spec_l1Cur_ringed.S2 l0_2 x1_2 x2_2 x3_2 x4_2 l5_2 x6_2 x7_2 l8_2) = spec_l1Cur_ringed.l2 k l0_2 x1_2 x2_2 x3_2 x4_2 l5_2 x6_2 x7_2 l8_2) := by
  induction k with
  | zero => exact fun l0_2 x1_2 x2_2 x3_2 x4_2 l5_2 x6_2 x7_2 l8_2 => rfl
  | succ k ih =>
    exact fun l0_2 x1_2 x2_2 x3_2 x4_2 l5_2 x6_2 x7_2 l8_2 => by
      exact (spec_l1Cur_ringed.e2 k (spec_l1Cur_ringed.T.run tyt spec_l1Cur_ringed.tbl k) l0_2 x1_2 x2_2 x3_2 x4_2 l5_2 x6_2 x7_2 l8_2).trans (by rfl)
theorem spec_l1Cur_ringed.tblok (k : Nat) : TblOk Go.Proofs.Try.prog (spec_l1Cur_ringed.tbl k) := TblOk.cons (spec_l1Cur_among_2.sound k) (TblOk.cons (spec_l1Cur_plain.sound k) (TblOk.cons (spec_l1Cur_one.sound k) (TblOk.cons (spec_l1Cur_chart.sound k) (TblOk.cons (spec_l1Cur_pattern8.sound k) (TblOk.cons (spec_l8Good.sound k) (TblOk.cons (spec_l8Pattern.sound k) (TblOk.cons (spec_l8Put.sound k) (TblOk.nil _))))))))
theorem spec_l1Cur_ringed.sound (k : Nat) : Sound Go.Proofs.Try.prog 181 (spec_l1Cur_ringed.spec k) := by
  have h := fn_ok (F := spec_l1Cur_ringed.T) (tbl := spec_l1Cur_ringed.tbl) mixed tyok Go.Proofs.Try.func181 (by kernel_rfl) (c0 := bodyOf Go.Proofs.Try.f181) rfl (conv_code _ _ _) rfl rfl spec_l1Cur_ringed.ok k (fun j _ => spec_l1Cur_ringed.tblok j)
  have q2 : (fun l0_2 x1_2 x2_2 x3_2 x4_2 l5_2 x6_2 x7_2 l8_2 => spec_l1Cur_ringed.T.run tyt spec_l1Cur_ringed.tbl k 2 (spec_l1Cur_ringed.S2 l0_2 x1_2 x2_2 x3_2 x4_2 l5_2 x6_2 x7_2 l8_2)) = spec_l1Cur_ringed.l2 k := by funext l0_2 x1_2 x2_2 x3_2 x4_2 l5_2 x6_2 x7_2 l8_2; exact (spec_l1Cur_ringed.run k) l0_2 x1_2 x2_2 x3_2 x4_2 l5_2 x6_2 x7_2 l8_2
  have e : spec_l1Cur_ringed.spec k = ⟨spec_l1Cur_ringed.T.ps, spec_l1Cur_ringed.T.rs, spec_l1Cur_ringed.T.ev tyt spec_l1Cur_ringed.tbl k⟩ := congrArg (FnSpec.mk _ _) (funext fun x => ((spec_l1Cur_ringed.e k (spec_l1Cur_ringed.T.run tyt spec_l1Cur_ringed.tbl k) x.1 x.2.1 x.2.2).trans (by rw [q2]; rfl)).symm)
  rw [e]
  exact h
/-! ### spec_DrawDoesMeet: function 97 -/
def spec_DrawDoesMeet.m (k : Nat) (l0 : List Int) : Option (Int × Int × List Int × List Int) := ((spec_l1Cur_ringed.f k l0 0 0).bind fun r1 => ((spec_l1Cur_pattern8.f k r1.2.2.2.1 r1.2.2.2.2.1 r1.2.2.2.2.2).bind fun r2 => (some (r1.1, r1.2.1, r1.2.2.1, r2.1))))
def spec_DrawDoesMeet.f (k : Nat) (l0 : List Int) : Option (Int × Int × List Int × List Int) := spec_DrawDoesMeet.m k l0
noncomputable def spec_DrawDoesMeet.spec (k : Nat) : FnSpec := ⟨[.d (.sl (.int .u8)) none], [.ag [.d (.int .i64) none, .d (.int .i64) none, .d (.sl (.int .i64)) (some 3)], .d (.sl (.int .i64)) (some 3)], fun x => spec_DrawDoesMeet.f k x⟩
noncomputable def spec_DrawDoesMeet.T : FnText := ⟨(conv [] (bodyOf Go.Proofs.Try.f97) 0).1, Go.Proofs.Try.f97.results.toList, 12, [], [.d (.sl (.int .u8)) none], [.ag [.d (.int .i64) none, .d (.int .i64) none, .d (.sl (.int .i64)) (some 3)], .d (.sl (.int .i64)) (some 3)]⟩
noncomputable def spec_DrawDoesMeet.tbl (k : Nat) : Tbl := [(181, spec_l1Cur_ringed.spec k), (208, spec_l1Cur_pattern8.spec k)]
theorem spec_DrawDoesMeet.e (k : Nat) (o : Nat → St → Option (Int × Int × List Int × List Int)) (l0 : List Int) : spec_DrawDoesMeet.T.main tyt (spec_DrawDoesMeet.tbl k) o l0 = spec_DrawDoesMeet.m k l0 := by kernel_rfl
theorem spec_DrawDoesMeet.ok : spec_DrawDoesMeet.T.ok = true := by kernel_rfl
theorem spec_DrawDoesMeet.tblok (k : Nat) : TblOk Go.Proofs.Try.prog (spec_DrawDoesMeet.tbl k) := TblOk.cons (spec_l1Cur_ringed.sound k) (TblOk.cons (spec_l1Cur_pattern8.sound k) (TblOk.nil _))
theorem spec_DrawDoesMeet.sound (k : Nat) : Sound Go.Proofs.Try.prog 97 (spec_DrawDoesMeet.spec k) := by
  have h := fn_ok (F := spec_DrawDoesMeet.T) (tbl := spec_DrawDoesMeet.tbl) mixed tyok Go.Proofs.Try.func97 (by kernel_rfl) (c0 := bodyOf Go.Proofs.Try.f97) rfl (conv_code _ _ _) rfl rfl spec_DrawDoesMeet.ok k (fun j _ => spec_DrawDoesMeet.tblok j)
  have e : spec_DrawDoesMeet.spec k = ⟨spec_DrawDoesMeet.T.ps, spec_DrawDoesMeet.T.rs, spec_DrawDoesMeet.T.ev tyt spec_DrawDoesMeet.tbl k⟩ := congrArg (FnSpec.mk _ _) (funext fun x => ((spec_DrawDoesMeet.e k (spec_DrawDoesMeet.T.run tyt spec_DrawDoesMeet.tbl k) x).trans (by rfl)).symm)
  rw [e]
  exact h
/-! ### spec_DoesMeet: function 98 -/
def spec_DoesMeet.m (k : Nat) (a0_0 : Int) (a0_1 : Int) (l0_2 : List Int) (l1 : List Int) : Option (Bool × Bool) := ((spec_l8Good.f k a0_0 a0_1 l0_2).bind fun r1 => (cond (!r1) (some (false, false)) ((spec_l8Pattern.f k l1).bind fun r2 => (cond (!r2) (some (false, false)) ((spec_l8Length.f k a0_0 a0_1).bind fun r3 => ((rem r3 (l1.length : Int)).bind fun q4 => (some ((decide (q4 = 0)), true))))))))
def spec_DoesMeet.f (k : Nat) (a0_0 : Int) (a0_1 : Int) (l0_2 : List Int) (l1 : List Int) : Option (Bool × Bool) := spec_DoesMeet.m k a0_0 a0_1 l0_2 l1
noncomputable def spec_DoesMeet.spec (k : Nat) : FnSpec := ⟨[.ag [.d (.int .i64) none, .d (.int .i64) none, .d (.sl (.int .i64)) none], .d (.sl (.int .i64)) none], [.d .bool none, .d .bool none], fun x => spec_DoesMeet.f k x.1 x.2.1 x.2.2.1 x.2.2.2⟩
noncomputable def spec_DoesMeet.T : FnText := ⟨(conv [] (bodyOf Go.Proofs.Try.f98) 0).1, Go.Proofs.Try.f98.results.toList, 23, [], [.ag [.d (.int .i64) none, .d (.int .i64) none, .d (.sl (.int .i64)) none], .d (.sl (.int .i64)) none], [.d .bool none, .d .bool none]⟩
noncomputable def spec_DoesMeet.tbl (k : Nat) : Tbl := [(184, spec_l8Good.spec k), (211, spec_l8Pattern.spec k), (190, spec_l8Length.spec k)]
theorem spec_DoesMeet.e (k : Nat) (o : Nat → St → Option (Bool × Bool)) (a0_0 : Int) (a0_1 : Int) (l0_2 : List Int) (l1 : List Int) : spec_DoesMeet.T.main tyt (spec_DoesMeet.tbl k) o (a0_0, a0_1, l0_2, l1) = spec_DoesMeet.m k a0_0 a0_1 l0_2 l1 := by kernel_rfl
theorem spec_DoesMeet.ok : spec_DoesMeet.T.ok = true := by kernel_rfl
theorem spec_DoesMeet.tblok (k : Nat) : TblOk Go.Proofs.Try.prog (spec_DoesMeet.tbl k) := TblOk.cons (spec_l8Good.sound k) (TblOk.cons (spec_l8Pattern.sound k) (TblOk.cons (spec_l8Length.sound k) (TblOk.nil _)))
theorem spec_DoesMeet.sound (k : Nat) : Sound Go.Proofs.Try.prog 98 (spec_DoesMeet.spec k) := by
  have h := fn_ok (F := spec_DoesMeet.T) (tbl := spec_DoesMeet.tbl) mixed tyok Go.Proofs.Try.func98 (by kernel_rfl) (c0 := bodyOf Go.Proofs.Try.f98) rfl (conv_code _ _ _) rfl rfl spec_DoesMeet.ok k (fun j _ => spec_DoesMeet.tblok j)
  have e : spec_DoesMeet.spec k = ⟨spec_DoesMeet.T.ps, spec_DoesMeet.T.rs, spec_DoesMeet.T.ev tyt spec_DoesMeet.tbl k⟩ := congrArg (FnSpec.mk _ _) (funext fun x => ((spec_DoesMeet.e k (spec_DoesMeet.T.run tyt spec_DoesMeet.tbl k) x.1 x.2.1 x.2.2.1 x.2.2.2).trans (by rfl)).symm)
  rw [e]
  exact h
/-! ### impl_RingLength: function 69 -/
def impl_RingLength.m (k : Nat) (a0 : Int) (a1 : Int) : Option (Int × Bool) := ((impl_isRingSide.f k a0).bind fun r1 => (cond (!r1) (some (0, false)) ((impl_isRingSide.f k a1).bind fun r2 => (cond (!r2) (some (0, false)) ((impl_ringLength.f k a0 a1).bind fun r3 => (some (r3, true)))))))
def impl_RingLength.f (k : Nat) (a0 : Int) (a1 : Int) : Option (Int × Bool) := impl_RingLength.m k a0 a1
noncomputable def impl_RingLength.spec (k : Nat) : FnSpec := ⟨[.d (.int .i64) none, .d (.int .i64) none], [.d (.int .i64) none, .d .bool none], fun x => impl_RingLength.f k x.1 x.2⟩
noncomputable def impl_RingLength.T : FnText := ⟨(conv [] (bodyOf Go.Proofs.Try.f69) 0).1, Go.Proofs.Try.f69.results.toList, 17, [], [.d (.int .i64) none, .d (.int .i64) none], [.d (.int .i64) none, .d .bool none]⟩
noncomputable def impl_RingLength.tbl (k : Nat) : Tbl := [(188, impl_isRingSide.spec k), (186, impl_ringLength.spec k)]
theorem impl_RingLength.e (k : Nat) (o : Nat → St → Option (Int × Bool)) (a0 : Int) (a1 : Int) : impl_RingLength.T.main tyt (impl_RingLength.tbl k) o (a0, a1) = impl_RingLength.m k a0 a1 := by kernel_rfl
theorem impl_RingLength.ok : impl_RingLength.T.ok = true := by kernel_rfl
theorem impl_RingLength.tblok (k : Nat) : TblOk Go.Proofs.Try.prog (impl_RingLength.tbl k) := TblOk.cons (impl_isRingSide.sound k) (TblOk.cons (impl_ringLength.sound k) (TblOk.nil _))
theorem impl_RingLength.sound (k : Nat) : Sound Go.Proofs.Try.prog 69 (impl_RingLength.spec k) := by
  have h := fn_ok (F := impl_RingLength.T) (tbl := impl_RingLength.tbl) mixed tyok Go.Proofs.Try.func69 (by kernel_rfl) (c0 := bodyOf Go.Proofs.Try.f69) rfl (conv_code _ _ _) rfl rfl impl_RingLength.ok k (fun j _ => impl_RingLength.tblok j)
  have e : impl_RingLength.spec k = ⟨impl_RingLength.T.ps, impl_RingLength.T.rs, impl_RingLength.T.ev tyt impl_RingLength.tbl k⟩ := congrArg (FnSpec.mk _ _) (funext fun x => ((impl_RingLength.e k (impl_RingLength.T.run tyt impl_RingLength.tbl k) x.1 x.2).trans (by rfl)).symm)
  rw [e]
  exact h
/-! ### spec_DrawRingOf: function 65 -/
def spec_DrawRingOf.m (k : Nat) (l0 : List Int) : Option (Int × Int × List Int) := ((spec_l1Cur_ringed.f k l0 0 0).bind fun r1 => (some (r1.1, r1.2.1, r1.2.2.1)))
def spec_DrawRingOf.f (k : Nat) (l0 : List Int) : Option (Int × Int × List Int) := spec_DrawRingOf.m k l0
noncomputable def spec_DrawRingOf.spec (k : Nat) : FnSpec := ⟨[.d (.sl (.int .u8)) none], [.ag [.d (.int .i64) none, .d (.int .i64) none, .d (.sl (.int .i64)) (some 3)]], fun x => spec_DrawRingOf.f k x⟩
noncomputable def spec_DrawRingOf.T : FnText := ⟨(conv [] (bodyOf Go.Proofs.Try.f65) 0).1, Go.Proofs.Try.f65.results.toList, 9, [], [.d (.sl (.int .u8)) none], [.ag [.d (.int .i64) none, .d (.int .i64) none, .d (.sl (.int .i64)) (some 3)]]⟩
noncomputable def spec_DrawRingOf.tbl (k : Nat) : Tbl := [(181, spec_l1Cur_ringed.spec k)]
theorem spec_DrawRingOf.e (k : Nat) (o : Nat → St → Option (Int × Int × List Int)) (l0 : List Int) : spec_DrawRingOf.T.main tyt (spec_DrawRingOf.tbl k) o l0 = spec_DrawRingOf.m k l0 := by kernel_rfl
theorem spec_DrawRingOf.ok : spec_DrawRingOf.T.ok = true := by kernel_rfl
theorem spec_DrawRingOf.tblok (k : Nat) : TblOk Go.Proofs.Try.prog (spec_DrawRingOf.tbl k) := TblOk.cons (spec_l1Cur_ringed.sound k) (TblOk.nil _)
theorem spec_DrawRingOf.sound (k : Nat) : Sound Go.Proofs.Try.prog 65 (spec_DrawRingOf.spec k) := by
  have h := fn_ok (F := spec_DrawRingOf.T) (tbl := spec_DrawRingOf.tbl) mixed tyok Go.Proofs.Try.func65 (by kernel_rfl) (c0 := bodyOf Go.Proofs.Try.f65) rfl (conv_code _ _ _) rfl rfl spec_DrawRingOf.ok k (fun j _ => spec_DrawRingOf.tblok j)
  have e : spec_DrawRingOf.spec k = ⟨spec_DrawRingOf.T.ps, spec_DrawRingOf.T.rs, spec_DrawRingOf.T.ev tyt spec_DrawRingOf.tbl k⟩ := congrArg (FnSpec.mk _ _) (funext fun x => ((spec_DrawRingOf.e k (spec_DrawRingOf.T.run tyt spec_DrawRingOf.tbl k) x).trans (by rfl)).symm)
  rw [e]
  exact h
/-! ### spec_DrawStripBorder: function 99 -/
def spec_DrawStripBorder.m (k : Nat) (l0 : List Int) : Option (Int × Int × List Int) := ((spec_DrawRingOf.f k l0).bind fun r1 => (some (r1.1, r1.2.1, r1.2.2)))
def spec_DrawStripBorder.f (k : Nat) (l0 : List Int) : Option (Int × Int × List Int) := spec_DrawStripBorder.m k l0
noncomputable def spec_DrawStripBorder.spec (k : Nat) : FnSpec := ⟨[.d (.sl (.int .u8)) none], [.ag [.d (.int .i64) none, .d (.int .i64) none, .d (.sl (.int .i64)) (some 3)]], fun x => spec_DrawStripBorder.f k x⟩
noncomputable def spec_DrawStripBorder.T : FnText := ⟨(conv [] (bodyOf Go.Proofs.Try.f99) 0).1, Go.Proofs.Try.f99.results.toList, 5, [], [.d (.sl (.int .u8)) none], [.ag [.d (.int .i64) none, .d (.int .i64) none, .d (.sl (.int .i64)) (some 3)]]⟩
noncomputable def spec_DrawStripBorder.tbl (k : Nat) : Tbl := [(65, spec_DrawRingOf.spec k)]
theorem spec_DrawStripBorder.e (k : Nat) (o : Nat → St → Option (Int × Int × List Int)) (l0 : List Int) : spec_DrawStripBorder.T.main tyt (spec_DrawStripBorder.tbl k) o l0 = spec_DrawStripBorder.m k l0 := by kernel_rfl
theorem spec_DrawStripBorder.ok : spec_DrawStripBorder.T.ok = true := by kernel_rfl
theorem spec_DrawStripBorder.tblok (k : Nat) : TblOk Go.Proofs.Try.prog (spec_DrawStripBorder.tbl k) := TblOk.cons (spec_DrawRingOf.sound k) (TblOk.nil _)
theorem spec_DrawStripBorder.sound (k : Nat) : Sound Go.Proofs.Try.prog 99 (spec_DrawStripBorder.spec k) := by
  have h := fn_ok (F := spec_DrawStripBorder.T) (tbl := spec_DrawStripBorder.tbl) mixed tyok Go.Proofs.Try.func99 (by kernel_rfl) (c0 := bodyOf Go.Proofs.Try.f99) rfl (conv_code _ _ _) rfl rfl spec_DrawStripBorder.ok k (fun j _ => spec_DrawStripBorder.tblok j)
  have e : spec_DrawStripBorder.spec k = ⟨spec_DrawStripBorder.T.ps, spec_DrawStripBorder.T.rs, spec_DrawStripBorder.T.ev tyt spec_DrawStripBorder.tbl k⟩ := congrArg (FnSpec.mk _ _) (funext fun x => ((spec_DrawStripBorder.e k (spec_DrawStripBorder.T.run tyt spec_DrawStripBorder.tbl k) x).trans (by rfl)).symm)
  rw [e]
  exact h
/-! ### spec_l2Part: function 168 -/
def spec_l2Part.b4 (o9 : Int → Int → Int → Int → Int → Int → List Int → Int → Int → List Int → Int → Int → List Int → Int → Int → Option (Int × Int × List Int)) (k : Nat) (x0_4 : Int) (x1_4 : Int) (x2_4 : Int) (x3_4 : Int) (x4_4 : Int) (x5_4 : Int) (l6_4 : List Int) (x7_4 : Int) (x8_4 : Int) (l9_4 : List Int) (x10_4 : Int) (x11_4 : Int) (l12_4 : List Int) (x13_4 : Int) : Option (Int × Int × List Int) := (if x13_4 < (w64 (x0_4 + x2_4)) then (o9 x0_4 x1_4 x2_4 x3_4 x4_4 x5_4 l6_4 x7_4 x8_4 l9_4 x10_4 x11_4 l12_4 x13_4 x1_4) else (some (x10_4, x11_4, l12_4)))
def spec_l2Part.b9 (o4 : Int → Int → Int → Int → Int → Int → List Int → Int → Int → List Int → Int → Int → List Int → Int → Option (Int × Int × List Int)) (o9 : Int → Int → Int → Int → Int → Int → List Int → Int → Int → List Int → Int → Int → List Int → Int → Int → Option (Int × Int × List Int)) (k : Nat) (x0_9 : Int) (x1_9 : Int) (x2_9 : Int) (x3_9 : Int) (x4_9 : Int) (x5_9 : Int) (l6_9 : List Int) (x7_9 : Int) (x8_9 : Int) (l9_9 : List Int) (x10_9 : Int) (x11_9 : Int) (l12_9 : List Int) (x13_9 : Int) (x14_9 : Int) : Option (Int × Int × List Int) := (if x14_9 < (w64 (x1_9 + x3_9)) then ((spec_l2At.f k x4_9 x5_9 l6_9 x13_9 x14_9).bind fun r1 => ((app 17592186044416 l12_9 [r1]).bind fun l2 => (o9 x0_9 x1_9 x2_9 x3_9 x4_9 x5_9 l6_9 x7_9 x8_9 l9_9 x10_9 x11_9 l2 x13_9 (w64 (x14_9 + 1))))) else (o4 x0_9 x1_9 x2_9 x3_9 x4_9 x5_9 l6_9 x7_9 x8_9 l9_9 x10_9 x11_9 l12_9 (w64 (x13_9 + 1))))
mutual
def spec_l2Part.l4 : Nat → Int → Int → Int → Int → Int → Int → List Int → Int → Int → List Int → Int → Int → List Int → Int → Option (Int × Int × List Int)
  | 0, _, _, _, _, _, _, _, _, _, _, _, _, _, _ => none
  | k + 1, x0_4, x1_4, x2_4, x3_4, x4_4, x5_4, l6_4, x7_4, x8_4, l9_4, x10_4, x11_4, l12_4, x13_4 => spec_l2Part.b4 (spec_l2Part.l9 k) k x0_4 x1_4 x2_4 x3_4 x4_4 x5_4 l6_4 x7_4 x8_4 l9_4 x10_4 x11_4 l12_4 x13_4
def spec_l2Part.l9 : Nat → Int → Int → Int → Int → Int → Int → List Int → Int → Int → List Int → Int → Int → List Int → Int → Int → Option (Int × Int × List Int)
  | 0, _, _, _, _, _, _, _, _, _, _, _, _, _, _, _ => none
  | k + 1, x0_9, x1_9, x2_9, x3_9, x4_9, x5_9, l6_9, x7_9, x8_9, l9_9, x10_9, x11_9, l12_9, x13_9, x14_9 => spec_l2Part.b9 (spec_l2Part.l4 k) (spec_l2Part.l9 k) k x0_9 x1_9 x2_9 x3_9 x4_9 x5_9 l6_9 x7_9 x8_9 l9_9 x10_9 x11_9 l12_9 x13_9 x14_9
end
def spec_l2Part.m (o4 : Int → Int → Int → Int → Int → Int → List Int → Int → Int → List Int → Int → Int → List Int → Int → Option (Int × Int × List Int)) (k : Nat) (a0_0 : Int) (a0_1 : Int) (l0_2 : List Int) (a1 : Int) (a2 : Int) (a3 : Int) (a4 : Int) : Option (Int × Int × List Int) := (o4 a1 a2 a3 a4 a0_0 a0_1 l0_2 0 0 [] a4 a3 ([] : List (Int)) a1)
def spec_l2Part.f (k : Nat) (a0_0 : Int) (a0_1 : Int) (l0_2 : List Int) (a1 : Int) (a2 : Int) (a3 : Int) (a4 : Int) : Option (Int × Int × List Int) := spec_l2Part.m (spec_l2Part.l4 k) k a0_0 a0_1 l0_2 a1 a2 a3 a4
noncomputable def spec_l2Part.spec (k : Nat) : FnSpec := ⟨[.ag [.d (.int .i64) none, .d (.int .i64) none, .d (.sl (.int .i64)) none], .d (.int .i64) none, .d (.int .i64) none, .d (.int .i64) none, .d (.int .i64) none], [.ag [.d (.int .i64) none, .d (.int .i64) none, .d (.sl (.int .i64)) (some 3)]], fun x => spec_l2Part.f k x.1 x.2.1 x.2.2.1 x.2.2.2.1 x.2.2.2.2.1 x.2.2.2.2.2.1 x.2.2.2.2.2.2⟩
def spec_l2Part.S4 (x0_4 : Int) (x1_4 : Int) (x2_4 : Int) (x3_4 : Int) (x4_4 : Int) (x5_4 : Int) (l6_4 : List Int) (x7_4 : Int) (x8_4 : Int) (l9_4 : List Int) (x10_4 : Int) (x11_4 : Int) (l12_4 : List Int) (x13_4 : Int) : St := ⟨[(1, .val (.int .i64) x0_4), (2, .val (.int .i64) x1_4), (3, .val (.int .i64) x2_4), (4, .val (.int .i64) x3_4), (5, .ptr 100 0), (10, .ptr 101 0), (11, .ptr 102 0), (12, .val (.int .i64) x13_4)], [(102, some (.box [.val (.int .i64) x10_4, .val (.int .i64) x11_4, .ref 103])), (103, some (.row 3 (.int .i64) l12_4)), (101, some (.box [.val (.int .i64) x7_4, .val (.int .i64) x8_4, .val (.sl (.int .i64)) l9_4])), (100, some (.box [.val (.int .i64) x4_4, .val (.int .i64) x5_4, .val (.sl (.int .i64)) l6_4]))], 1000⟩
def spec_l2Part.S9 (x0_9 : Int) (x1_9 : Int) (x2_9 : Int) (x3_9 : Int) (x4_9 : Int) (x5_9 : Int) (l6_9 : List Int) (x7_9 : Int) (x8_9 : Int) (l9_9 : List Int) (x10_9 : Int) (x11_9 : Int) (l12_9 : List Int) (x13_9 : Int) (x14_9 : Int) : St := ⟨[(1, .val (.int .i64) x0_9), (2, .val (.int .i64) x1_9), (3, .val (.int .i64) x2_9), (4, .val (.int .i64) x3_9), (5, .ptr 100 0), (10, .ptr 101 0), (11, .ptr 102 0), (12, .val (.int .i64) x13_9), (13, .val (.int .i64) x14_9)], [(102, some (.box [.val (.int .i64) x10_9, .val (.int .i64) x11_9, .ref 103])), (103, some (.row 3 (.int .i64) l12_9)), (101, some (.box [.val (.int .i64) x7_9, .val (.int .i64) x8_9, .val (.sl (.int .i64)) l9_9])), (100, some (.box [.val (.int .i64) x4_9, .val (.int .i64) x5_9, .val (.sl (.int .i64)) l6_9]))], 1000⟩
noncomputable def spec_l2Part.T : FnText := ⟨(conv [] (bodyOf Go.Proofs.Try.f168) 0).1, Go.Proofs.Try.f168.results.toList, 44, [(4, [(1, .rd (.int .i64)), (2, .rd (.int .i64)), (3, .rd (.int .i64)), (4, .rd (.int .i64)), (5, .bx 100 [.rd (.int .i64), .rd (.int .i64), .rd (.sl (.int .i64))]), (10, .bx 101 [.rd (.int .i64), .rd (.int .i64), .rd (.sl (.int .i64))]), (11, .bx 102 [.rd (.int .i64), .rd (.int .i64), .own 3 (.int .i64) 103]), (12, .rd (.int .i64))]), (9, [(1, .rd (.int .i64)), (2, .rd (.int .i64)), (3, .rd (.int .i64)), (4, .rd (.int .i64)), (5, .bx 100 [.rd (.int .i64), .rd (.int .i64), .rd (.sl (.int .i64))]), (10, .bx 101 [.rd (.int .i64), .rd (.int .i64), .rd (.sl (.int .i64))]), (11, .bx 102 [.rd (.int .i64), .rd (.int .i64), .own 3 (.int .i64) 103]), (12, .rd (.int .i64)), (13, .rd (.int .i64))])], [.ag [.d (.int .i64) none, .d (.int .i64) none, .d (.sl (.int .i64)) none], .d (.int .i64) none, .d (.int .i64) none, .d (.int .i64) none, .d (.int .i64) none], [.ag [.d (.int .i64) none, .d (.int .i64) none, .d (.sl (.int .i64)) (some 3)]]⟩
noncomputable def spec_l2Part.tbl (k : Nat) : Tbl := [(176, spec_l2At.spec k)]
theorem spec_l2Part.e4 (k : Nat) (o : Nat → St → Option (Int × Int × List Int)) (x0_4 : Int) (x1_4 : Int) (x2_4 : Int) (x3_4 : Int) (x4_4 : Int) (x5_4 : Int) (l6_4 : List Int) (x7_4 : Int) (x8_4 : Int) (l9_4 : List Int) (x10_4 : Int) (x11_4 : Int) (l12_4 : List Int) (x13_4 : Int) : spec_l2Part.T.step tyt (spec_l2Part.tbl k) o 4 (spec_l2Part.S4 x0_4 x1_4 x2_4 x3_4 x4_4 x5_4 l6_4 x7_4 x8_4 l9_4 x10_4 x11_4 l12_4 x13_4) = spec_l2Part.b4 (fun x0_9 x1_9 x2_9 x3_9 x4_9 x5_9 l6_9 x7_9 x8_9 l9_9 x10_9 x11_9 l12_9 x13_9 x14_9 => o 9 (spec_l2Part.S9 x0_9 x1_9 x2_9 x3_9 x4_9 x5_9 l6_9 x7_9 x8_9 l9_9 x10_9 x11_9 l12_9 x13_9 x14_9)) k x0_4 x1_4 x2_4 x3_4 x4_4 x5_4 l6_4 x7_4 x8_4 l9_4 x10_4 x11_4 l12_4 x13_4 := by kernel_rfl
theorem spec_l2Part.e9 (k : Nat) (o : Nat → St → Option (Int × Int × List Int)) (x0_9 : Int) (x1_9 : Int) (x2_9 : Int) (x3_9 : Int) (x4_9 : Int) (x5_9 : Int) (l6_9 : List Int) (x7_9 : Int) (x8_9 : Int) (l9_9 : List Int) (x10_9 : Int) (x11_9 : Int) (l12_9 : List Int) (x13_9 : Int) (x14_9 : Int) : spec_l2Part.T.step tyt (spec_l2Part.tbl k) o 9 (spec_l2Part.S9 x0_9 x1_9 x2_9 x3_9 x4_9 x5_9 l6_9 x7_9 x8_9 l9_9 x10_9 x11_9 l12_9 x13_9 x14_9) = spec_l2Part.b9 (fun x0_4 x1_4 x2_4 x3_4 x4_4 x5_4 l6_4 x7_4 x8_4 l9_4 x10_4 x11_4 l12_4 x13_4 => o 4 (spec_l2Part.S4 x0_4 x1_4 x2_4 x3_4 x4_4 x5_4 l6_4 x7_4 x8_4 l9_4 x10_4 x11_4 l12_4 x13_4)) (fun x0_9 x1_9 x2_9 x3_9 x4_9 x5_9 l6_9 x7_9 x8_9 l9_9 x10_9 x11_9 l12_9 x13_9 x14_9 => o 9 (spec_l2Part.S9 x0_9 x1_9 x2_9 x3_9 x4_9 x5_9 l6_9 x7_9 x8_9 l9_9 x10_9 x11_9 l12_9 x13_9 x14_9)) k x0_9 x1_9 x2_9 x3_9 x4_9 x5_9 l6_9 x7_9 x8_9 l9_9 x10_9 x11_9 l12_9 x13_9 x14_9 := by kernel_rfl
theorem spec_l2Part.e (k : Nat) (o : Nat → St → Option (Int × Int × List Int)) (a0_0 : Int) (a0_1 : Int) (l0_2 : List Int) (a1 : Int) (a2 : Int) (a3 : Int) (a4 : Int) : spec_l2Part.T.main tyt (spec_l2Part.tbl k) o (a0_0, a0_1, l0_2, a1, a2, a3, a4) = spec_l2Part.m (fun x0_4 x1_4 x2_4 x3_4 x4_4 x5_4 l6_4 x7_4 x8_4 l9_4 x10_4 x11_4 l12_4 x13_4 => o 4 (spec_l2Part.S4 x0_4 x1_4 x2_4 x3_4 x4_4 x5_4 l6_4 x7_4 x8_4 l9_4 x10_4 x11_4 l12_4 x13_4)) k a0_0 a0_1 l0_2 a1 a2 a3 a4 := by kernel_rfl
theorem spec_l2Part.ok : spec_l2Part.T.ok = true := by kernel_rfl
theorem spec_l2Part.run (k : Nat) : (∀ (x0_4 : Int) (x1_4 : Int) (x2_4 : Int) (x3_4 : Int) (x4_4 : Int) (x5_4 : Int) (l6_4 : List Int) (x7_4 : Int) (x8_4 : Int) (l9_4 : List Int) (x10_4 : Int) (x11_4 : Int) (l12_4 : List Int) (x13_4 : Int), spec_l2Part.T.run tyt spec_l2Part.tbl k 4 (spec_l2Part.S4 x0_4 x1_4 x2_4 x3_4 x4_4 x5_4 l6_4 x7_4 x8_4 l9_4 x10_4 x11_4 l12_4 x13_4) = spec_l2Part.l4 k x0_4 x1_4 x2_4 x3_4 x4_4 x5_4 l6_4 x7_4 x8_4 l9_4 x10_4 x11_4 l12_4 x13_4) ∧ (∀ (x0_9 : Int) (x1_9 : Int) (x2_9 : Int) (x3_9 : Int) (x4_9 : Int) (x5_9 : Int) (l6_9 : List Int) (x7_9 : Int) (x8_9 : Int) (l9_9 : List Int) (x10_9 : Int) (x11_9 : Int) (l12_9 : List Int) (x13_9 : Int) (x14_9 : Int), spec_l2Part.T.run tyt spec_l2Part.tbl k 9 (spec_l2Part.S9 x0_9 x1_9 x2_9 x3_9 x4_9 x5_9 l6_9 x7_9 x8_9 l9_9 x10_9 x11_9 l12_9 x13_9 x14_9) = spec_l2Part.l9 k x0_9 x1_9 x2_9 x3_9 x4_9 x5_9 l6_9 x7_9 x8_9 l9_9 x10_9 x11_9 l12_9 x13_9 x14_9) := by
  induction k with
  | zero => exact ⟨fun x0_4 x1_4 x2_4 x3_4 x4_4 x5_4 l6_4 x7_4 x8_4 l9_4 x10_4 x11_4 l12_4 x13_4 => rfl, fun x0_9 x1_9 x2_9 x3_9 x4_9 x5_9 l6_9 x7_9 x8_9 l9_9 x10_9 x11_9 l12_9 x13_9 x14_9 => rfl⟩
  | succ k ih =>
    exact ⟨fun x0_4 x1_4 x2_4 x3_4 x4_4 x5_4 l6_4 x7_4 x8_4 l9_4 x10_4 x11_4 l12_4 x13_4 => by
      have q9 : (fun x0_9 x1_9 x2_9 x3_9 x4_9 x5_9 l6_9 x7_9 x8_9 l9_9 x10_9 x11_9 l12_9 x13_9 x14_9 => spec_l2Part.T.run tyt spec_l2Part.tbl k 9 (spec_l2Part.S9 x0_9 x1_9 x2_9 x3_9 x4_9 x5_9 l6_9 x7_9 x8_9 l9_9 x10_9 x11_9 l12_9 x13_9 x14_9)) = spec_l2Part.l9 k := by funext x0_9 x1_9 x2_9 x3_9 x4_9 x5_9 l6_9 x7_9 x8_9 l9_9 x10_9 x11_9 l12_9 x13_9 x14_9; exact ih.2 x0_9 x1_9 x2_9 x3_9 x4_9 x5_9 l6_9 x7_9 x8_9 l9_9 x10_9 x11_9 l12_9 x13_9 x14_9
      exact (spec_l2Part.e4 k (spec_l2Part.T.run tyt spec_l2Part.tbl k) x0_4 x1_4 x2_4 x3_4 x4_4 x5_4 l6_4 x7_4 x8_4 l9_4 x10_4 x11_4 l12_4 x13_4).trans (by rw [q9]; rfl), fun x0_9 x1_9 x2_9 x3_9 x4_9 x5_9 l6_9 x7_9 x8_9 l9_9 x10_9 x11_9 l12_9 x13_9 x14_9 => by
      have q4 : (fun x0_4 x1_4 x2_4 x3_4 x4_4 x5_4 l6_4 x7_4 x8_4 l9_4 x10_4 x11_4 l12_4 x13_4 => spec_l2Part.T.run tyt spec_l2Part.tbl k 4 (spec_l2Part.S4 x0_4 x1_4 x2_4 x3_4 x4_4 x5_4 l6_4 x7_4 x8_4 l9_4 x10_4 x11_4 l12_4 x13_4)) = spec_l2Part.l4 k := by funext x0_4 x1_4 x2_4 x3_4 x4_4 x5_4 l6_4 x7_4 x8_4 l9_4 x10_4 x11_4 l12_4 x13_4; exact ih.1 x0_4 x1_4 x2_4 x3_4 x4_4 x5_4 l6_4 x7_4 x8_4 l9_4 x10_4 x11_4 l12_4 x13_4
      have q9 : (fun x0_9 x1_9 x2_9 x3_9 x4_9 x5_9 l6_9 x7_9 x8_9 l9_9 x10_9 x11_9 l12_9 x13_9 x14_9 => spec_l2Part.T.run tyt spec_l2Part.tbl k 9 (spec_l2Part.S9 x0_9 x1_9 x2_9 x3_9 x4_9 x5_9 l6_9 x7_9 x8_9 l9_9 x10_9 x11_9 l12_9 x13_9 x14_9)) = spec_l2Part.l9 k := by funext x0_9 x1_9 x2_9 x3_9 x4_9 x5_9 l6_9 x7_9 x8_9 l9_9 x10_9 x11_9 l12_9 x13_9 x14_9; exact ih.2 x0_9 x1_9 x2_9 x3_9 x4_9 x5_9 l6_9 x7_9 x8_9 l9_9 x10_9 x11_9 l12_9 x13_9 x14_9
      exact (spec_l2Part.e9 k (spec_l2Part.T.run tyt spec_l2Part.tbl k) x0_9 x1_9 x2_9 x3_9 x4_9 x5_9 l6_9 x7_9 x8_9 l9_9 x10_9 x11_9 l12_9 x13_9 x14_9).trans (by rw [q4, q9]; rfl)⟩
theorem spec_l2Part.tblok (k : Nat) : TblOk Go.Proofs.Try.prog (spec_l2Part.tbl k) := TblOk.cons (spec_l2At.sound k) (TblOk.nil _)
theorem spec_l2Part.sound (k : Nat) : Sound Go.Proofs.Try.prog 168 (spec_l2Part.spec k) := by
  have h := fn_ok (F := spec_l2Part.T) (tbl := spec_l2Part.tbl) mixed tyok Go.Proofs.Try.func168 (by kernel_rfl) (c0 := bodyOf Go.Proofs.Try.f168) rfl (conv_code _ _ _) rfl rfl spec_l2Part.ok k (fun j _ => spec_l2Part.tblok j)
  have q4 : (fun x0_4 x1_4 x2_4 x3_4 x4_4 x5_4 l6_4 x7_4 x8_4 l9_4 x10_4 x11_4 l12_4 x13_4 => spec_l2Part.T.run tyt spec_l2Part.tbl k 4 (spec_l2Part.S4 x0_4 x1_4 x2_4 x3_4 x4_4 x5_4 l6_4 x7_4 x8_4 l9_4 x10_4 x11_4 l12_4 x13_4)) = spec_l2Part.l4 k := by funext x0_4 x1_4 x2_4 x3_4 x4_4 x5_4 l6_4 x7_4 x8_4 l9_4 x10_4 x11_4 l12_4 x13_4; exact (spec_l2Part.run k).1 x0_4 x1_4 x2_4 x3_4 x4_4 x5_4 l6_4 x7_4 x8_4 l9_4 x10_4 x11_4 l12_4 x13_4
  have e : spec_l2Part.spec k = ⟨spec_l2Part.T.ps, spec_l2Part.T.rs, spec_l2Part.T.ev tyt spec_l2Part.tbl k⟩ := congrArg (FnSpec.mk _ _) (funext fun x => ((spec_l2Part.e k (spec_l2Part.T.run tyt spec_l2Part.tbl k) x.1 x.2.1 x.2.2.1 x.2.2.2.1 x.2.2.2.2.1 x.2.2.2.2.2.1 x.2.2.2.2.2.2).trans (by rw [q4]; rfl)).symm)
  rw [e]
  exact h
/-! ### spec_StripBorder: function 100 -/
def spec_StripBorder.m (k : Nat) (a0_0 : Int) (a0_1 : Int) (l0_2 : List Int) : Option (Int × Int × List Int × Bool) := ((spec_l2Good.f k a0_0 a0_1 l0_2).bind fun r1 => (cond (!r1) (some (0, 0, [], false)) (if a0_0 < 3 then (some (0, 0, [], false)) else (if a0_1 < 3 then (some (0, 0, [], false)) else ((spec_l2Part.f k a0_0 a0_1 l0_2 1 1 (w64 (a0_1 - 2)) (w64 (a0_0 - 2))).bind fun r2 => (some (r2.1, r2.2.1, r2.2.2, true)))))))
def spec_StripBorder.f (k : Nat) (a0_0 : Int) (a0_1 : Int) (l0_2 : List Int) : Option (Int × Int × List Int × Bool) := spec_StripBorder.m k a0_0 a0_1 l0_2
noncomputable def spec_StripBorder.spec (k : Nat) : FnSpec := ⟨[.ag [.d (.int .i64) none, .d (.int .i64) none, .d (.sl (.int .i64)) none]], [.ag [.d (.int .i64) none, .d (.int .i64) none, .d (.sl (.int .i64)) (some 3)], .d .bool none], fun x => spec_StripBorder.f k x.1 x.2.1 x.2.2⟩
noncomputable def spec_StripBorder.T : FnText := ⟨(conv [] (bodyOf Go.Proofs.Try.f100) 0).1, Go.Proofs.Try.f100.results.toList, 26, [], [.ag [.d (.int .i64) none, .d (.int .i64) none, .d (.sl (.int .i64)) none]], [.ag [.d (.int .i64) none, .d (.int .i64) none, .d (.sl (.int .i64)) (some 3)], .d .bool none]⟩
noncomputable def spec_StripBorder.tbl (k : Nat) : Tbl := [(131, spec_l2Good.spec k), (168, spec_l2Part.spec k)]
theorem spec_StripBorder.e (k : Nat) (o : Nat → St → Option (Int × Int × List Int × Bool)) (a0_0 : Int) (a0_1 : Int) (l0_2 : List Int) : spec_StripBorder.T.main tyt (spec_StripBorder.tbl k) o (a0_0, a0_1, l0_2) = spec_StripBorder.m k a0_0 a0_1 l0_2 := by kernel_rfl
theorem spec_StripBorder.ok : spec_StripBorder.T.ok = true := by kernel_rfl
theorem spec_StripBorder.tblok (k : Nat) : TblOk Go.Proofs.Try.prog (spec_StripBorder.tbl k) := TblOk.cons (spec_l2Good.sound k) (TblOk.cons (spec_l2Part.sound k) (TblOk.nil _))
theorem spec_StripBorder.sound (k : Nat) : Sound Go.Proofs.Try.prog 100 (spec_StripBorder.spec k) := by
  have h := fn_ok (F := spec_StripBorder.T) (tbl := spec_StripBorder.tbl) mixed tyok Go.Proofs.Try.func100 (by kernel_rfl) (c0 := bodyOf Go.Proofs.Try.f100) rfl (conv_code _ _ _) rfl rfl spec_StripBorder.ok k (fun j _ => spec_StripBorder.tblok j)
  have e : spec_StripBorder.spec k = ⟨spec_StripBorder.T.ps, spec_StripBorder.T.rs, spec_StripBorder.T.ev tyt spec_StripBorder.tbl k⟩ := congrArg (FnSpec.mk _ _) (funext fun x => ((spec_StripBorder.e k (spec_StripBorder.T.run tyt spec_StripBorder.tbl k) x.1 x.2.1 x.2.2).trans (by rfl)).symm)
  rw [e]
  exact h
/-! ### spec_DrawNearestMeeting: function 101 -/
def spec_DrawNearestMeeting.m (k : Nat) (l0 : List Int) : Option (Int × Int × Int) := ((spec_l1Cur_among_2.f k l0 0 0 [2, 3, 5, 8, 1, 9, 6]).bind fun r1 => ((spec_l1Cur_among_2.f k r1.2.1 r1.2.2.1 r1.2.2.2.1 [2, 4, 8, 7, 1]).bind fun r2 => ((spec_l1Cur_among_2.f k r2.2.1 r2.2.2.1 r2.2.2.2.1 [1, 2, 3, 4, 5, 7, 8, 0, 9]).bind fun r3 => (some (r1.1, r2.1, r3.1)))))
def spec_DrawNearestMeeting.f (k : Nat) (l0 : List Int) : Option (Int × Int × Int) := spec_DrawNearestMeeting.m k l0
noncomputable def spec_DrawNearestMeeting.spec (k : Nat) : FnSpec := ⟨[.d (.sl (.int .u8)) none], [.d (.int .i64) none, .d (.int .i64) none, .d (.int .i64) none], fun x => spec_DrawNearestMeeting.f k x⟩
noncomputable def spec_DrawNearestMeeting.T : FnText := ⟨(conv [] (bodyOf Go.Proofs.Try.f101) 0).1, Go.Proofs.Try.f101.results.toList, 18, [], [.d (.sl (.int .u8)) none], [.d (.int .i64) none, .d (.int .i64) none, .d (.int .i64) none]⟩
noncomputable def spec_DrawNearestMeeting.tbl (k : Nat) : Tbl := [(164, spec_l1Cur_among_2.spec k)]
theorem spec_DrawNearestMeeting.e (k : Nat) (o : Nat → St → Option (Int × Int × Int)) (l0 : List Int) : spec_DrawNearestMeeting.T.main tyt (spec_DrawNearestMeeting.tbl k) o l0 = spec_DrawNearestMeeting.m k l0 := by kernel_rfl
theorem spec_DrawNearestMeeting.ok : spec_DrawNearestMeeting.T.ok = true := by kernel_rfl
theorem spec_DrawNearestMeeting.tblok (k : Nat) : TblOk Go.Proofs.Try.prog (spec_DrawNearestMeeting.tbl k) := TblOk.cons (spec_l1Cur_among_2.sound k) (TblOk.nil _)
theorem spec_DrawNearestMeeting.sound (k : Nat) : Sound Go.Proofs.Try.prog 101 (spec_DrawNearestMeeting.spec k) := by
  have h := fn_ok (F := spec_DrawNearestMeeting.T) (tbl := spec_DrawNearestMeeting.tbl) mixed tyok Go.Proofs.Try.func101 (by kernel_rfl) (c0 := bodyOf Go.Proofs.Try.f101) rfl (conv_code _ _ _) rfl rfl spec_DrawNearestMeeting.ok k (fun j _ => spec_DrawNearestMeeting.tblok j)
  have e : spec_DrawNearestMeeting.spec k = ⟨spec_DrawNearestMeeting.T.ps, spec_DrawNearestMeeting.T.rs, spec_DrawNearestMeeting.T.ev tyt spec_DrawNearestMeeting.tbl k⟩ := congrArg (FnSpec.mk _ _) (funext fun x => ((spec_DrawNearestMeeting.e k (spec_DrawNearestMeeting.T.run tyt spec_DrawNearestMeeting.tbl k) x).trans (by rfl)).symm)
  rw [e]
  exact h
/-! ### impl_abs: function 203 -/
def impl_abs.m (k : Nat) (a0 : Int) : Option (Int) := (some (max a0 (w64 (0 - a0))))
def impl_abs.f (k : Nat) (a0 : Int) : Option (Int) := impl_abs.m k a0
noncomputable def impl_abs.spec (k : Nat) : FnSpec := ⟨[.d (.int .i64) none], [.d (.int .i64) none], fun x => impl_abs.f k x⟩
noncomputable def impl_abs.T : FnText := ⟨(conv [] (bodyOf Go.Proofs.Try.f203) 0).1, Go.Proofs.Try.f203.results.toList, 7, [], [.d (.int .i64) none], [.d (.int .i64) none]⟩
noncomputable def impl_abs.tbl (k : Nat) : Tbl := []
theorem impl_abs.e (k : Nat) (o : Nat → St → Option (Int)) (a0 : Int) : impl_abs.T.main tyt (impl_abs.tbl k) o a0 = impl_abs.m k a0 := by kernel_rfl
theorem impl_abs.ok : impl_abs.T.ok = true := by kernel_rfl
theorem impl_abs.tblok (k : Nat) : TblOk Go.Proofs.Try.prog (impl_abs.tbl k) := TblOk.nil _
theorem impl_abs.sound (k : Nat) : Sound Go.Proofs.Try.prog 203 (impl_abs.spec k) := by
  have h := fn_ok (F := impl_abs.T) (tbl := impl_abs.tbl) mixed tyok Go.Proofs.Try.func203 (by kernel_rfl) (c0 := bodyOf Go.Proofs.Try.f203) rfl (conv_code _ _ _) rfl rfl impl_abs.ok k (fun j _ => impl_abs.tblok j)
  have e : impl_abs.spec k = ⟨impl_abs.T.ps, impl_abs.T.rs, impl_abs.T.ev tyt impl_abs.tbl k⟩ := congrArg (FnSpec.mk _ _) (funext fun x => ((impl_abs.e k (impl_abs.T.run tyt impl_abs.tbl k) x).trans (by rfl)).symm)
  rw [e]
  exact h

end Go.Proofs.Ytijmljaemalgmaa.DFnBorders
