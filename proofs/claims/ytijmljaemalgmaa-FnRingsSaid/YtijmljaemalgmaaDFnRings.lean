-- Printed by this session's own program (wip/deep/drow.py); Lean checks it.
import Derived.Test.YtijmljaemalgmaaDn26
import Derived.Test.YtijmljaemalgmaaProg
set_option linter.unusedVariables false
set_option maxRecDepth 100000
namespace Go.Proofs.Ytijmljaemalgmaa.DFnRings
open Go Go.Proofs.YtijmljaemalgmaaD
def tyt3 : TI := ⟨.int .i64, 1, 8, (.int .i64)⟩
def tyt4 : TI := ⟨.bool, 1, 1, .bool⟩
def tyt5 : TI := ⟨.int .u8, 1, 1, (.int .u8)⟩
def tyt22 : TI := ⟨.slice 3, 1, 24, (.sl (.int .i64))⟩
def tyt26 : TI := ⟨.struct #[⟨ "Width", 3, 0, false, "", "", 0⟩, ⟨ "Height", 3, 1, false, "", "", 8⟩, ⟨ "Knots", 22, 2, false, "", "", 16⟩], 3, 40, (.pair (.int .i64) (.pair (.int .i64) (.sl (.int .i64))))⟩
def tyt37 : TI := ⟨.slice 5, 1, 24, (.sl (.int .u8))⟩
def tyt86 : TI := ⟨.func #[3] #[4] false, 1, 8, .fn⟩
def tyt99 : TI := ⟨.int .u64, 1, 8, (.int .u64)⟩
def tyt101 : TI := ⟨.struct #[⟨ "code", 37, 0, false, "", "loop.example/g01023/spec", 0⟩, ⟨ "at", 3, 1, false, "", "loop.example/g01023/spec", 24⟩, ⟨ "seed", 99, 2, false, "", "loop.example/g01023/spec", 32⟩], 3, 40, (.pair (.sl (.int .u8)) (.pair (.int .i64) (.int .u64)))⟩
def tyt : TT := [(3, tyt3), (4, tyt4), (5, tyt5), (22, tyt22), (26, tyt26), (37, tyt37), (86, tyt86), (99, tyt99), (101, tyt101)]
theorem mixed : Go.Proofs.Try.prog.follows .mixedOrders = true := by kernel_rfl
theorem tok3 : TOk1 Go.Proofs.Try.prog 3 (tyt3) := TOk1.of (by kernel_rfl) (by kernel_rfl) (by kernel_rfl) (by kernel_rfl) (by kernel_rfl) (by kernel_rfl) (by kernel_rfl) (fun h => nomatch (show false = true from h)) (fun h => nomatch (show false = true from h))
theorem tok4 : TOk1 Go.Proofs.Try.prog 4 (tyt4) := TOk1.of (by kernel_rfl) (by kernel_rfl) (by kernel_rfl) (by kernel_rfl) (by kernel_rfl) (by kernel_rfl) (by kernel_rfl) (fun h => nomatch (show false = true from h)) (fun h => nomatch (show false = true from h))
theorem tok5 : TOk1 Go.Proofs.Try.prog 5 (tyt5) := TOk1.of (by kernel_rfl) (by kernel_rfl) (by kernel_rfl) (by kernel_rfl) (by kernel_rfl) (by kernel_rfl) (by kernel_rfl) (fun h => nomatch (show false = true from h)) (fun h => nomatch (show false = true from h))
theorem tok22 : TOk1 Go.Proofs.Try.prog 22 (tyt22) := TOk1.of (by kernel_rfl) (by kernel_rfl) (by kernel_rfl) (by kernel_rfl) (by kernel_rfl) (by kernel_rfl) (by kernel_rfl) (fun h => nomatch (show false = true from h)) (fun h => nomatch (show false = true from h))
theorem tok26 : TOk1 Go.Proofs.Try.prog 26 (tyt26) := TOk1.of (by kernel_rfl) (by kernel_rfl) (by kernel_rfl) (by kernel_rfl) (by kernel_rfl) (by kernel_rfl) (by kernel_rfl) (fun _ => by kernel_rfl) (fun h => nomatch (show false = true from h))
theorem tok37 : TOk1 Go.Proofs.Try.prog 37 (tyt37) := TOk1.of (by kernel_rfl) (by kernel_rfl) (by kernel_rfl) (by kernel_rfl) (by kernel_rfl) (by kernel_rfl) (by kernel_rfl) (fun h => nomatch (show false = true from h)) (fun h => nomatch (show false = true from h))
theorem tok86 : TOk1 Go.Proofs.Try.prog 86 (tyt86) := TOk1.of (by kernel_rfl) (by kernel_rfl) (by kernel_rfl) (by kernel_rfl) (by kernel_rfl) (by kernel_rfl) (by kernel_rfl) (fun h => nomatch (show false = true from h)) (fun h => nomatch (show false = true from h))
theorem tok99 : TOk1 Go.Proofs.Try.prog 99 (tyt99) := TOk1.of (by kernel_rfl) (by kernel_rfl) (by kernel_rfl) (by kernel_rfl) (by kernel_rfl) (by kernel_rfl) (by kernel_rfl) (fun h => nomatch (show false = true from h)) (fun h => nomatch (show false = true from h))
theorem tok101 : TOk1 Go.Proofs.Try.prog 101 (tyt101) := TOk1.of (by kernel_rfl) (by kernel_rfl) (by kernel_rfl) (by kernel_rfl) (by kernel_rfl) (by kernel_rfl) (by kernel_rfl) (fun _ => by kernel_rfl) (fun h => nomatch (show false = true from h))
theorem tyok : TOk Go.Proofs.Try.prog tyt := TOk.cons tok3 (TOk.cons tok4 (TOk.cons tok5 (TOk.cons tok22 (TOk.cons tok26 (TOk.cons tok37 (TOk.cons tok86 (TOk.cons tok99 (TOk.cons tok101 (TOk.nil _)))))))))
/-! ### laws_vBig: function 25 -/
def laws_vBig.m (k : Nat) (l0 : List Int) : Option (Bool) := (some (decide (65536 < (l0.length : Int))))
def laws_vBig.f (k : Nat) (l0 : List Int) : Option (Bool) := laws_vBig.m k l0
noncomputable def laws_vBig.spec (k : Nat) : FnSpec := ⟨[.d (.sl (.int .u8)) none], [.d .bool none], fun x => laws_vBig.f k x⟩
noncomputable def laws_vBig.T : FnText := ⟨(conv [] (bodyOf Go.Proofs.Try.f25) 0).1, Go.Proofs.Try.f25.results.toList, 6, [], [.d (.sl (.int .u8)) none], [.d .bool none]⟩
noncomputable def laws_vBig.tbl (k : Nat) : Tbl := []
theorem laws_vBig.e (k : Nat) (o : Nat → St → Option (Bool)) (l0 : List Int) : laws_vBig.T.main tyt (laws_vBig.tbl k) o l0 = laws_vBig.m k l0 := by kernel_rfl
theorem laws_vBig.ok : laws_vBig.T.ok = true := by kernel_rfl
theorem laws_vBig.tblok (k : Nat) : TblOk Go.Proofs.Try.prog (laws_vBig.tbl k) := TblOk.nil _
theorem laws_vBig.sound (k : Nat) : Sound Go.Proofs.Try.prog 25 (laws_vBig.spec k) := by
  have h := fn_ok (F := laws_vBig.T) (tbl := laws_vBig.tbl) mixed tyok Go.Proofs.Try.func25 (by kernel_rfl) (c0 := bodyOf Go.Proofs.Try.f25) rfl (conv_code _ _ _) rfl rfl laws_vBig.ok k (fun j _ => laws_vBig.tblok j)
  have e : laws_vBig.spec k = ⟨laws_vBig.T.ps, laws_vBig.T.rs, laws_vBig.T.ev tyt laws_vBig.tbl k⟩ := congrArg (FnSpec.mk _ _) (funext fun x => ((laws_vBig.e k (laws_vBig.T.run tyt laws_vBig.tbl k) x).trans (by rfl)).symm)
  rw [e]
  exact h
/-! ### spec_l1Cur_next: function 240 -/
def spec_l1Cur_next.b2 (k : Nat) (l0_2 : List Int) (x1_2 : Int) (x2_2 : Int) (x3_2 : Int) : Option (Int × List Int × Int × Int) := (if (w64 (x1_2 + 1)) ≤ (l0_2.length : Int) then (some (x3_2, l0_2, (w64 (x1_2 + 1)), (IntKind.u64.wrap ((IntKind.u64.wrap ((IntKind.u64.wrap (x2_2 * 6364136223846793005)) + (IntKind.u64.wrap (x3_2)))) + 102323)))) else ((shr .u64 (IntKind.u64.wrap ((IntKind.u64.wrap ((IntKind.u64.wrap (x2_2 * 6364136223846793005)) + (IntKind.u64.wrap (x3_2)))) + 102323)) 40).bind fun q2 => (some ((w64 ((band .u64 q2 255))), l0_2, (w64 (x1_2 + 1)), (IntKind.u64.wrap ((IntKind.u64.wrap ((IntKind.u64.wrap (x2_2 * 6364136223846793005)) + (IntKind.u64.wrap (x3_2)))) + 102323))))))
def spec_l1Cur_next.l2 : Nat → List Int → Int → Int → Int → Option (Int × List Int × Int × Int)
  | 0, _, _, _, _ => none
  | k + 1, l0_2, x1_2, x2_2, x3_2 => spec_l1Cur_next.b2 k l0_2 x1_2 x2_2 x3_2
def spec_l1Cur_next.m (o2 : List Int → Int → Int → Int → Option (Int × List Int × Int × Int)) (k : Nat) (l0_0 : List Int) (a0_1 : Int) (a0_2 : Int) : Option (Int × List Int × Int × Int) := (if a0_1 < (l0_0.length : Int) then ((chk l0_0.length a0_1).bind fun i1 => (o2 l0_0 a0_1 a0_2 (w64 ((l0_0.getD i1 0))))) else (o2 l0_0 a0_1 a0_2 0))
def spec_l1Cur_next.f (k : Nat) (l0_0 : List Int) (a0_1 : Int) (a0_2 : Int) : Option (Int × List Int × Int × Int) := spec_l1Cur_next.m (spec_l1Cur_next.l2 k) k l0_0 a0_1 a0_2
noncomputable def spec_l1Cur_next.spec (k : Nat) : FnSpec := ⟨[.bx [.d (.sl (.int .u8)) none, .d (.int .i64) none, .d (.int .u64) none]], [.d (.int .i64) none], fun x => spec_l1Cur_next.f k x.1 x.2.1 x.2.2⟩
def spec_l1Cur_next.S2 (l0_2 : List Int) (x1_2 : Int) (x2_2 : Int) (x3_2 : Int) : St := ⟨[(0, .ptr 0 0), (3, .val (.int .i64) x3_2)], [(0, some (.box [.val (.sl (.int .u8)) l0_2, .val (.int .i64) x1_2, .val (.int .u64) x2_2]))], 1000⟩
noncomputable def spec_l1Cur_next.T : FnText := ⟨(conv [2] (bodyOf Go.Proofs.Try.f240) 0).1, Go.Proofs.Try.f240.results.toList, 62, [(2, [(0, .bx 0 [.rd (.sl (.int .u8)), .rd (.int .i64), .rd (.int .u64)]), (3, .rd (.int .i64))])], [.bx [.d (.sl (.int .u8)) none, .d (.int .i64) none, .d (.int .u64) none]], [.d (.int .i64) none]⟩
noncomputable def spec_l1Cur_next.tbl (k : Nat) : Tbl := []
theorem spec_l1Cur_next.e2 (k : Nat) (o : Nat → St → Option (Int × List Int × Int × Int)) (l0_2 : List Int) (x1_2 : Int) (x2_2 : Int) (x3_2 : Int) : spec_l1Cur_next.T.step tyt (spec_l1Cur_next.tbl k) o 2 (spec_l1Cur_next.S2 l0_2 x1_2 x2_2 x3_2) = spec_l1Cur_next.b2 k l0_2 x1_2 x2_2 x3_2 := by kernel_rfl
theorem spec_l1Cur_next.e (k : Nat) (o : Nat → St → Option (Int × List Int × Int × Int)) (l0_0 : List Int) (a0_1 : Int) (a0_2 : Int) : spec_l1Cur_next.T.main tyt (spec_l1Cur_next.tbl k) o (l0_0, a0_1, a0_2) = spec_l1Cur_next.m (fun l0_2 x1_2 x2_2 x3_2 => o 2 (spec_l1Cur_next.S2 l0_2 x1_2 x2_2 x3_2)) k l0_0 a0_1 a0_2 := by kernel_rfl
theorem spec_l1Cur_next.ok : spec_l1Cur_next.T.ok = true := by kernel_rfl
theorem spec_l1Cur_next.run (k : Nat) : (∀ (l0_2 : List Int) (x1_2 : Int) (x2_2 : Int) (x3_2 : Int), spec_l1Cur_next.T.run tyt spec_l1Cur_next.tbl k 2 (spec_l1Cur_next.S2 l0_2 x1_2 x2_2 x3_2) = spec_l1Cur_next.l2 k l0_2 x1_2 x2_2 x3_2) := by
  induction k with
  | zero => exact fun l0_2 x1_2 x2_2 x3_2 => rfl
  | succ k ih =>
    exact fun l0_2 x1_2 x2_2 x3_2 => by
      exact (spec_l1Cur_next.e2 k (spec_l1Cur_next.T.run tyt spec_l1Cur_next.tbl k) l0_2 x1_2 x2_2 x3_2).trans (by rfl)
theorem spec_l1Cur_next.tblok (k : Nat) : TblOk Go.Proofs.Try.prog (spec_l1Cur_next.tbl k) := TblOk.nil _
theorem spec_l1Cur_next.sound (k : Nat) : Sound Go.Proofs.Try.prog 240 (spec_l1Cur_next.spec k) := by
  have h := fn_ok (F := spec_l1Cur_next.T) (tbl := spec_l1Cur_next.tbl) mixed tyok Go.Proofs.Try.func240 (by kernel_rfl) (c0 := bodyOf Go.Proofs.Try.f240) rfl (conv_code _ _ _) rfl rfl spec_l1Cur_next.ok k (fun j _ => spec_l1Cur_next.tblok j)
  have q2 : (fun l0_2 x1_2 x2_2 x3_2 => spec_l1Cur_next.T.run tyt spec_l1Cur_next.tbl k 2 (spec_l1Cur_next.S2 l0_2 x1_2 x2_2 x3_2)) = spec_l1Cur_next.l2 k := by funext l0_2 x1_2 x2_2 x3_2; exact (spec_l1Cur_next.run k) l0_2 x1_2 x2_2 x3_2
  have e : spec_l1Cur_next.spec k = ⟨spec_l1Cur_next.T.ps, spec_l1Cur_next.T.rs, spec_l1Cur_next.T.ev tyt spec_l1Cur_next.tbl k⟩ := congrArg (FnSpec.mk _ _) (funext fun x => ((spec_l1Cur_next.e k (spec_l1Cur_next.T.run tyt spec_l1Cur_next.tbl k) x.1 x.2.1 x.2.2).trans (by rw [q2]; rfl)).symm)
  rw [e]
  exact h
/-! ### spec_l1Cur_pick: function 162 -/
def spec_l1Cur_pick.m (k : Nat) (l0_0 : List Int) (a0_1 : Int) (a0_2 : Int) (a1 : Int) : Option (Int × List Int × Int × Int) := (if a1 ≤ 1 then (some (0, l0_0, a0_1, a0_2)) else ((spec_l1Cur_next.f k l0_0 a0_1 a0_2).bind fun r1 => (if 200 < a1 then ((spec_l1Cur_next.f k r1.2.1 r1.2.2.1 r1.2.2.2).bind fun r2 => ((rem (w64 ((w64 (r1.1 * 256)) + r2.1)) a1).bind fun q3 => (some (q3, r2.2.1, r2.2.2.1, r2.2.2.2)))) else ((rem r1.1 a1).bind fun q4 => (some (q4, r1.2.1, r1.2.2.1, r1.2.2.2))))))
def spec_l1Cur_pick.f (k : Nat) (l0_0 : List Int) (a0_1 : Int) (a0_2 : Int) (a1 : Int) : Option (Int × List Int × Int × Int) := spec_l1Cur_pick.m k l0_0 a0_1 a0_2 a1
noncomputable def spec_l1Cur_pick.spec (k : Nat) : FnSpec := ⟨[.bx [.d (.sl (.int .u8)) none, .d (.int .i64) none, .d (.int .u64) none], .d (.int .i64) none], [.d (.int .i64) none], fun x => spec_l1Cur_pick.f k x.1 x.2.1 x.2.2.1 x.2.2.2⟩
noncomputable def spec_l1Cur_pick.T : FnText := ⟨(conv [] (bodyOf Go.Proofs.Try.f162) 0).1, Go.Proofs.Try.f162.results.toList, 20, [], [.bx [.d (.sl (.int .u8)) none, .d (.int .i64) none, .d (.int .u64) none], .d (.int .i64) none], [.d (.int .i64) none]⟩
noncomputable def spec_l1Cur_pick.tbl (k : Nat) : Tbl := [(240, spec_l1Cur_next.spec k)]
theorem spec_l1Cur_pick.e (k : Nat) (o : Nat → St → Option (Int × List Int × Int × Int)) (l0_0 : List Int) (a0_1 : Int) (a0_2 : Int) (a1 : Int) : spec_l1Cur_pick.T.main tyt (spec_l1Cur_pick.tbl k) o (l0_0, a0_1, a0_2, a1) = spec_l1Cur_pick.m k l0_0 a0_1 a0_2 a1 := by kernel_rfl
theorem spec_l1Cur_pick.ok : spec_l1Cur_pick.T.ok = true := by kernel_rfl
theorem spec_l1Cur_pick.tblok (k : Nat) : TblOk Go.Proofs.Try.prog (spec_l1Cur_pick.tbl k) := TblOk.cons (spec_l1Cur_next.sound k) (TblOk.nil _)
theorem spec_l1Cur_pick.sound (k : Nat) : Sound Go.Proofs.Try.prog 162 (spec_l1Cur_pick.spec k) := by
  have h := fn_ok (F := spec_l1Cur_pick.T) (tbl := spec_l1Cur_pick.tbl) mixed tyok Go.Proofs.Try.func162 (by kernel_rfl) (c0 := bodyOf Go.Proofs.Try.f162) rfl (conv_code _ _ _) rfl rfl spec_l1Cur_pick.ok k (fun j _ => spec_l1Cur_pick.tblok j)
  have e : spec_l1Cur_pick.spec k = ⟨spec_l1Cur_pick.T.ps, spec_l1Cur_pick.T.rs, spec_l1Cur_pick.T.ev tyt spec_l1Cur_pick.tbl k⟩ := congrArg (FnSpec.mk _ _) (funext fun x => ((spec_l1Cur_pick.e k (spec_l1Cur_pick.T.run tyt spec_l1Cur_pick.tbl k) x.1 x.2.1 x.2.2.1 x.2.2.2).trans (by rfl)).symm)
  rw [e]
  exact h
/-! ### spec_l1Cur_among: function 164 -/
def spec_l1Cur_among.m (k : Nat) (l0_0 : List Int) (a0_1 : Int) (a0_2 : Int) (l1 : List Int) : Option (Int × List Int × Int × Int) := ((spec_l1Cur_pick.f k l0_0 a0_1 a0_2 (l1.length : Int)).bind fun r1 => ((chk l1.length r1.1).bind fun i2 => (some ((l1.getD i2 0), r1.2.1, r1.2.2.1, r1.2.2.2))))
def spec_l1Cur_among.f (k : Nat) (l0_0 : List Int) (a0_1 : Int) (a0_2 : Int) (l1 : List Int) : Option (Int × List Int × Int × Int) := spec_l1Cur_among.m k l0_0 a0_1 a0_2 l1
noncomputable def spec_l1Cur_among.spec (k : Nat) : FnSpec := ⟨[.bx [.d (.sl (.int .u8)) none, .d (.int .i64) none, .d (.int .u64) none], .d (.sl (.int .i64)) none], [.d (.int .i64) none], fun x => spec_l1Cur_among.f k x.1 x.2.1 x.2.2.1 x.2.2.2⟩
noncomputable def spec_l1Cur_among.T : FnText := ⟨(conv [] (bodyOf Go.Proofs.Try.f164) 0).1, Go.Proofs.Try.f164.results.toList, 12, [], [.bx [.d (.sl (.int .u8)) none, .d (.int .i64) none, .d (.int .u64) none], .d (.sl (.int .i64)) none], [.d (.int .i64) none]⟩
noncomputable def spec_l1Cur_among.tbl (k : Nat) : Tbl := [(162, spec_l1Cur_pick.spec k)]
theorem spec_l1Cur_among.e (k : Nat) (o : Nat → St → Option (Int × List Int × Int × Int)) (l0_0 : List Int) (a0_1 : Int) (a0_2 : Int) (l1 : List Int) : spec_l1Cur_among.T.main tyt (spec_l1Cur_among.tbl k) o (l0_0, a0_1, a0_2, l1) = spec_l1Cur_among.m k l0_0 a0_1 a0_2 l1 := by kernel_rfl
theorem spec_l1Cur_among.ok : spec_l1Cur_among.T.ok = true := by kernel_rfl
theorem spec_l1Cur_among.tblok (k : Nat) : TblOk Go.Proofs.Try.prog (spec_l1Cur_among.tbl k) := TblOk.cons (spec_l1Cur_pick.sound k) (TblOk.nil _)
theorem spec_l1Cur_among.sound (k : Nat) : Sound Go.Proofs.Try.prog 164 (spec_l1Cur_among.spec k) := by
  have h := fn_ok (F := spec_l1Cur_among.T) (tbl := spec_l1Cur_among.tbl) mixed tyok Go.Proofs.Try.func164 (by kernel_rfl) (c0 := bodyOf Go.Proofs.Try.f164) rfl (conv_code _ _ _) rfl rfl spec_l1Cur_among.ok k (fun j _ => spec_l1Cur_among.tblok j)
  have e : spec_l1Cur_among.spec k = ⟨spec_l1Cur_among.T.ps, spec_l1Cur_among.T.rs, spec_l1Cur_among.T.ev tyt spec_l1Cur_among.tbl k⟩ := congrArg (FnSpec.mk _ _) (funext fun x => ((spec_l1Cur_among.e k (spec_l1Cur_among.T.run tyt spec_l1Cur_among.tbl k) x.1 x.2.1 x.2.2.1 x.2.2.2).trans (by rfl)).symm)
  rw [e]
  exact h
/-! ### spec_l1Cur_among_2: function 164 -/
def spec_l1Cur_among_2.m (k : Nat) (l0_0 : List Int) (a0_1 : Int) (a0_2 : Int) (l1 : List Int) : Option (Int × List Int × Int × Int × List Int) := ((spec_l1Cur_pick.f k l0_0 a0_1 a0_2 (l1.length : Int)).bind fun r1 => ((chk l1.length r1.1).bind fun i2 => (some ((l1.getD i2 0), r1.2.1, r1.2.2.1, r1.2.2.2, l1))))
def spec_l1Cur_among_2.f (k : Nat) (l0_0 : List Int) (a0_1 : Int) (a0_2 : Int) (l1 : List Int) : Option (Int × List Int × Int × Int × List Int) := spec_l1Cur_among_2.m k l0_0 a0_1 a0_2 l1
noncomputable def spec_l1Cur_among_2.spec (k : Nat) : FnSpec := ⟨[.bx [.d (.sl (.int .u8)) none, .d (.int .i64) none, .d (.int .u64) none], .io 3 (.int .i64)], [.d (.int .i64) none], fun x => spec_l1Cur_among_2.f k x.1 x.2.1 x.2.2.1 x.2.2.2⟩
noncomputable def spec_l1Cur_among_2.T : FnText := ⟨(conv [] (bodyOf Go.Proofs.Try.f164) 0).1, Go.Proofs.Try.f164.results.toList, 12, [], [.bx [.d (.sl (.int .u8)) none, .d (.int .i64) none, .d (.int .u64) none], .io 3 (.int .i64)], [.d (.int .i64) none]⟩
noncomputable def spec_l1Cur_among_2.tbl (k : Nat) : Tbl := [(162, spec_l1Cur_pick.spec k)]
theorem spec_l1Cur_among_2.e (k : Nat) (o : Nat → St → Option (Int × List Int × Int × Int × List Int)) (l0_0 : List Int) (a0_1 : Int) (a0_2 : Int) (l1 : List Int) : spec_l1Cur_among_2.T.main tyt (spec_l1Cur_among_2.tbl k) o (l0_0, a0_1, a0_2, l1) = spec_l1Cur_among_2.m k l0_0 a0_1 a0_2 l1 := by kernel_rfl
theorem spec_l1Cur_among_2.ok : spec_l1Cur_among_2.T.ok = true := by kernel_rfl
theorem spec_l1Cur_among_2.tblok (k : Nat) : TblOk Go.Proofs.Try.prog (spec_l1Cur_among_2.tbl k) := TblOk.cons (spec_l1Cur_pick.sound k) (TblOk.nil _)
theorem spec_l1Cur_among_2.sound (k : Nat) : Sound Go.Proofs.Try.prog 164 (spec_l1Cur_among_2.spec k) := by
  have h := fn_ok (F := spec_l1Cur_among_2.T) (tbl := spec_l1Cur_among_2.tbl) mixed tyok Go.Proofs.Try.func164 (by kernel_rfl) (c0 := bodyOf Go.Proofs.Try.f164) rfl (conv_code _ _ _) rfl rfl spec_l1Cur_among_2.ok k (fun j _ => spec_l1Cur_among_2.tblok j)
  have e : spec_l1Cur_among_2.spec k = ⟨spec_l1Cur_among_2.T.ps, spec_l1Cur_among_2.T.rs, spec_l1Cur_among_2.T.ev tyt spec_l1Cur_among_2.tbl k⟩ := congrArg (FnSpec.mk _ _) (funext fun x => ((spec_l1Cur_among_2.e k (spec_l1Cur_among_2.T.run tyt spec_l1Cur_among_2.tbl k) x.1 x.2.1 x.2.2.1 x.2.2.2).trans (by rfl)).symm)
  rw [e]
  exact h
/-! ### spec_l1Cur_one: function 173 -/
def spec_l1Cur_one.m (k : Nat) (l0_0 : List Int) (a0_1 : Int) (a0_2 : Int) (a1 : Int) : Option (Bool × List Int × Int × Int) := ((spec_l1Cur_pick.f k l0_0 a0_1 a0_2 a1).bind fun r1 => (some ((decide (r1.1 = 0)), r1.2.1, r1.2.2.1, r1.2.2.2)))
def spec_l1Cur_one.f (k : Nat) (l0_0 : List Int) (a0_1 : Int) (a0_2 : Int) (a1 : Int) : Option (Bool × List Int × Int × Int) := spec_l1Cur_one.m k l0_0 a0_1 a0_2 a1
noncomputable def spec_l1Cur_one.spec (k : Nat) : FnSpec := ⟨[.bx [.d (.sl (.int .u8)) none, .d (.int .i64) none, .d (.int .u64) none], .d (.int .i64) none], [.d .bool none], fun x => spec_l1Cur_one.f k x.1 x.2.1 x.2.2.1 x.2.2.2⟩
noncomputable def spec_l1Cur_one.T : FnText := ⟨(conv [] (bodyOf Go.Proofs.Try.f173) 0).1, Go.Proofs.Try.f173.results.toList, 9, [], [.bx [.d (.sl (.int .u8)) none, .d (.int .i64) none, .d (.int .u64) none], .d (.int .i64) none], [.d .bool none]⟩
noncomputable def spec_l1Cur_one.tbl (k : Nat) : Tbl := [(162, spec_l1Cur_pick.spec k)]
theorem spec_l1Cur_one.e (k : Nat) (o : Nat → St → Option (Bool × List Int × Int × Int)) (l0_0 : List Int) (a0_1 : Int) (a0_2 : Int) (a1 : Int) : spec_l1Cur_one.T.main tyt (spec_l1Cur_one.tbl k) o (l0_0, a0_1, a0_2, a1) = spec_l1Cur_one.m k l0_0 a0_1 a0_2 a1 := by kernel_rfl
theorem spec_l1Cur_one.ok : spec_l1Cur_one.T.ok = true := by kernel_rfl
theorem spec_l1Cur_one.tblok (k : Nat) : TblOk Go.Proofs.Try.prog (spec_l1Cur_one.tbl k) := TblOk.cons (spec_l1Cur_pick.sound k) (TblOk.nil _)
theorem spec_l1Cur_one.sound (k : Nat) : Sound Go.Proofs.Try.prog 173 (spec_l1Cur_one.spec k) := by
  have h := fn_ok (F := spec_l1Cur_one.T) (tbl := spec_l1Cur_one.tbl) mixed tyok Go.Proofs.Try.func173 (by kernel_rfl) (c0 := bodyOf Go.Proofs.Try.f173) rfl (conv_code _ _ _) rfl rfl spec_l1Cur_one.ok k (fun j _ => spec_l1Cur_one.tblok j)
  have e : spec_l1Cur_one.spec k = ⟨spec_l1Cur_one.T.ps, spec_l1Cur_one.T.rs, spec_l1Cur_one.T.ev tyt spec_l1Cur_one.tbl k⟩ := congrArg (FnSpec.mk _ _) (funext fun x => ((spec_l1Cur_one.e k (spec_l1Cur_one.T.run tyt spec_l1Cur_one.tbl k) x.1 x.2.1 x.2.2.1 x.2.2.2).trans (by rfl)).symm)
  rw [e]
  exact h
/-! ### spec_l1Cur_plain: function 172 -/
def spec_l1Cur_plain.b4 (o4 : List Int → Int → Int → Int → Int → Int → Int → List Int → Int → Int → List Int → Int → Option (Int × Int × List Int × List Int × Int × Int)) (k : Nat) (l0_4 : List Int) (x1_4 : Int) (x2_4 : Int) (x3_4 : Int) (x4_4 : Int) (x5_4 : Int) (x6_4 : Int) (l7_4 : List Int) (x8_4 : Int) (x9_4 : Int) (l10_4 : List Int) (x11_4 : Int) : Option (Int × Int × List Int × List Int × Int × Int) := (if x11_4 < (w64 (x3_4 * x4_4)) then ((spec_l1Cur_among_2.f k l0_4 x1_4 x2_4 [0, 0, 0, 1, 1, 2, 5]).bind fun r1 => (if x3_4 ≤ x11_4 then ((spec_l1Cur_one.f k r1.2.1 r1.2.2.1 r1.2.2.2.1 3).bind fun r2 => (cond r2.1 ((chk l10_4.length (w64 (x11_4 - x3_4))).bind fun i3 => ((app 17592186044416 l10_4 [(l10_4.getD i3 0)]).bind fun l4 => (o4 r2.2.1 r2.2.2.1 r2.2.2.2 x3_4 x4_4 x5_4 x6_4 l7_4 x8_4 x9_4 l4 (w64 (x11_4 + 1))))) ((app 17592186044416 l10_4 [r1.1]).bind fun l5 => (o4 r2.2.1 r2.2.2.1 r2.2.2.2 x3_4 x4_4 x5_4 x6_4 l7_4 x8_4 x9_4 l5 (w64 (x11_4 + 1)))))) else ((app 17592186044416 l10_4 [r1.1]).bind fun l6 => (o4 r1.2.1 r1.2.2.1 r1.2.2.2.1 x3_4 x4_4 x5_4 x6_4 l7_4 x8_4 x9_4 l6 (w64 (x11_4 + 1)))))) else (some (x8_4, x9_4, l10_4, l0_4, x1_4, x2_4)))
def spec_l1Cur_plain.l4 : Nat → List Int → Int → Int → Int → Int → Int → Int → List Int → Int → Int → List Int → Int → Option (Int × Int × List Int × List Int × Int × Int)
  | 0, _, _, _, _, _, _, _, _, _, _, _, _ => none
  | k + 1, l0_4, x1_4, x2_4, x3_4, x4_4, x5_4, x6_4, l7_4, x8_4, x9_4, l10_4, x11_4 => spec_l1Cur_plain.b4 (spec_l1Cur_plain.l4 k) k l0_4 x1_4 x2_4 x3_4 x4_4 x5_4 x6_4 l7_4 x8_4 x9_4 l10_4 x11_4
def spec_l1Cur_plain.m (o4 : List Int → Int → Int → Int → Int → Int → Int → List Int → Int → Int → List Int → Int → Option (Int × Int × List Int × List Int × Int × Int)) (k : Nat) (l0_0 : List Int) (a0_1 : Int) (a0_2 : Int) (a1 : Int) (a2 : Int) : Option (Int × Int × List Int × List Int × Int × Int) := (o4 l0_0 a0_1 a0_2 a1 a2 0 0 [] a1 a2 ([] : List (Int)) 0)
def spec_l1Cur_plain.f (k : Nat) (l0_0 : List Int) (a0_1 : Int) (a0_2 : Int) (a1 : Int) (a2 : Int) : Option (Int × Int × List Int × List Int × Int × Int) := spec_l1Cur_plain.m (spec_l1Cur_plain.l4 k) k l0_0 a0_1 a0_2 a1 a2
noncomputable def spec_l1Cur_plain.spec (k : Nat) : FnSpec := ⟨[.bx [.d (.sl (.int .u8)) none, .d (.int .i64) none, .d (.int .u64) none], .d (.int .i64) none, .d (.int .i64) none], [.ag [.d (.int .i64) none, .d (.int .i64) none, .d (.sl (.int .i64)) (some 3)]], fun x => spec_l1Cur_plain.f k x.1 x.2.1 x.2.2.1 x.2.2.2.1 x.2.2.2.2⟩
def spec_l1Cur_plain.S4 (l0_4 : List Int) (x1_4 : Int) (x2_4 : Int) (x3_4 : Int) (x4_4 : Int) (x5_4 : Int) (x6_4 : Int) (l7_4 : List Int) (x8_4 : Int) (x9_4 : Int) (l10_4 : List Int) (x11_4 : Int) : St := ⟨[(0, .ptr 0 0), (1, .val (.int .i64) x3_4), (2, .val (.int .i64) x4_4), (6, .ptr 100 0), (7, .ptr 101 0), (8, .val (.int .i64) x11_4)], [(101, some (.box [.val (.int .i64) x8_4, .val (.int .i64) x9_4, .ref 102])), (102, some (.row 3 (.int .i64) l10_4)), (100, some (.box [.val (.int .i64) x5_4, .val (.int .i64) x6_4, .val (.sl (.int .i64)) l7_4])), (0, some (.box [.val (.sl (.int .u8)) l0_4, .val (.int .i64) x1_4, .val (.int .u64) x2_4]))], 1000⟩
noncomputable def spec_l1Cur_plain.T : FnText := ⟨(conv [] (bodyOf Go.Proofs.Try.f172) 0).1, Go.Proofs.Try.f172.results.toList, 45, [(4, [(0, .bx 0 [.rd (.sl (.int .u8)), .rd (.int .i64), .rd (.int .u64)]), (1, .rd (.int .i64)), (2, .rd (.int .i64)), (6, .bx 100 [.rd (.int .i64), .rd (.int .i64), .rd (.sl (.int .i64))]), (7, .bx 101 [.rd (.int .i64), .rd (.int .i64), .own 3 (.int .i64) 102]), (8, .rd (.int .i64))])], [.bx [.d (.sl (.int .u8)) none, .d (.int .i64) none, .d (.int .u64) none], .d (.int .i64) none, .d (.int .i64) none], [.ag [.d (.int .i64) none, .d (.int .i64) none, .d (.sl (.int .i64)) (some 3)]]⟩
noncomputable def spec_l1Cur_plain.tbl (k : Nat) : Tbl := [(164, spec_l1Cur_among_2.spec k), (173, spec_l1Cur_one.spec k)]
theorem spec_l1Cur_plain.e4 (k : Nat) (o : Nat → St → Option (Int × Int × List Int × List Int × Int × Int)) (l0_4 : List Int) (x1_4 : Int) (x2_4 : Int) (x3_4 : Int) (x4_4 : Int) (x5_4 : Int) (x6_4 : Int) (l7_4 : List Int) (x8_4 : Int) (x9_4 : Int) (l10_4 : List Int) (x11_4 : Int) : spec_l1Cur_plain.T.step tyt (spec_l1Cur_plain.tbl k) o 4 (spec_l1Cur_plain.S4 l0_4 x1_4 x2_4 x3_4 x4_4 x5_4 x6_4 l7_4 x8_4 x9_4 l10_4 x11_4) = spec_l1Cur_plain.b4 (fun l0_4 x1_4 x2_4 x3_4 x4_4 x5_4 x6_4 l7_4 x8_4 x9_4 l10_4 x11_4 => o 4 (spec_l1Cur_plain.S4 l0_4 x1_4 x2_4 x3_4 x4_4 x5_4 x6_4 l7_4 x8_4 x9_4 l10_4 x11_4)) k l0_4 x1_4 x2_4 x3_4 x4_4 x5_4 x6_4 l7_4 x8_4 x9_4 l10_4 x11_4 := by kernel_rfl
theorem spec_l1Cur_plain.e (k : Nat) (o : Nat → St → Option (Int × Int × List Int × List Int × Int × Int)) (l0_0 : List Int) (a0_1 : Int) (a0_2 : Int) (a1 : Int) (a2 : Int) : spec_l1Cur_plain.T.main tyt (spec_l1Cur_plain.tbl k) o (l0_0, a0_1, a0_2, a1, a2) = spec_l1Cur_plain.m (fun l0_4 x1_4 x2_4 x3_4 x4_4 x5_4 x6_4 l7_4 x8_4 x9_4 l10_4 x11_4 => o 4 (spec_l1Cur_plain.S4 l0_4 x1_4 x2_4 x3_4 x4_4 x5_4 x6_4 l7_4 x8_4 x9_4 l10_4 x11_4)) k l0_0 a0_1 a0_2 a1 a2 := by kernel_rfl
theorem spec_l1Cur_plain.ok : spec_l1Cur_plain.T.ok = true := by kernel_rfl
theorem spec_l1Cur_plain.run (k : Nat) : (∀ (l0_4 : List Int) (x1_4 : Int) (x2_4 : Int) (x3_4 : Int) (x4_4 : Int) (x5_4 : Int) (x6_4 : Int) (l7_4 : List Int) (x8_4 : Int) (x9_4 : Int) (l10_4 : List Int) (x11_4 : Int), spec_l1Cur_plain.T.run tyt spec_l1Cur_plain.tbl k 4 (spec_l1Cur_plain.S4 l0_4 x1_4 x2_4 x3_4 x4_4 x5_4 x6_4 l7_4 x8_4 x9_4 l10_4 x11_4) = spec_l1Cur_plain.l4 k l0_4 x1_4 x2_4 x3_4 x4_4 x5_4 x6_4 l7_4 x8_4 x9_4 l10_4 x11_4) := by
  induction k with
  | zero => exact fun l0_4 x1_4 x2_4 x3_4 x4_4 x5_4 x6_4 l7_4 x8_4 x9_4 l10_4 x11_4 => rfl
  | succ k ih =>
    exact fun l0_4 x1_4 x2_4 x3_4 x4_4 x5_4 x6_4 l7_4 x8_4 x9_4 l10_4 x11_4 => by
      have q4 : (fun l0_4 x1_4 x2_4 x3_4 x4_4 x5_4 x6_4 l7_4 x8_4 x9_4 l10_4 x11_4 => spec_l1Cur_plain.T.run tyt spec_l1Cur_plain.tbl k 4 (spec_l1Cur_plain.S4 l0_4 x1_4 x2_4 x3_4 x4_4 x5_4 x6_4 l7_4 x8_4 x9_4 l10_4 x11_4)) = spec_l1Cur_plain.l4 k := by funext l0_4 x1_4 x2_4 x3_4 x4_4 x5_4 x6_4 l7_4 x8_4 x9_4 l10_4 x11_4; exact ih l0_4 x1_4 x2_4 x3_4 x4_4 x5_4 x6_4 l7_4 x8_4 x9_4 l10_4 x11_4
      exact (spec_l1Cur_plain.e4 k (spec_l1Cur_plain.T.run tyt spec_l1Cur_plain.tbl k) l0_4 x1_4 x2_4 x3_4 x4_4 x5_4 x6_4 l7_4 x8_4 x9_4 l10_4 x11_4).trans (by rw [q4]; rfl)
theorem spec_l1Cur_plain.tblok (k : Nat) : TblOk Go.Proofs.Try.prog (spec_l1Cur_plain.tbl k) := TblOk.cons (spec_l1Cur_among_2.sound k) (TblOk.cons (spec_l1Cur_one.sound k) (TblOk.nil _))
theorem spec_l1Cur_plain.sound (k : Nat) : Sound Go.Proofs.Try.prog 172 (spec_l1Cur_plain.spec k) := by
  have h := fn_ok (F := spec_l1Cur_plain.T) (tbl := spec_l1Cur_plain.tbl) mixed tyok Go.Proofs.Try.func172 (by kernel_rfl) (c0 := bodyOf Go.Proofs.Try.f172) rfl (conv_code _ _ _) rfl rfl spec_l1Cur_plain.ok k (fun j _ => spec_l1Cur_plain.tblok j)
  have q4 : (fun l0_4 x1_4 x2_4 x3_4 x4_4 x5_4 x6_4 l7_4 x8_4 x9_4 l10_4 x11_4 => spec_l1Cur_plain.T.run tyt spec_l1Cur_plain.tbl k 4 (spec_l1Cur_plain.S4 l0_4 x1_4 x2_4 x3_4 x4_4 x5_4 x6_4 l7_4 x8_4 x9_4 l10_4 x11_4)) = spec_l1Cur_plain.l4 k := by funext l0_4 x1_4 x2_4 x3_4 x4_4 x5_4 x6_4 l7_4 x8_4 x9_4 l10_4 x11_4; exact (spec_l1Cur_plain.run k) l0_4 x1_4 x2_4 x3_4 x4_4 x5_4 x6_4 l7_4 x8_4 x9_4 l10_4 x11_4
  have e : spec_l1Cur_plain.spec k = ⟨spec_l1Cur_plain.T.ps, spec_l1Cur_plain.T.rs, spec_l1Cur_plain.T.ev tyt spec_l1Cur_plain.tbl k⟩ := congrArg (FnSpec.mk _ _) (funext fun x => ((spec_l1Cur_plain.e k (spec_l1Cur_plain.T.run tyt spec_l1Cur_plain.tbl k) x.1 x.2.1 x.2.2.1 x.2.2.2.1 x.2.2.2.2).trans (by rw [q4]; rfl)).symm)
  rw [e]
  exact h
/-! ### spec_l1Cur_chart: function 153 -/
def spec_l1Cur_chart.m (k : Nat) (l0_0 : List Int) (a0_1 : Int) (a0_2 : Int) : Option (Int × Int × List Int × List Int × Int × Int) := ((spec_l1Cur_among_2.f k l0_0 a0_1 a0_2 [1, 2, 3, 3, 4, 4, 5, 6, 8]).bind fun r1 => ((spec_l1Cur_among_2.f k r1.2.1 r1.2.2.1 r1.2.2.2.1 [1, 2, 3, 3, 4, 5, 8]).bind fun r2 => ((spec_l1Cur_plain.f k r2.2.1 r2.2.2.1 r2.2.2.2.1 r1.1 r2.1).bind fun r3 => ((spec_l1Cur_pick.f k r3.2.2.2.1 r3.2.2.2.2.1 r3.2.2.2.2.2 40).bind fun r4 => (if r4.1 = 0 then ((spec_l1Cur_pick.f k r4.2.1 r4.2.2.1 r4.2.2.2 (r3.2.2.1.length : Int)).bind fun r5 => ((spec_l1Cur_among_2.f k r5.2.1 r5.2.2.1 r5.2.2.2 [(-1), 6]).bind fun r6 => ((chk r3.2.2.1.length r5.1).bind fun i7 => (some (r3.1, r3.2.1, (r3.2.2.1.set i7 r6.1), r6.2.1, r6.2.2.1, r6.2.2.2.1))))) else (if r4.1 = 1 then ((app 17592186044416 r3.2.2.1 [0]).bind fun l9 => (some (r3.1, r3.2.1, l9, r4.2.1, r4.2.2.1, r4.2.2.2))) else (if r4.1 = 2 then ((spec_l1Cur_among_2.f k r4.2.1 r4.2.2.1 r4.2.2.2 [0, 9]).bind fun r10 => ((spec_l1Cur_plain.f k r10.2.1 r10.2.2.1 r10.2.2.2.1 r10.1 1).bind fun r11 => (some (r11.1, r11.2.1, r11.2.2.1, r11.2.2.2.1, r11.2.2.2.2.1, r11.2.2.2.2.2)))) else (some (r3.1, r3.2.1, r3.2.2.1, r4.2.1, r4.2.2.1, r4.2.2.2)))))))))
def spec_l1Cur_chart.f (k : Nat) (l0_0 : List Int) (a0_1 : Int) (a0_2 : Int) : Option (Int × Int × List Int × List Int × Int × Int) := spec_l1Cur_chart.m k l0_0 a0_1 a0_2
noncomputable def spec_l1Cur_chart.spec (k : Nat) : FnSpec := ⟨[.bx [.d (.sl (.int .u8)) none, .d (.int .i64) none, .d (.int .u64) none]], [.ag [.d (.int .i64) none, .d (.int .i64) none, .d (.sl (.int .i64)) (some 3)]], fun x => spec_l1Cur_chart.f k x.1 x.2.1 x.2.2⟩
noncomputable def spec_l1Cur_chart.T : FnText := ⟨(conv [] (bodyOf Go.Proofs.Try.f153) 0).1, Go.Proofs.Try.f153.results.toList, 42, [], [.bx [.d (.sl (.int .u8)) none, .d (.int .i64) none, .d (.int .u64) none]], [.ag [.d (.int .i64) none, .d (.int .i64) none, .d (.sl (.int .i64)) (some 3)]]⟩
noncomputable def spec_l1Cur_chart.tbl (k : Nat) : Tbl := [(164, spec_l1Cur_among_2.spec k), (172, spec_l1Cur_plain.spec k), (162, spec_l1Cur_pick.spec k)]
theorem spec_l1Cur_chart.e (k : Nat) (o : Nat → St → Option (Int × Int × List Int × List Int × Int × Int)) (l0_0 : List Int) (a0_1 : Int) (a0_2 : Int) : spec_l1Cur_chart.T.main tyt (spec_l1Cur_chart.tbl k) o (l0_0, a0_1, a0_2) = spec_l1Cur_chart.m k l0_0 a0_1 a0_2 := by kernel_rfl
theorem spec_l1Cur_chart.ok : spec_l1Cur_chart.T.ok = true := by kernel_rfl
theorem spec_l1Cur_chart.tblok (k : Nat) : TblOk Go.Proofs.Try.prog (spec_l1Cur_chart.tbl k) := TblOk.cons (spec_l1Cur_among_2.sound k) (TblOk.cons (spec_l1Cur_plain.sound k) (TblOk.cons (spec_l1Cur_pick.sound k) (TblOk.nil _)))
theorem spec_l1Cur_chart.sound (k : Nat) : Sound Go.Proofs.Try.prog 153 (spec_l1Cur_chart.spec k) := by
  have h := fn_ok (F := spec_l1Cur_chart.T) (tbl := spec_l1Cur_chart.tbl) mixed tyok Go.Proofs.Try.func153 (by kernel_rfl) (c0 := bodyOf Go.Proofs.Try.f153) rfl (conv_code _ _ _) rfl rfl spec_l1Cur_chart.ok k (fun j _ => spec_l1Cur_chart.tblok j)
  have e : spec_l1Cur_chart.spec k = ⟨spec_l1Cur_chart.T.ps, spec_l1Cur_chart.T.rs, spec_l1Cur_chart.T.ev tyt spec_l1Cur_chart.tbl k⟩ := congrArg (FnSpec.mk _ _) (funext fun x => ((spec_l1Cur_chart.e k (spec_l1Cur_chart.T.run tyt spec_l1Cur_chart.tbl k) x.1 x.2.1 x.2.2).trans (by rfl)).symm)
  rw [e]
  exact h
/-! ### spec_l1Cur_pattern8: function 208 -/
def spec_l1Cur_pattern8.b4 (o4 : List Int → Int → Int → List Int → Int → Option (List Int × List Int × Int × Int)) (o13 : List Int → Int → Int → List Int → Option (List Int × List Int × Int × Int)) (k : Nat) (l0_4 : List Int) (x1_4 : Int) (x2_4 : Int) (l3_4 : List Int) (x4_4 : Int) : Option (List Int × List Int × Int × Int) := (if 0 < x4_4 then ((spec_l1Cur_among_2.f k l0_4 x1_4 x2_4 [0, 1, 2, 5]).bind fun r2 => ((app 17592186044416 l3_4 [r2.1]).bind fun l3 => (o4 r2.2.1 r2.2.2.1 r2.2.2.2.1 l3 (w64 (x4_4 - 1))))) else ((spec_l1Cur_pick.f k l0_4 x1_4 x2_4 32).bind fun r4 => (if r4.1 = 0 then ((spec_l1Cur_among_2.f k r4.2.1 r4.2.2.1 r4.2.2.2 [6, (-1)]).bind fun r5 => ((app 17592186044416 l3_4 [r5.1]).bind fun l6 => (some (l6, r5.2.1, r5.2.2.1, r5.2.2.2.1)))) else (if r4.1 = 1 then (some (([] : List (Int)), r4.2.1, r4.2.2.1, r4.2.2.2)) else (if r4.1 = 2 then (o13 r4.2.1 r4.2.2.1 r4.2.2.2 l3_4) else (some (l3_4, r4.2.1, r4.2.2.1, r4.2.2.2)))))))
def spec_l1Cur_pattern8.b13 (o13 : List Int → Int → Int → List Int → Option (List Int × List Int × Int × Int)) (k : Nat) (l0_13 : List Int) (x1_13 : Int) (x2_13 : Int) (l3_13 : List Int) : Option (List Int × List Int × Int × Int) := ((spec_l1Cur_pick.f k l0_13 x1_13 x2_13 2).bind fun r7 => (if (l3_13.length : Int) < (w64 (8 + r7.1)) then ((app 17592186044416 l3_13 [1]).bind fun l8 => (o13 r7.2.1 r7.2.2.1 r7.2.2.2 l8)) else (some (l3_13, r7.2.1, r7.2.2.1, r7.2.2.2))))
mutual
def spec_l1Cur_pattern8.l4 : Nat → List Int → Int → Int → List Int → Int → Option (List Int × List Int × Int × Int)
  | 0, _, _, _, _, _ => none
  | k + 1, l0_4, x1_4, x2_4, l3_4, x4_4 => spec_l1Cur_pattern8.b4 (spec_l1Cur_pattern8.l4 k) (spec_l1Cur_pattern8.l13 k) k l0_4 x1_4 x2_4 l3_4 x4_4
def spec_l1Cur_pattern8.l13 : Nat → List Int → Int → Int → List Int → Option (List Int × List Int × Int × Int)
  | 0, _, _, _, _ => none
  | k + 1, l0_13, x1_13, x2_13, l3_13 => spec_l1Cur_pattern8.b13 (spec_l1Cur_pattern8.l13 k) k l0_13 x1_13 x2_13 l3_13
end
def spec_l1Cur_pattern8.m (o4 : List Int → Int → Int → List Int → Int → Option (List Int × List Int × Int × Int)) (k : Nat) (l0_0 : List Int) (a0_1 : Int) (a0_2 : Int) : Option (List Int × List Int × Int × Int) := ((spec_l1Cur_among_2.f k l0_0 a0_1 a0_2 [1, 2, 2, 3, 4, 4, 6, 8]).bind fun r1 => (o4 r1.2.1 r1.2.2.1 r1.2.2.2.1 ([] : List (Int)) r1.1))
def spec_l1Cur_pattern8.f (k : Nat) (l0_0 : List Int) (a0_1 : Int) (a0_2 : Int) : Option (List Int × List Int × Int × Int) := spec_l1Cur_pattern8.m (spec_l1Cur_pattern8.l4 k) k l0_0 a0_1 a0_2
noncomputable def spec_l1Cur_pattern8.spec (k : Nat) : FnSpec := ⟨[.bx [.d (.sl (.int .u8)) none, .d (.int .i64) none, .d (.int .u64) none]], [.d (.sl (.int .i64)) (some 3)], fun x => spec_l1Cur_pattern8.f k x.1 x.2.1 x.2.2⟩
def spec_l1Cur_pattern8.S4 (l0_4 : List Int) (x1_4 : Int) (x2_4 : Int) (l3_4 : List Int) (x4_4 : Int) : St := ⟨[(0, .ptr 0 0), (3, .ref 100), (4, .val (.int .i64) x4_4)], [(100, some (.row 3 (.int .i64) l3_4)), (0, some (.box [.val (.sl (.int .u8)) l0_4, .val (.int .i64) x1_4, .val (.int .u64) x2_4]))], 1000⟩
def spec_l1Cur_pattern8.S13 (l0_13 : List Int) (x1_13 : Int) (x2_13 : Int) (l3_13 : List Int) : St := ⟨[(0, .ptr 0 0), (3, .ref 100)], [(100, some (.row 3 (.int .i64) l3_13)), (0, some (.box [.val (.sl (.int .u8)) l0_13, .val (.int .i64) x1_13, .val (.int .u64) x2_13]))], 1000⟩
noncomputable def spec_l1Cur_pattern8.T : FnText := ⟨(conv [] (bodyOf Go.Proofs.Try.f208) 0).1, Go.Proofs.Try.f208.results.toList, 44, [(4, [(0, .bx 0 [.rd (.sl (.int .u8)), .rd (.int .i64), .rd (.int .u64)]), (3, .own 3 (.int .i64) 100), (4, .rd (.int .i64))]), (13, [(0, .bx 0 [.rd (.sl (.int .u8)), .rd (.int .i64), .rd (.int .u64)]), (3, .own 3 (.int .i64) 100)])], [.bx [.d (.sl (.int .u8)) none, .d (.int .i64) none, .d (.int .u64) none]], [.d (.sl (.int .i64)) (some 3)]⟩
noncomputable def spec_l1Cur_pattern8.tbl (k : Nat) : Tbl := [(164, spec_l1Cur_among_2.spec k), (162, spec_l1Cur_pick.spec k)]
theorem spec_l1Cur_pattern8.e4 (k : Nat) (o : Nat → St → Option (List Int × List Int × Int × Int)) (l0_4 : List Int) (x1_4 : Int) (x2_4 : Int) (l3_4 : List Int) (x4_4 : Int) : spec_l1Cur_pattern8.T.step tyt (spec_l1Cur_pattern8.tbl k) o 4 (spec_l1Cur_pattern8.S4 l0_4 x1_4 x2_4 l3_4 x4_4) = spec_l1Cur_pattern8.b4 (fun l0_4 x1_4 x2_4 l3_4 x4_4 => o 4 (spec_l1Cur_pattern8.S4 l0_4 x1_4 x2_4 l3_4 x4_4)) (fun l0_13 x1_13 x2_13 l3_13 => o 13 (spec_l1Cur_pattern8.S13 l0_13 x1_13 x2_13 l3_13)) k l0_4 x1_4 x2_4 l3_4 x4_4 := by kernel_rfl
theorem spec_l1Cur_pattern8.e13 (k : Nat) (o : Nat → St → Option (List Int × List Int × Int × Int)) (l0_13 : List Int) (x1_13 : Int) (x2_13 : Int) (l3_13 : List Int) : spec_l1Cur_pattern8.T.step tyt (spec_l1Cur_pattern8.tbl k) o 13 (spec_l1Cur_pattern8.S13 l0_13 x1_13 x2_13 l3_13) = spec_l1Cur_pattern8.b13 (fun l0_13 x1_13 x2_13 l3_13 => o 13 (spec_l1Cur_pattern8.S13 l0_13 x1_13 x2_13 l3_13)) k l0_13 x1_13 x2_13 l3_13 := by kernel_rfl
theorem spec_l1Cur_pattern8.e (k : Nat) (o : Nat → St → Option (List Int × List Int × Int × Int)) (l0_0 : List Int) (a0_1 : Int) (a0_2 : Int) : spec_l1Cur_pattern8.T.main tyt (spec_l1Cur_pattern8.tbl k) o (l0_0, a0_1, a0_2) = spec_l1Cur_pattern8.m (fun l0_4 x1_4 x2_4 l3_4 x4_4 => o 4 (spec_l1Cur_pattern8.S4 l0_4 x1_4 x2_4 l3_4 x4_4)) k l0_0 a0_1 a0_2 := by kernel_rfl
theorem spec_l1Cur_pattern8.ok : spec_l1Cur_pattern8.T.ok = true := by kernel_rfl
theorem spec_l1Cur_pattern8.run (k : Nat) : (∀ (l0_4 : List Int) (x1_4 : Int) (x2_4 : Int) (l3_4 : List Int) (x4_4 : Int), spec_l1Cur_pattern8.T.run tyt spec_l1Cur_pattern8.tbl k 4 (spec_l1Cur_pattern8.S4 l0_4 x1_4 x2_4 l3_4 x4_4) = spec_l1Cur_pattern8.l4 k l0_4 x1_4 x2_4 l3_4 x4_4) ∧ (∀ (l0_13 : List Int) (x1_13 : Int) (x2_13 : Int) (l3_13 : List Int), spec_l1Cur_pattern8.T.run tyt spec_l1Cur_pattern8.tbl k 13 (spec_l1Cur_pattern8.S13 l0_13 x1_13 x2_13 l3_13) = spec_l1Cur_pattern8.l13 k l0_13 x1_13 x2_13 l3_13) := by
  induction k with
  | zero => exact ⟨fun l0_4 x1_4 x2_4 l3_4 x4_4 => rfl, fun l0_13 x1_13 x2_13 l3_13 => rfl⟩
  | succ k ih =>
    exact ⟨fun l0_4 x1_4 x2_4 l3_4 x4_4 => by
      have q4 : (fun l0_4 x1_4 x2_4 l3_4 x4_4 => spec_l1Cur_pattern8.T.run tyt spec_l1Cur_pattern8.tbl k 4 (spec_l1Cur_pattern8.S4 l0_4 x1_4 x2_4 l3_4 x4_4)) = spec_l1Cur_pattern8.l4 k := by funext l0_4 x1_4 x2_4 l3_4 x4_4; exact ih.1 l0_4 x1_4 x2_4 l3_4 x4_4
      have q13 : (fun l0_13 x1_13 x2_13 l3_13 => spec_l1Cur_pattern8.T.run tyt spec_l1Cur_pattern8.tbl k 13 (spec_l1Cur_pattern8.S13 l0_13 x1_13 x2_13 l3_13)) = spec_l1Cur_pattern8.l13 k := by funext l0_13 x1_13 x2_13 l3_13; exact ih.2 l0_13 x1_13 x2_13 l3_13
      exact (spec_l1Cur_pattern8.e4 k (spec_l1Cur_pattern8.T.run tyt spec_l1Cur_pattern8.tbl k) l0_4 x1_4 x2_4 l3_4 x4_4).trans (by rw [q4, q13]; rfl), fun l0_13 x1_13 x2_13 l3_13 => by
      have q13 : (fun l0_13 x1_13 x2_13 l3_13 => spec_l1Cur_pattern8.T.run tyt spec_l1Cur_pattern8.tbl k 13 (spec_l1Cur_pattern8.S13 l0_13 x1_13 x2_13 l3_13)) = spec_l1Cur_pattern8.l13 k := by funext l0_13 x1_13 x2_13 l3_13; exact ih.2 l0_13 x1_13 x2_13 l3_13
      exact (spec_l1Cur_pattern8.e13 k (spec_l1Cur_pattern8.T.run tyt spec_l1Cur_pattern8.tbl k) l0_13 x1_13 x2_13 l3_13).trans (by rw [q13]; rfl)⟩
theorem spec_l1Cur_pattern8.tblok (k : Nat) : TblOk Go.Proofs.Try.prog (spec_l1Cur_pattern8.tbl k) := TblOk.cons (spec_l1Cur_among_2.sound k) (TblOk.cons (spec_l1Cur_pick.sound k) (TblOk.nil _))
theorem spec_l1Cur_pattern8.sound (k : Nat) : Sound Go.Proofs.Try.prog 208 (spec_l1Cur_pattern8.spec k) := by
  have h := fn_ok (F := spec_l1Cur_pattern8.T) (tbl := spec_l1Cur_pattern8.tbl) mixed tyok Go.Proofs.Try.func208 (by kernel_rfl) (c0 := bodyOf Go.Proofs.Try.f208) rfl (conv_code _ _ _) rfl rfl spec_l1Cur_pattern8.ok k (fun j _ => spec_l1Cur_pattern8.tblok j)
  have q4 : (fun l0_4 x1_4 x2_4 l3_4 x4_4 => spec_l1Cur_pattern8.T.run tyt spec_l1Cur_pattern8.tbl k 4 (spec_l1Cur_pattern8.S4 l0_4 x1_4 x2_4 l3_4 x4_4)) = spec_l1Cur_pattern8.l4 k := by funext l0_4 x1_4 x2_4 l3_4 x4_4; exact (spec_l1Cur_pattern8.run k).1 l0_4 x1_4 x2_4 l3_4 x4_4
  have e : spec_l1Cur_pattern8.spec k = ⟨spec_l1Cur_pattern8.T.ps, spec_l1Cur_pattern8.T.rs, spec_l1Cur_pattern8.T.ev tyt spec_l1Cur_pattern8.tbl k⟩ := congrArg (FnSpec.mk _ _) (funext fun x => ((spec_l1Cur_pattern8.e k (spec_l1Cur_pattern8.T.run tyt spec_l1Cur_pattern8.tbl k) x.1 x.2.1 x.2.2).trans (by rw [q4]; rfl)).symm)
  rw [e]
  exact h
/-! ### spec_l1In: function 134 -/
def spec_l1In.m (k : Nat) (a0 : Int) (a1 : Int) (a2 : Int) : Option (Bool) := (if a1 ≤ a0 then (some (decide (a0 ≤ a2))) else (some false))
def spec_l1In.f (k : Nat) (a0 : Int) (a1 : Int) (a2 : Int) : Option (Bool) := spec_l1In.m k a0 a1 a2
noncomputable def spec_l1In.spec (k : Nat) : FnSpec := ⟨[.d (.int .i64) none, .d (.int .i64) none, .d (.int .i64) none], [.d .bool none], fun x => spec_l1In.f k x.1 x.2.1 x.2.2⟩
noncomputable def spec_l1In.T : FnText := ⟨(conv [] (bodyOf Go.Proofs.Try.f134) 0).1, Go.Proofs.Try.f134.results.toList, 15, [], [.d (.int .i64) none, .d (.int .i64) none, .d (.int .i64) none], [.d .bool none]⟩
noncomputable def spec_l1In.tbl (k : Nat) : Tbl := []
theorem spec_l1In.e (k : Nat) (o : Nat → St → Option (Bool)) (a0 : Int) (a1 : Int) (a2 : Int) : spec_l1In.T.main tyt (spec_l1In.tbl k) o (a0, a1, a2) = spec_l1In.m k a0 a1 a2 := by kernel_rfl
theorem spec_l1In.ok : spec_l1In.T.ok = true := by kernel_rfl
theorem spec_l1In.tblok (k : Nat) : TblOk Go.Proofs.Try.prog (spec_l1In.tbl k) := TblOk.nil _
theorem spec_l1In.sound (k : Nat) : Sound Go.Proofs.Try.prog 134 (spec_l1In.spec k) := by
  have h := fn_ok (F := spec_l1In.T) (tbl := spec_l1In.tbl) mixed tyok Go.Proofs.Try.func134 (by kernel_rfl) (c0 := bodyOf Go.Proofs.Try.f134) rfl (conv_code _ _ _) rfl rfl spec_l1In.ok k (fun j _ => spec_l1In.tblok j)
  have e : spec_l1In.spec k = ⟨spec_l1In.T.ps, spec_l1In.T.rs, spec_l1In.T.ev tyt spec_l1In.tbl k⟩ := congrArg (FnSpec.mk _ _) (funext fun x => ((spec_l1In.e k (spec_l1In.T.run tyt spec_l1In.tbl k) x.1 x.2.1 x.2.2).trans (by rfl)).symm)
  rw [e]
  exact h
/-! ### spec_l2Color: function 132 -/
def spec_l2Color.m (k : Nat) (a0 : Int) : Option (Bool) := ((spec_l1In.f k a0 0 5).bind fun r1 => (some r1))
def spec_l2Color.f (k : Nat) (a0 : Int) : Option (Bool) := spec_l2Color.m k a0
noncomputable def spec_l2Color.spec (k : Nat) : FnSpec := ⟨[.d (.int .i64) none], [.d .bool none], fun x => spec_l2Color.f k x⟩
noncomputable def spec_l2Color.T : FnText := ⟨(conv [] (bodyOf Go.Proofs.Try.f132) 0).1, Go.Proofs.Try.f132.results.toList, 5, [], [.d (.int .i64) none], [.d .bool none]⟩
noncomputable def spec_l2Color.tbl (k : Nat) : Tbl := [(134, spec_l1In.spec k)]
theorem spec_l2Color.e (k : Nat) (o : Nat → St → Option (Bool)) (a0 : Int) : spec_l2Color.T.main tyt (spec_l2Color.tbl k) o a0 = spec_l2Color.m k a0 := by kernel_rfl
theorem spec_l2Color.ok : spec_l2Color.T.ok = true := by kernel_rfl
theorem spec_l2Color.tblok (k : Nat) : TblOk Go.Proofs.Try.prog (spec_l2Color.tbl k) := TblOk.cons (spec_l1In.sound k) (TblOk.nil _)
theorem spec_l2Color.sound (k : Nat) : Sound Go.Proofs.Try.prog 132 (spec_l2Color.spec k) := by
  have h := fn_ok (F := spec_l2Color.T) (tbl := spec_l2Color.tbl) mixed tyok Go.Proofs.Try.func132 (by kernel_rfl) (c0 := bodyOf Go.Proofs.Try.f132) rfl (conv_code _ _ _) rfl rfl spec_l2Color.ok k (fun j _ => spec_l2Color.tblok j)
  have e : spec_l2Color.spec k = ⟨spec_l2Color.T.ps, spec_l2Color.T.rs, spec_l2Color.T.ev tyt spec_l2Color.tbl k⟩ := congrArg (FnSpec.mk _ _) (funext fun x => ((spec_l2Color.e k (spec_l2Color.T.run tyt spec_l2Color.tbl k) x).trans (by rfl)).symm)
  rw [e]
  exact h
/-! ### spec_l2Side: function 180 -/
def spec_l2Side.m (k : Nat) (a0 : Int) : Option (Bool) := ((spec_l1In.f k a0 1 8).bind fun r1 => (some r1))
def spec_l2Side.f (k : Nat) (a0 : Int) : Option (Bool) := spec_l2Side.m k a0
noncomputable def spec_l2Side.spec (k : Nat) : FnSpec := ⟨[.d (.int .i64) none], [.d .bool none], fun x => spec_l2Side.f k x⟩
noncomputable def spec_l2Side.T : FnText := ⟨(conv [] (bodyOf Go.Proofs.Try.f180) 0).1, Go.Proofs.Try.f180.results.toList, 5, [], [.d (.int .i64) none], [.d .bool none]⟩
noncomputable def spec_l2Side.tbl (k : Nat) : Tbl := [(134, spec_l1In.spec k)]
theorem spec_l2Side.e (k : Nat) (o : Nat → St → Option (Bool)) (a0 : Int) : spec_l2Side.T.main tyt (spec_l2Side.tbl k) o a0 = spec_l2Side.m k a0 := by kernel_rfl
theorem spec_l2Side.ok : spec_l2Side.T.ok = true := by kernel_rfl
theorem spec_l2Side.tblok (k : Nat) : TblOk Go.Proofs.Try.prog (spec_l2Side.tbl k) := TblOk.cons (spec_l1In.sound k) (TblOk.nil _)
theorem spec_l2Side.sound (k : Nat) : Sound Go.Proofs.Try.prog 180 (spec_l2Side.spec k) := by
  have h := fn_ok (F := spec_l2Side.T) (tbl := spec_l2Side.tbl) mixed tyok Go.Proofs.Try.func180 (by kernel_rfl) (c0 := bodyOf Go.Proofs.Try.f180) rfl (conv_code _ _ _) rfl rfl spec_l2Side.ok k (fun j _ => spec_l2Side.tblok j)
  have e : spec_l2Side.spec k = ⟨spec_l2Side.T.ps, spec_l2Side.T.rs, spec_l2Side.T.ev tyt spec_l2Side.tbl k⟩ := congrArg (FnSpec.mk _ _) (funext fun x => ((spec_l2Side.e k (spec_l2Side.T.run tyt spec_l2Side.tbl k) x).trans (by rfl)).symm)
  rw [e]
  exact h
/-! ### spec_l2Good: function 131 -/
def spec_l2Good.b3 (o3 : Int → Int → List Int → Int → Option (Bool)) (k : Nat) (x0_3 : Int) (x1_3 : Int) (l2_3 : List Int) (x3_3 : Int) : Option (Bool) := (if x3_3 < (l2_3.length : Int) then ((chk l2_3.length x3_3).bind fun i1 => ((spec_l2Color.f k (l2_3.getD i1 0)).bind fun r2 => (cond (!r2) (some false) (o3 x0_3 x1_3 l2_3 (w64 (x3_3 + 1)))))) else ((spec_l2Side.f k x0_3).bind fun r3 => (cond r3 ((spec_l2Side.f k x1_3).bind fun r4 => (cond r4 (some (decide ((l2_3.length : Int) = (w64 (x0_3 * x1_3))))) (some false))) (some false))))
def spec_l2Good.l3 : Nat → Int → Int → List Int → Int → Option (Bool)
  | 0, _, _, _, _ => none
  | k + 1, x0_3, x1_3, l2_3, x3_3 => spec_l2Good.b3 (spec_l2Good.l3 k) k x0_3 x1_3 l2_3 x3_3
def spec_l2Good.m (o3 : Int → Int → List Int → Int → Option (Bool)) (k : Nat) (a0_0 : Int) (a0_1 : Int) (l0_2 : List Int) : Option (Bool) := (o3 a0_0 a0_1 l0_2 0)
def spec_l2Good.f (k : Nat) (a0_0 : Int) (a0_1 : Int) (l0_2 : List Int) : Option (Bool) := spec_l2Good.m (spec_l2Good.l3 k) k a0_0 a0_1 l0_2
noncomputable def spec_l2Good.spec (k : Nat) : FnSpec := ⟨[.ag [.d (.int .i64) none, .d (.int .i64) none, .d (.sl (.int .i64)) none]], [.d .bool none], fun x => spec_l2Good.f k x.1 x.2.1 x.2.2⟩
def spec_l2Good.S3 (x0_3 : Int) (x1_3 : Int) (l2_3 : List Int) (x3_3 : Int) : St := ⟨[(1, .ptr 100 0), (3, .val (.int .i64) x3_3)], [(100, some (.box [.val (.int .i64) x0_3, .val (.int .i64) x1_3, .val (.sl (.int .i64)) l2_3]))], 1000⟩
noncomputable def spec_l2Good.T : FnText := ⟨(conv [] (bodyOf Go.Proofs.Try.f131) 0).1, Go.Proofs.Try.f131.results.toList, 37, [(3, [(1, .bx 100 [.rd (.int .i64), .rd (.int .i64), .rd (.sl (.int .i64))]), (3, .rd (.int .i64))])], [.ag [.d (.int .i64) none, .d (.int .i64) none, .d (.sl (.int .i64)) none]], [.d .bool none]⟩
noncomputable def spec_l2Good.tbl (k : Nat) : Tbl := [(132, spec_l2Color.spec k), (180, spec_l2Side.spec k)]
theorem spec_l2Good.e3 (k : Nat) (o : Nat → St → Option (Bool)) (x0_3 : Int) (x1_3 : Int) (l2_3 : List Int) (x3_3 : Int) : spec_l2Good.T.step tyt (spec_l2Good.tbl k) o 3 (spec_l2Good.S3 x0_3 x1_3 l2_3 x3_3) = spec_l2Good.b3 (fun x0_3 x1_3 l2_3 x3_3 => o 3 (spec_l2Good.S3 x0_3 x1_3 l2_3 x3_3)) k x0_3 x1_3 l2_3 x3_3 := by kernel_rfl
theorem spec_l2Good.e (k : Nat) (o : Nat → St → Option (Bool)) (a0_0 : Int) (a0_1 : Int) (l0_2 : List Int) : spec_l2Good.T.main tyt (spec_l2Good.tbl k) o (a0_0, a0_1, l0_2) = spec_l2Good.m (fun x0_3 x1_3 l2_3 x3_3 => o 3 (spec_l2Good.S3 x0_3 x1_3 l2_3 x3_3)) k a0_0 a0_1 l0_2 := by kernel_rfl
theorem spec_l2Good.ok : spec_l2Good.T.ok = true := by kernel_rfl
theorem spec_l2Good.run (k : Nat) : (∀ (x0_3 : Int) (x1_3 : Int) (l2_3 : List Int) (x3_3 : Int), spec_l2Good.T.run tyt spec_l2Good.tbl k 3 (spec_l2Good.S3 x0_3 x1_3 l2_3 x3_3) = spec_l2Good.l3 k x0_3 x1_3 l2_3 x3_3) := by
  induction k with
  | zero => exact fun x0_3 x1_3 l2_3 x3_3 => rfl
  | succ k ih =>
    exact fun x0_3 x1_3 l2_3 x3_3 => by
      have q3 : (fun x0_3 x1_3 l2_3 x3_3 => spec_l2Good.T.run tyt spec_l2Good.tbl k 3 (spec_l2Good.S3 x0_3 x1_3 l2_3 x3_3)) = spec_l2Good.l3 k := by funext x0_3 x1_3 l2_3 x3_3; exact ih x0_3 x1_3 l2_3 x3_3
      exact (spec_l2Good.e3 k (spec_l2Good.T.run tyt spec_l2Good.tbl k) x0_3 x1_3 l2_3 x3_3).trans (by rw [q3]; rfl)
theorem spec_l2Good.tblok (k : Nat) : TblOk Go.Proofs.Try.prog (spec_l2Good.tbl k) := TblOk.cons (spec_l2Color.sound k) (TblOk.cons (spec_l2Side.sound k) (TblOk.nil _))
theorem spec_l2Good.sound (k : Nat) : Sound Go.Proofs.Try.prog 131 (spec_l2Good.spec k) := by
  have h := fn_ok (F := spec_l2Good.T) (tbl := spec_l2Good.tbl) mixed tyok Go.Proofs.Try.func131 (by kernel_rfl) (c0 := bodyOf Go.Proofs.Try.f131) rfl (conv_code _ _ _) rfl rfl spec_l2Good.ok k (fun j _ => spec_l2Good.tblok j)
  have q3 : (fun x0_3 x1_3 l2_3 x3_3 => spec_l2Good.T.run tyt spec_l2Good.tbl k 3 (spec_l2Good.S3 x0_3 x1_3 l2_3 x3_3)) = spec_l2Good.l3 k := by funext x0_3 x1_3 l2_3 x3_3; exact (spec_l2Good.run k) x0_3 x1_3 l2_3 x3_3
  have e : spec_l2Good.spec k = ⟨spec_l2Good.T.ps, spec_l2Good.T.rs, spec_l2Good.T.ev tyt spec_l2Good.tbl k⟩ := congrArg (FnSpec.mk _ _) (funext fun x => ((spec_l2Good.e k (spec_l2Good.T.run tyt spec_l2Good.tbl k) x.1 x.2.1 x.2.2).trans (by rw [q3]; rfl)).symm)
  rw [e]
  exact h
/-! ### spec_l8Side: function 193 -/
def spec_l8Side.m (k : Nat) (a0 : Int) : Option (Bool) := ((spec_l1In.f k a0 2 8).bind fun r1 => (some r1))
def spec_l8Side.f (k : Nat) (a0 : Int) : Option (Bool) := spec_l8Side.m k a0
noncomputable def spec_l8Side.spec (k : Nat) : FnSpec := ⟨[.d (.int .i64) none], [.d .bool none], fun x => spec_l8Side.f k x⟩
noncomputable def spec_l8Side.T : FnText := ⟨(conv [] (bodyOf Go.Proofs.Try.f193) 0).1, Go.Proofs.Try.f193.results.toList, 5, [], [.d (.int .i64) none], [.d .bool none]⟩
noncomputable def spec_l8Side.tbl (k : Nat) : Tbl := [(134, spec_l1In.spec k)]
theorem spec_l8Side.e (k : Nat) (o : Nat → St → Option (Bool)) (a0 : Int) : spec_l8Side.T.main tyt (spec_l8Side.tbl k) o a0 = spec_l8Side.m k a0 := by kernel_rfl
theorem spec_l8Side.ok : spec_l8Side.T.ok = true := by kernel_rfl
theorem spec_l8Side.tblok (k : Nat) : TblOk Go.Proofs.Try.prog (spec_l8Side.tbl k) := TblOk.cons (spec_l1In.sound k) (TblOk.nil _)
theorem spec_l8Side.sound (k : Nat) : Sound Go.Proofs.Try.prog 193 (spec_l8Side.spec k) := by
  have h := fn_ok (F := spec_l8Side.T) (tbl := spec_l8Side.tbl) mixed tyok Go.Proofs.Try.func193 (by kernel_rfl) (c0 := bodyOf Go.Proofs.Try.f193) rfl (conv_code _ _ _) rfl rfl spec_l8Side.ok k (fun j _ => spec_l8Side.tblok j)
  have e : spec_l8Side.spec k = ⟨spec_l8Side.T.ps, spec_l8Side.T.rs, spec_l8Side.T.ev tyt spec_l8Side.tbl k⟩ := congrArg (FnSpec.mk _ _) (funext fun x => ((spec_l8Side.e k (spec_l8Side.T.run tyt spec_l8Side.tbl k) x).trans (by rfl)).symm)
  rw [e]
  exact h
/-! ### spec_l8Good: function 184 -/
def spec_l8Good.m (k : Nat) (a0_0 : Int) (a0_1 : Int) (l0_2 : List Int) : Option (Bool) := ((spec_l2Good.f k a0_0 a0_1 l0_2).bind fun r1 => (cond r1 ((spec_l8Side.f k a0_0).bind fun r2 => (cond r2 ((spec_l8Side.f k a0_1).bind fun r3 => (some r3)) (some false))) (some false)))
def spec_l8Good.f (k : Nat) (a0_0 : Int) (a0_1 : Int) (l0_2 : List Int) : Option (Bool) := spec_l8Good.m k a0_0 a0_1 l0_2
noncomputable def spec_l8Good.spec (k : Nat) : FnSpec := ⟨[.ag [.d (.int .i64) none, .d (.int .i64) none, .d (.sl (.int .i64)) none]], [.d .bool none], fun x => spec_l8Good.f k x.1 x.2.1 x.2.2⟩
noncomputable def spec_l8Good.T : FnText := ⟨(conv [] (bodyOf Go.Proofs.Try.f184) 0).1, Go.Proofs.Try.f184.results.toList, 15, [], [.ag [.d (.int .i64) none, .d (.int .i64) none, .d (.sl (.int .i64)) none]], [.d .bool none]⟩
noncomputable def spec_l8Good.tbl (k : Nat) : Tbl := [(131, spec_l2Good.spec k), (193, spec_l8Side.spec k)]
theorem spec_l8Good.e (k : Nat) (o : Nat → St → Option (Bool)) (a0_0 : Int) (a0_1 : Int) (l0_2 : List Int) : spec_l8Good.T.main tyt (spec_l8Good.tbl k) o (a0_0, a0_1, l0_2) = spec_l8Good.m k a0_0 a0_1 l0_2 := by kernel_rfl
theorem spec_l8Good.ok : spec_l8Good.T.ok = true := by kernel_rfl
theorem spec_l8Good.tblok (k : Nat) : TblOk Go.Proofs.Try.prog (spec_l8Good.tbl k) := TblOk.cons (spec_l2Good.sound k) (TblOk.cons (spec_l8Side.sound k) (TblOk.nil _))
theorem spec_l8Good.sound (k : Nat) : Sound Go.Proofs.Try.prog 184 (spec_l8Good.spec k) := by
  have h := fn_ok (F := spec_l8Good.T) (tbl := spec_l8Good.tbl) mixed tyok Go.Proofs.Try.func184 (by kernel_rfl) (c0 := bodyOf Go.Proofs.Try.f184) rfl (conv_code _ _ _) rfl rfl spec_l8Good.ok k (fun j _ => spec_l8Good.tblok j)
  have e : spec_l8Good.spec k = ⟨spec_l8Good.T.ps, spec_l8Good.T.rs, spec_l8Good.T.ev tyt spec_l8Good.tbl k⟩ := congrArg (FnSpec.mk _ _) (funext fun x => ((spec_l8Good.e k (spec_l8Good.T.run tyt spec_l8Good.tbl k) x.1 x.2.1 x.2.2).trans (by rfl)).symm)
  rw [e]
  exact h
/-! ### spec_l8Colors: function 191 -/
def spec_l8Colors.b3 (o3 : List Int → Int → Option (Bool)) (k : Nat) (l0_3 : List Int) (x1_3 : Int) : Option (Bool) := (if x1_3 < (l0_3.length : Int) then ((chk l0_3.length x1_3).bind fun i1 => ((spec_l2Color.f k (l0_3.getD i1 0)).bind fun r2 => (cond (!r2) (some false) (o3 l0_3 (w64 (x1_3 + 1)))))) else (some true))
def spec_l8Colors.l3 : Nat → List Int → Int → Option (Bool)
  | 0, _, _ => none
  | k + 1, l0_3, x1_3 => spec_l8Colors.b3 (spec_l8Colors.l3 k) k l0_3 x1_3
def spec_l8Colors.m (o3 : List Int → Int → Option (Bool)) (k : Nat) (l0 : List Int) : Option (Bool) := (o3 l0 0)
def spec_l8Colors.f (k : Nat) (l0 : List Int) : Option (Bool) := spec_l8Colors.m (spec_l8Colors.l3 k) k l0
noncomputable def spec_l8Colors.spec (k : Nat) : FnSpec := ⟨[.d (.sl (.int .i64)) none], [.d .bool none], fun x => spec_l8Colors.f k x⟩
def spec_l8Colors.S3 (l0_3 : List Int) (x1_3 : Int) : St := ⟨[(0, .val (.sl (.int .i64)) l0_3), (3, .val (.int .i64) x1_3)], [], 1000⟩
noncomputable def spec_l8Colors.T : FnText := ⟨(conv [] (bodyOf Go.Proofs.Try.f191) 0).1, Go.Proofs.Try.f191.results.toList, 16, [(3, [(0, .rd (.sl (.int .i64))), (3, .rd (.int .i64))])], [.d (.sl (.int .i64)) none], [.d .bool none]⟩
noncomputable def spec_l8Colors.tbl (k : Nat) : Tbl := [(132, spec_l2Color.spec k)]
theorem spec_l8Colors.e3 (k : Nat) (o : Nat → St → Option (Bool)) (l0_3 : List Int) (x1_3 : Int) : spec_l8Colors.T.step tyt (spec_l8Colors.tbl k) o 3 (spec_l8Colors.S3 l0_3 x1_3) = spec_l8Colors.b3 (fun l0_3 x1_3 => o 3 (spec_l8Colors.S3 l0_3 x1_3)) k l0_3 x1_3 := by kernel_rfl
theorem spec_l8Colors.e (k : Nat) (o : Nat → St → Option (Bool)) (l0 : List Int) : spec_l8Colors.T.main tyt (spec_l8Colors.tbl k) o l0 = spec_l8Colors.m (fun l0_3 x1_3 => o 3 (spec_l8Colors.S3 l0_3 x1_3)) k l0 := by kernel_rfl
theorem spec_l8Colors.ok : spec_l8Colors.T.ok = true := by kernel_rfl
theorem spec_l8Colors.run (k : Nat) : (∀ (l0_3 : List Int) (x1_3 : Int), spec_l8Colors.T.run tyt spec_l8Colors.tbl k 3 (spec_l8Colors.S3 l0_3 x1_3) = spec_l8Colors.l3 k l0_3 x1_3) := by
  induction k with
  | zero => exact fun l0_3 x1_3 => rfl
  | succ k ih =>
    exact fun l0_3 x1_3 => by
      have q3 : (fun l0_3 x1_3 => spec_l8Colors.T.run tyt spec_l8Colors.tbl k 3 (spec_l8Colors.S3 l0_3 x1_3)) = spec_l8Colors.l3 k := by funext l0_3 x1_3; exact ih l0_3 x1_3
      exact (spec_l8Colors.e3 k (spec_l8Colors.T.run tyt spec_l8Colors.tbl k) l0_3 x1_3).trans (by rw [q3]; rfl)
theorem spec_l8Colors.tblok (k : Nat) : TblOk Go.Proofs.Try.prog (spec_l8Colors.tbl k) := TblOk.cons (spec_l2Color.sound k) (TblOk.nil _)
theorem spec_l8Colors.sound (k : Nat) : Sound Go.Proofs.Try.prog 191 (spec_l8Colors.spec k) := by
  have h := fn_ok (F := spec_l8Colors.T) (tbl := spec_l8Colors.tbl) mixed tyok Go.Proofs.Try.func191 (by kernel_rfl) (c0 := bodyOf Go.Proofs.Try.f191) rfl (conv_code _ _ _) rfl rfl spec_l8Colors.ok k (fun j _ => spec_l8Colors.tblok j)
  have q3 : (fun l0_3 x1_3 => spec_l8Colors.T.run tyt spec_l8Colors.tbl k 3 (spec_l8Colors.S3 l0_3 x1_3)) = spec_l8Colors.l3 k := by funext l0_3 x1_3; exact (spec_l8Colors.run k) l0_3 x1_3
  have e : spec_l8Colors.spec k = ⟨spec_l8Colors.T.ps, spec_l8Colors.T.rs, spec_l8Colors.T.ev tyt spec_l8Colors.tbl k⟩ := congrArg (FnSpec.mk _ _) (funext fun x => ((spec_l8Colors.e k (spec_l8Colors.T.run tyt spec_l8Colors.tbl k) x).trans (by rw [q3]; rfl)).symm)
  rw [e]
  exact h
/-! ### spec_l8Pattern: function 211 -/
def spec_l8Pattern.m (k : Nat) (l0 : List Int) : Option (Bool) := ((spec_l8Colors.f k l0).bind fun r1 => (cond r1 ((spec_l1In.f k (l0.length : Int) 1 8).bind fun r2 => (some r2)) (some false)))
def spec_l8Pattern.f (k : Nat) (l0 : List Int) : Option (Bool) := spec_l8Pattern.m k l0
noncomputable def spec_l8Pattern.spec (k : Nat) : FnSpec := ⟨[.d (.sl (.int .i64)) none], [.d .bool none], fun x => spec_l8Pattern.f k x⟩
noncomputable def spec_l8Pattern.T : FnText := ⟨(conv [] (bodyOf Go.Proofs.Try.f211) 0).1, Go.Proofs.Try.f211.results.toList, 10, [], [.d (.sl (.int .i64)) none], [.d .bool none]⟩
noncomputable def spec_l8Pattern.tbl (k : Nat) : Tbl := [(191, spec_l8Colors.spec k), (134, spec_l1In.spec k)]
theorem spec_l8Pattern.e (k : Nat) (o : Nat → St → Option (Bool)) (l0 : List Int) : spec_l8Pattern.T.main tyt (spec_l8Pattern.tbl k) o l0 = spec_l8Pattern.m k l0 := by kernel_rfl
theorem spec_l8Pattern.ok : spec_l8Pattern.T.ok = true := by kernel_rfl
theorem spec_l8Pattern.tblok (k : Nat) : TblOk Go.Proofs.Try.prog (spec_l8Pattern.tbl k) := TblOk.cons (spec_l8Colors.sound k) (TblOk.cons (spec_l1In.sound k) (TblOk.nil _))
theorem spec_l8Pattern.sound (k : Nat) : Sound Go.Proofs.Try.prog 211 (spec_l8Pattern.spec k) := by
  have h := fn_ok (F := spec_l8Pattern.T) (tbl := spec_l8Pattern.tbl) mixed tyok Go.Proofs.Try.func211 (by kernel_rfl) (c0 := bodyOf Go.Proofs.Try.f211) rfl (conv_code _ _ _) rfl rfl spec_l8Pattern.ok k (fun j _ => spec_l8Pattern.tblok j)
  have e : spec_l8Pattern.spec k = ⟨spec_l8Pattern.T.ps, spec_l8Pattern.T.rs, spec_l8Pattern.T.ev tyt spec_l8Pattern.tbl k⟩ := congrArg (FnSpec.mk _ _) (funext fun x => ((spec_l8Pattern.e k (spec_l8Pattern.T.run tyt spec_l8Pattern.tbl k) x).trans (by rfl)).symm)
  rw [e]
  exact h
/-! ### spec_l1Own: function 232 -/
def spec_l1Own.m (k : Nat) (l0 : List Int) : Option (List Int) := ((app 17592186044416 ([] : List (Int)) l0).bind fun l1 => (some l1))
def spec_l1Own.f (k : Nat) (l0 : List Int) : Option (List Int) := spec_l1Own.m k l0
noncomputable def spec_l1Own.spec (k : Nat) : FnSpec := ⟨[.d (.sl (.int .i64)) none], [.d (.sl (.int .i64)) (some 3)], fun x => spec_l1Own.f k x⟩
noncomputable def spec_l1Own.T : FnText := ⟨(conv [] (bodyOf Go.Proofs.Try.f232) 0).1, Go.Proofs.Try.f232.results.toList, 6, [], [.d (.sl (.int .i64)) none], [.d (.sl (.int .i64)) (some 3)]⟩
noncomputable def spec_l1Own.tbl (k : Nat) : Tbl := []
theorem spec_l1Own.e (k : Nat) (o : Nat → St → Option (List Int)) (l0 : List Int) : spec_l1Own.T.main tyt (spec_l1Own.tbl k) o l0 = spec_l1Own.m k l0 := by kernel_rfl
theorem spec_l1Own.ok : spec_l1Own.T.ok = true := by kernel_rfl
theorem spec_l1Own.tblok (k : Nat) : TblOk Go.Proofs.Try.prog (spec_l1Own.tbl k) := TblOk.nil _
theorem spec_l1Own.sound (k : Nat) : Sound Go.Proofs.Try.prog 232 (spec_l1Own.spec k) := by
  have h := fn_ok (F := spec_l1Own.T) (tbl := spec_l1Own.tbl) mixed tyok Go.Proofs.Try.func232 (by kernel_rfl) (c0 := bodyOf Go.Proofs.Try.f232) rfl (conv_code _ _ _) rfl rfl spec_l1Own.ok k (fun j _ => spec_l1Own.tblok j)
  have e : spec_l1Own.spec k = ⟨spec_l1Own.T.ps, spec_l1Own.T.rs, spec_l1Own.T.ev tyt spec_l1Own.tbl k⟩ := congrArg (FnSpec.mk _ _) (funext fun x => ((spec_l1Own.e k (spec_l1Own.T.run tyt spec_l1Own.tbl k) x).trans (by rfl)).symm)
  rw [e]
  exact h
/-! ### spec_l2Own: function 135 -/
def spec_l2Own.m (k : Nat) (a0_0 : Int) (a0_1 : Int) (l0_2 : List Int) : Option (Int × Int × List Int) := ((spec_l1Own.f k l0_2).bind fun r1 => (some (a0_0, a0_1, r1)))
def spec_l2Own.f (k : Nat) (a0_0 : Int) (a0_1 : Int) (l0_2 : List Int) : Option (Int × Int × List Int) := spec_l2Own.m k a0_0 a0_1 l0_2
noncomputable def spec_l2Own.spec (k : Nat) : FnSpec := ⟨[.ag [.d (.int .i64) none, .d (.int .i64) none, .d (.sl (.int .i64)) none]], [.ag [.d (.int .i64) none, .d (.int .i64) none, .d (.sl (.int .i64)) (some 3)]], fun x => spec_l2Own.f k x.1 x.2.1 x.2.2⟩
noncomputable def spec_l2Own.T : FnText := ⟨(conv [] (bodyOf Go.Proofs.Try.f135) 0).1, Go.Proofs.Try.f135.results.toList, 11, [], [.ag [.d (.int .i64) none, .d (.int .i64) none, .d (.sl (.int .i64)) none]], [.ag [.d (.int .i64) none, .d (.int .i64) none, .d (.sl (.int .i64)) (some 3)]]⟩
noncomputable def spec_l2Own.tbl (k : Nat) : Tbl := [(232, spec_l1Own.spec k)]
theorem spec_l2Own.e (k : Nat) (o : Nat → St → Option (Int × Int × List Int)) (a0_0 : Int) (a0_1 : Int) (l0_2 : List Int) : spec_l2Own.T.main tyt (spec_l2Own.tbl k) o (a0_0, a0_1, l0_2) = spec_l2Own.m k a0_0 a0_1 l0_2 := by kernel_rfl
theorem spec_l2Own.ok : spec_l2Own.T.ok = true := by kernel_rfl
theorem spec_l2Own.tblok (k : Nat) : TblOk Go.Proofs.Try.prog (spec_l2Own.tbl k) := TblOk.cons (spec_l1Own.sound k) (TblOk.nil _)
theorem spec_l2Own.sound (k : Nat) : Sound Go.Proofs.Try.prog 135 (spec_l2Own.spec k) := by
  have h := fn_ok (F := spec_l2Own.T) (tbl := spec_l2Own.tbl) mixed tyok Go.Proofs.Try.func135 (by kernel_rfl) (c0 := bodyOf Go.Proofs.Try.f135) rfl (conv_code _ _ _) rfl rfl spec_l2Own.ok k (fun j _ => spec_l2Own.tblok j)
  have e : spec_l2Own.spec k = ⟨spec_l2Own.T.ps, spec_l2Own.T.rs, spec_l2Own.T.ev tyt spec_l2Own.tbl k⟩ := congrArg (FnSpec.mk _ _) (funext fun x => ((spec_l2Own.e k (spec_l2Own.T.run tyt spec_l2Own.tbl k) x.1 x.2.1 x.2.2).trans (by rfl)).symm)
  rw [e]
  exact h
/-! ### spec_l8Places: function 243 -/
def spec_l8Places.b4 (o4 : Int → Int → List Int → Int → Option (List Int)) (o10 : Int → Int → List Int → Int → Option (List Int)) (k : Nat) (x0_4 : Int) (x1_4 : Int) (l2_4 : List Int) (x3_4 : Int) : Option (List Int) := (if x3_4 < x0_4 then ((app 17592186044416 l2_4 [x3_4]).bind fun l1 => (o4 x0_4 x1_4 l1 (w64 (x3_4 + 1)))) else (o10 x0_4 x1_4 l2_4 1))
def spec_l8Places.b10 (o10 : Int → Int → List Int → Int → Option (List Int)) (o16 : Int → Int → List Int → Int → Option (List Int)) (k : Nat) (x0_10 : Int) (x1_10 : Int) (l2_10 : List Int) (x3_10 : Int) : Option (List Int) := (if x3_10 < x1_10 then ((app 17592186044416 l2_10 [(w64 ((w64 ((w64 (x3_10 * x0_10)) + x0_10)) - 1))]).bind fun l2 => (o10 x0_10 x1_10 l2 (w64 (x3_10 + 1)))) else (o16 x0_10 x1_10 l2_10 (w64 (x0_10 - 2))))
def spec_l8Places.b16 (o16 : Int → Int → List Int → Int → Option (List Int)) (o22 : Int → List Int → Int → Option (List Int)) (k : Nat) (x0_16 : Int) (x1_16 : Int) (l2_16 : List Int) (x3_16 : Int) : Option (List Int) := (if 0 ≤ x3_16 then ((app 17592186044416 l2_16 [(w64 ((w64 ((w64 (x1_16 - 1)) * x0_16)) + x3_16))]).bind fun l3 => (o16 x0_16 x1_16 l3 (w64 (x3_16 - 1)))) else (o22 x0_16 l2_16 (w64 (x1_16 - 2))))
def spec_l8Places.b22 (o22 : Int → List Int → Int → Option (List Int)) (k : Nat) (x0_22 : Int) (l1_22 : List Int) (x2_22 : Int) : Option (List Int) := (if 0 < x2_22 then ((app 17592186044416 l1_22 [(w64 (x2_22 * x0_22))]).bind fun l4 => (o22 x0_22 l4 (w64 (x2_22 - 1)))) else (some l1_22))
mutual
def spec_l8Places.l4 : Nat → Int → Int → List Int → Int → Option (List Int)
  | 0, _, _, _, _ => none
  | k + 1, x0_4, x1_4, l2_4, x3_4 => spec_l8Places.b4 (spec_l8Places.l4 k) (spec_l8Places.l10 k) k x0_4 x1_4 l2_4 x3_4
def spec_l8Places.l10 : Nat → Int → Int → List Int → Int → Option (List Int)
  | 0, _, _, _, _ => none
  | k + 1, x0_10, x1_10, l2_10, x3_10 => spec_l8Places.b10 (spec_l8Places.l10 k) (spec_l8Places.l16 k) k x0_10 x1_10 l2_10 x3_10
def spec_l8Places.l16 : Nat → Int → Int → List Int → Int → Option (List Int)
  | 0, _, _, _, _ => none
  | k + 1, x0_16, x1_16, l2_16, x3_16 => spec_l8Places.b16 (spec_l8Places.l16 k) (spec_l8Places.l22 k) k x0_16 x1_16 l2_16 x3_16
def spec_l8Places.l22 : Nat → Int → List Int → Int → Option (List Int)
  | 0, _, _, _ => none
  | k + 1, x0_22, l1_22, x2_22 => spec_l8Places.b22 (spec_l8Places.l22 k) k x0_22 l1_22 x2_22
end
def spec_l8Places.m (o4 : Int → Int → List Int → Int → Option (List Int)) (k : Nat) (a0 : Int) (a1 : Int) : Option (List Int) := (o4 a0 a1 ([] : List (Int)) 0)
def spec_l8Places.f (k : Nat) (a0 : Int) (a1 : Int) : Option (List Int) := spec_l8Places.m (spec_l8Places.l4 k) k a0 a1
noncomputable def spec_l8Places.spec (k : Nat) : FnSpec := ⟨[.d (.int .i64) none, .d (.int .i64) none], [.d (.sl (.int .i64)) (some 3)], fun x => spec_l8Places.f k x.1 x.2⟩
def spec_l8Places.S4 (x0_4 : Int) (x1_4 : Int) (l2_4 : List Int) (x3_4 : Int) : St := ⟨[(0, .val (.int .i64) x0_4), (1, .val (.int .i64) x1_4), (5, .ref 100), (6, .val (.int .i64) x3_4)], [(100, some (.row 3 (.int .i64) l2_4))], 1000⟩
def spec_l8Places.S10 (x0_10 : Int) (x1_10 : Int) (l2_10 : List Int) (x3_10 : Int) : St := ⟨[(0, .val (.int .i64) x0_10), (1, .val (.int .i64) x1_10), (5, .ref 100), (7, .val (.int .i64) x3_10)], [(100, some (.row 3 (.int .i64) l2_10))], 1000⟩
def spec_l8Places.S16 (x0_16 : Int) (x1_16 : Int) (l2_16 : List Int) (x3_16 : Int) : St := ⟨[(0, .val (.int .i64) x0_16), (1, .val (.int .i64) x1_16), (5, .ref 100), (8, .val (.int .i64) x3_16)], [(100, some (.row 3 (.int .i64) l2_16))], 1000⟩
def spec_l8Places.S22 (x0_22 : Int) (l1_22 : List Int) (x2_22 : Int) : St := ⟨[(0, .val (.int .i64) x0_22), (5, .ref 100), (9, .val (.int .i64) x2_22)], [(100, some (.row 3 (.int .i64) l1_22))], 1000⟩
noncomputable def spec_l8Places.T : FnText := ⟨(conv [] (bodyOf Go.Proofs.Try.f243) 0).1, Go.Proofs.Try.f243.results.toList, 62, [(4, [(0, .rd (.int .i64)), (1, .rd (.int .i64)), (5, .own 3 (.int .i64) 100), (6, .rd (.int .i64))]), (10, [(0, .rd (.int .i64)), (1, .rd (.int .i64)), (5, .own 3 (.int .i64) 100), (7, .rd (.int .i64))]), (16, [(0, .rd (.int .i64)), (1, .rd (.int .i64)), (5, .own 3 (.int .i64) 100), (8, .rd (.int .i64))]), (22, [(0, .rd (.int .i64)), (5, .own 3 (.int .i64) 100), (9, .rd (.int .i64))])], [.d (.int .i64) none, .d (.int .i64) none], [.d (.sl (.int .i64)) (some 3)]⟩
noncomputable def spec_l8Places.tbl (k : Nat) : Tbl := []
theorem spec_l8Places.e4 (k : Nat) (o : Nat → St → Option (List Int)) (x0_4 : Int) (x1_4 : Int) (l2_4 : List Int) (x3_4 : Int) : spec_l8Places.T.step tyt (spec_l8Places.tbl k) o 4 (spec_l8Places.S4 x0_4 x1_4 l2_4 x3_4) = spec_l8Places.b4 (fun x0_4 x1_4 l2_4 x3_4 => o 4 (spec_l8Places.S4 x0_4 x1_4 l2_4 x3_4)) (fun x0_10 x1_10 l2_10 x3_10 => o 10 (spec_l8Places.S10 x0_10 x1_10 l2_10 x3_10)) k x0_4 x1_4 l2_4 x3_4 := by kernel_rfl
theorem spec_l8Places.e10 (k : Nat) (o : Nat → St → Option (List Int)) (x0_10 : Int) (x1_10 : Int) (l2_10 : List Int) (x3_10 : Int) : spec_l8Places.T.step tyt (spec_l8Places.tbl k) o 10 (spec_l8Places.S10 x0_10 x1_10 l2_10 x3_10) = spec_l8Places.b10 (fun x0_10 x1_10 l2_10 x3_10 => o 10 (spec_l8Places.S10 x0_10 x1_10 l2_10 x3_10)) (fun x0_16 x1_16 l2_16 x3_16 => o 16 (spec_l8Places.S16 x0_16 x1_16 l2_16 x3_16)) k x0_10 x1_10 l2_10 x3_10 := by kernel_rfl
theorem spec_l8Places.e16 (k : Nat) (o : Nat → St → Option (List Int)) (x0_16 : Int) (x1_16 : Int) (l2_16 : List Int) (x3_16 : Int) : spec_l8Places.T.step tyt (spec_l8Places.tbl k) o 16 (spec_l8Places.S16 x0_16 x1_16 l2_16 x3_16) = spec_l8Places.b16 (fun x0_16 x1_16 l2_16 x3_16 => o 16 (spec_l8Places.S16 x0_16 x1_16 l2_16 x3_16)) (fun x0_22 l1_22 x2_22 => o 22 (spec_l8Places.S22 x0_22 l1_22 x2_22)) k x0_16 x1_16 l2_16 x3_16 := by kernel_rfl
theorem spec_l8Places.e22 (k : Nat) (o : Nat → St → Option (List Int)) (x0_22 : Int) (l1_22 : List Int) (x2_22 : Int) : spec_l8Places.T.step tyt (spec_l8Places.tbl k) o 22 (spec_l8Places.S22 x0_22 l1_22 x2_22) = spec_l8Places.b22 (fun x0_22 l1_22 x2_22 => o 22 (spec_l8Places.S22 x0_22 l1_22 x2_22)) k x0_22 l1_22 x2_22 := by kernel_rfl
theorem spec_l8Places.e (k : Nat) (o : Nat → St → Option (List Int)) (a0 : Int) (a1 : Int) : spec_l8Places.T.main tyt (spec_l8Places.tbl k) o (a0, a1) = spec_l8Places.m (fun x0_4 x1_4 l2_4 x3_4 => o 4 (spec_l8Places.S4 x0_4 x1_4 l2_4 x3_4)) k a0 a1 := by kernel_rfl
theorem spec_l8Places.ok : spec_l8Places.T.ok = true := by kernel_rfl
theorem spec_l8Places.run (k : Nat) : (∀ (x0_4 : Int) (x1_4 : Int) (l2_4 : List Int) (x3_4 : Int), spec_l8Places.T.run tyt spec_l8Places.tbl k 4 (spec_l8Places.S4 x0_4 x1_4 l2_4 x3_4) = spec_l8Places.l4 k x0_4 x1_4 l2_4 x3_4) ∧ (∀ (x0_10 : Int) (x1_10 : Int) (l2_10 : List Int) (x3_10 : Int), spec_l8Places.T.run tyt spec_l8Places.tbl k 10 (spec_l8Places.S10 x0_10 x1_10 l2_10 x3_10) = spec_l8Places.l10 k x0_10 x1_10 l2_10 x3_10) ∧ (∀ (x0_16 : Int) (x1_16 : Int) (l2_16 : List Int) (x3_16 : Int), spec_l8Places.T.run tyt spec_l8Places.tbl k 16 (spec_l8Places.S16 x0_16 x1_16 l2_16 x3_16) = spec_l8Places.l16 k x0_16 x1_16 l2_16 x3_16) ∧ (∀ (x0_22 : Int) (l1_22 : List Int) (x2_22 : Int), spec_l8Places.T.run tyt spec_l8Places.tbl k 22 (spec_l8Places.S22 x0_22 l1_22 x2_22) = spec_l8Places.l22 k x0_22 l1_22 x2_22) := by
  induction k with
  | zero => exact ⟨fun x0_4 x1_4 l2_4 x3_4 => rfl, fun x0_10 x1_10 l2_10 x3_10 => rfl, fun x0_16 x1_16 l2_16 x3_16 => rfl, fun x0_22 l1_22 x2_22 => rfl⟩
  | succ k ih =>
    exact ⟨fun x0_4 x1_4 l2_4 x3_4 => by
      have q4 : (fun x0_4 x1_4 l2_4 x3_4 => spec_l8Places.T.run tyt spec_l8Places.tbl k 4 (spec_l8Places.S4 x0_4 x1_4 l2_4 x3_4)) = spec_l8Places.l4 k := by funext x0_4 x1_4 l2_4 x3_4; exact ih.1 x0_4 x1_4 l2_4 x3_4
      have q10 : (fun x0_10 x1_10 l2_10 x3_10 => spec_l8Places.T.run tyt spec_l8Places.tbl k 10 (spec_l8Places.S10 x0_10 x1_10 l2_10 x3_10)) = spec_l8Places.l10 k := by funext x0_10 x1_10 l2_10 x3_10; exact ih.2.1 x0_10 x1_10 l2_10 x3_10
      exact (spec_l8Places.e4 k (spec_l8Places.T.run tyt spec_l8Places.tbl k) x0_4 x1_4 l2_4 x3_4).trans (by rw [q4, q10]; rfl), fun x0_10 x1_10 l2_10 x3_10 => by
      have q10 : (fun x0_10 x1_10 l2_10 x3_10 => spec_l8Places.T.run tyt spec_l8Places.tbl k 10 (spec_l8Places.S10 x0_10 x1_10 l2_10 x3_10)) = spec_l8Places.l10 k := by funext x0_10 x1_10 l2_10 x3_10; exact ih.2.1 x0_10 x1_10 l2_10 x3_10
      have q16 : (fun x0_16 x1_16 l2_16 x3_16 => spec_l8Places.T.run tyt spec_l8Places.tbl k 16 (spec_l8Places.S16 x0_16 x1_16 l2_16 x3_16)) = spec_l8Places.l16 k := by funext x0_16 x1_16 l2_16 x3_16; exact ih.2.2.1 x0_16 x1_16 l2_16 x3_16
      exact (spec_l8Places.e10 k (spec_l8Places.T.run tyt spec_l8Places.tbl k) x0_10 x1_10 l2_10 x3_10).trans (by rw [q10, q16]; rfl), fun x0_16 x1_16 l2_16 x3_16 => by
      have q16 : (fun x0_16 x1_16 l2_16 x3_16 => spec_l8Places.T.run tyt spec_l8Places.tbl k 16 (spec_l8Places.S16 x0_16 x1_16 l2_16 x3_16)) = spec_l8Places.l16 k := by funext x0_16 x1_16 l2_16 x3_16; exact ih.2.2.1 x0_16 x1_16 l2_16 x3_16
      have q22 : (fun x0_22 l1_22 x2_22 => spec_l8Places.T.run tyt spec_l8Places.tbl k 22 (spec_l8Places.S22 x0_22 l1_22 x2_22)) = spec_l8Places.l22 k := by funext x0_22 l1_22 x2_22; exact ih.2.2.2 x0_22 l1_22 x2_22
      exact (spec_l8Places.e16 k (spec_l8Places.T.run tyt spec_l8Places.tbl k) x0_16 x1_16 l2_16 x3_16).trans (by rw [q16, q22]; rfl), fun x0_22 l1_22 x2_22 => by
      have q22 : (fun x0_22 l1_22 x2_22 => spec_l8Places.T.run tyt spec_l8Places.tbl k 22 (spec_l8Places.S22 x0_22 l1_22 x2_22)) = spec_l8Places.l22 k := by funext x0_22 l1_22 x2_22; exact ih.2.2.2 x0_22 l1_22 x2_22
      exact (spec_l8Places.e22 k (spec_l8Places.T.run tyt spec_l8Places.tbl k) x0_22 l1_22 x2_22).trans (by rw [q22]; rfl)⟩
theorem spec_l8Places.tblok (k : Nat) : TblOk Go.Proofs.Try.prog (spec_l8Places.tbl k) := TblOk.nil _
theorem spec_l8Places.sound (k : Nat) : Sound Go.Proofs.Try.prog 243 (spec_l8Places.spec k) := by
  have h := fn_ok (F := spec_l8Places.T) (tbl := spec_l8Places.tbl) mixed tyok Go.Proofs.Try.func243 (by kernel_rfl) (c0 := bodyOf Go.Proofs.Try.f243) rfl (conv_code _ _ _) rfl rfl spec_l8Places.ok k (fun j _ => spec_l8Places.tblok j)
  have q4 : (fun x0_4 x1_4 l2_4 x3_4 => spec_l8Places.T.run tyt spec_l8Places.tbl k 4 (spec_l8Places.S4 x0_4 x1_4 l2_4 x3_4)) = spec_l8Places.l4 k := by funext x0_4 x1_4 l2_4 x3_4; exact (spec_l8Places.run k).1 x0_4 x1_4 l2_4 x3_4
  have e : spec_l8Places.spec k = ⟨spec_l8Places.T.ps, spec_l8Places.T.rs, spec_l8Places.T.ev tyt spec_l8Places.tbl k⟩ := congrArg (FnSpec.mk _ _) (funext fun x => ((spec_l8Places.e k (spec_l8Places.T.run tyt spec_l8Places.tbl k) x.1 x.2).trans (by rw [q4]; rfl)).symm)
  rw [e]
  exact h
/-! ### spec_l8Put: function 192 -/
def spec_l8Put.b4 (o4 : List Int → Int → Int → List Int → Int → Int → List Int → List Int → Int → Option (Int × Int × List Int)) (k : Nat) (l0_4 : List Int) (x1_4 : Int) (x2_4 : Int) (l3_4 : List Int) (x4_4 : Int) (x5_4 : Int) (l6_4 : List Int) (l7_4 : List Int) (x8_4 : Int) : Option (Int × Int × List Int) := (if x8_4 < (l7_4.length : Int) then ((chk l7_4.length x8_4).bind fun i3 => ((rem x8_4 (l0_4.length : Int)).bind fun q4 => ((chk l0_4.length q4).bind fun i5 => ((chk l6_4.length (l7_4.getD i3 0)).bind fun i6 => (o4 l0_4 x1_4 x2_4 l3_4 x4_4 x5_4 (l6_4.set i6 (l0_4.getD i5 0)) l7_4 (w64 (x8_4 + 1))))))) else (some (x4_4, x5_4, l6_4)))
def spec_l8Put.l4 : Nat → List Int → Int → Int → List Int → Int → Int → List Int → List Int → Int → Option (Int × Int × List Int)
  | 0, _, _, _, _, _, _, _, _, _ => none
  | k + 1, l0_4, x1_4, x2_4, l3_4, x4_4, x5_4, l6_4, l7_4, x8_4 => spec_l8Put.b4 (spec_l8Put.l4 k) k l0_4 x1_4 x2_4 l3_4 x4_4 x5_4 l6_4 l7_4 x8_4
def spec_l8Put.m (o4 : List Int → Int → Int → List Int → Int → Int → List Int → List Int → Int → Option (Int × Int × List Int)) (k : Nat) (a0_0 : Int) (a0_1 : Int) (l0_2 : List Int) (l1 : List Int) : Option (Int × Int × List Int) := ((spec_l2Own.f k a0_0 a0_1 l0_2).bind fun r1 => ((spec_l8Places.f k a0_0 a0_1).bind fun r2 => (o4 l1 0 0 [] r1.1 r1.2.1 r1.2.2 r2 0)))
def spec_l8Put.f (k : Nat) (a0_0 : Int) (a0_1 : Int) (l0_2 : List Int) (l1 : List Int) : Option (Int × Int × List Int) := spec_l8Put.m (spec_l8Put.l4 k) k a0_0 a0_1 l0_2 l1
noncomputable def spec_l8Put.spec (k : Nat) : FnSpec := ⟨[.ag [.d (.int .i64) none, .d (.int .i64) none, .d (.sl (.int .i64)) none], .d (.sl (.int .i64)) none], [.ag [.d (.int .i64) none, .d (.int .i64) none, .d (.sl (.int .i64)) (some 3)]], fun x => spec_l8Put.f k x.1 x.2.1 x.2.2.1 x.2.2.2⟩
def spec_l8Put.S4 (l0_4 : List Int) (x1_4 : Int) (x2_4 : Int) (l3_4 : List Int) (x4_4 : Int) (x5_4 : Int) (l6_4 : List Int) (l7_4 : List Int) (x8_4 : Int) : St := ⟨[(1, .val (.sl (.int .i64)) l0_4), (4, .ptr 100 0), (5, .ptr 101 0), (6, .ref 103), (7, .val (.int .i64) x8_4)], [(103, some (.row 3 (.int .i64) l7_4)), (101, some (.box [.val (.int .i64) x4_4, .val (.int .i64) x5_4, .ref 102])), (102, some (.row 3 (.int .i64) l6_4)), (100, some (.box [.val (.int .i64) x1_4, .val (.int .i64) x2_4, .val (.sl (.int .i64)) l3_4]))], 1000⟩
noncomputable def spec_l8Put.T : FnText := ⟨(conv [] (bodyOf Go.Proofs.Try.f192) 0).1, Go.Proofs.Try.f192.results.toList, 36, [(4, [(1, .rd (.sl (.int .i64))), (4, .bx 100 [.rd (.int .i64), .rd (.int .i64), .rd (.sl (.int .i64))]), (5, .bx 101 [.rd (.int .i64), .rd (.int .i64), .own 3 (.int .i64) 102]), (6, .own 3 (.int .i64) 103), (7, .rd (.int .i64))])], [.ag [.d (.int .i64) none, .d (.int .i64) none, .d (.sl (.int .i64)) none], .d (.sl (.int .i64)) none], [.ag [.d (.int .i64) none, .d (.int .i64) none, .d (.sl (.int .i64)) (some 3)]]⟩
noncomputable def spec_l8Put.tbl (k : Nat) : Tbl := [(135, spec_l2Own.spec k), (243, spec_l8Places.spec k)]
theorem spec_l8Put.e4 (k : Nat) (o : Nat → St → Option (Int × Int × List Int)) (l0_4 : List Int) (x1_4 : Int) (x2_4 : Int) (l3_4 : List Int) (x4_4 : Int) (x5_4 : Int) (l6_4 : List Int) (l7_4 : List Int) (x8_4 : Int) : spec_l8Put.T.step tyt (spec_l8Put.tbl k) o 4 (spec_l8Put.S4 l0_4 x1_4 x2_4 l3_4 x4_4 x5_4 l6_4 l7_4 x8_4) = spec_l8Put.b4 (fun l0_4 x1_4 x2_4 l3_4 x4_4 x5_4 l6_4 l7_4 x8_4 => o 4 (spec_l8Put.S4 l0_4 x1_4 x2_4 l3_4 x4_4 x5_4 l6_4 l7_4 x8_4)) k l0_4 x1_4 x2_4 l3_4 x4_4 x5_4 l6_4 l7_4 x8_4 := by kernel_rfl
theorem spec_l8Put.e (k : Nat) (o : Nat → St → Option (Int × Int × List Int)) (a0_0 : Int) (a0_1 : Int) (l0_2 : List Int) (l1 : List Int) : spec_l8Put.T.main tyt (spec_l8Put.tbl k) o (a0_0, a0_1, l0_2, l1) = spec_l8Put.m (fun l0_4 x1_4 x2_4 l3_4 x4_4 x5_4 l6_4 l7_4 x8_4 => o 4 (spec_l8Put.S4 l0_4 x1_4 x2_4 l3_4 x4_4 x5_4 l6_4 l7_4 x8_4)) k a0_0 a0_1 l0_2 l1 := by kernel_rfl
theorem spec_l8Put.ok : spec_l8Put.T.ok = true := by kernel_rfl
theorem spec_l8Put.run (k : Nat) : (∀ (l0_4 : List Int) (x1_4 : Int) (x2_4 : Int) (l3_4 : List Int) (x4_4 : Int) (x5_4 : Int) (l6_4 : List Int) (l7_4 : List Int) (x8_4 : Int), spec_l8Put.T.run tyt spec_l8Put.tbl k 4 (spec_l8Put.S4 l0_4 x1_4 x2_4 l3_4 x4_4 x5_4 l6_4 l7_4 x8_4) = spec_l8Put.l4 k l0_4 x1_4 x2_4 l3_4 x4_4 x5_4 l6_4 l7_4 x8_4) := by
  induction k with
  | zero => exact fun l0_4 x1_4 x2_4 l3_4 x4_4 x5_4 l6_4 l7_4 x8_4 => rfl
  | succ k ih =>
    exact fun l0_4 x1_4 x2_4 l3_4 x4_4 x5_4 l6_4 l7_4 x8_4 => by
      have q4 : (fun l0_4 x1_4 x2_4 l3_4 x4_4 x5_4 l6_4 l7_4 x8_4 => spec_l8Put.T.run tyt spec_l8Put.tbl k 4 (spec_l8Put.S4 l0_4 x1_4 x2_4 l3_4 x4_4 x5_4 l6_4 l7_4 x8_4)) = spec_l8Put.l4 k := by funext l0_4 x1_4 x2_4 l3_4 x4_4 x5_4 l6_4 l7_4 x8_4; exact ih l0_4 x1_4 x2_4 l3_4 x4_4 x5_4 l6_4 l7_4 x8_4
      exact (spec_l8Put.e4 k (spec_l8Put.T.run tyt spec_l8Put.tbl k) l0_4 x1_4 x2_4 l3_4 x4_4 x5_4 l6_4 l7_4 x8_4).trans (by rw [q4]; rfl)
theorem spec_l8Put.tblok (k : Nat) : TblOk Go.Proofs.Try.prog (spec_l8Put.tbl k) := TblOk.cons (spec_l2Own.sound k) (TblOk.cons (spec_l8Places.sound k) (TblOk.nil _))
theorem spec_l8Put.sound (k : Nat) : Sound Go.Proofs.Try.prog 192 (spec_l8Put.spec k) := by
  have h := fn_ok (F := spec_l8Put.T) (tbl := spec_l8Put.tbl) mixed tyok Go.Proofs.Try.func192 (by kernel_rfl) (c0 := bodyOf Go.Proofs.Try.f192) rfl (conv_code _ _ _) rfl rfl spec_l8Put.ok k (fun j _ => spec_l8Put.tblok j)
  have q4 : (fun l0_4 x1_4 x2_4 l3_4 x4_4 x5_4 l6_4 l7_4 x8_4 => spec_l8Put.T.run tyt spec_l8Put.tbl k 4 (spec_l8Put.S4 l0_4 x1_4 x2_4 l3_4 x4_4 x5_4 l6_4 l7_4 x8_4)) = spec_l8Put.l4 k := by funext l0_4 x1_4 x2_4 l3_4 x4_4 x5_4 l6_4 l7_4 x8_4; exact (spec_l8Put.run k) l0_4 x1_4 x2_4 l3_4 x4_4 x5_4 l6_4 l7_4 x8_4
  have e : spec_l8Put.spec k = ⟨spec_l8Put.T.ps, spec_l8Put.T.rs, spec_l8Put.T.ev tyt spec_l8Put.tbl k⟩ := congrArg (FnSpec.mk _ _) (funext fun x => ((spec_l8Put.e k (spec_l8Put.T.run tyt spec_l8Put.tbl k) x.1 x.2.1 x.2.2.1 x.2.2.2).trans (by rw [q4]; rfl)).symm)
  rw [e]
  exact h
/-! ### spec_l1Cur_ringed: function 181 -/
def spec_l1Cur_ringed.b2 (k : Nat) (l0_2 : List Int) (x1_2 : Int) (x2_2 : Int) (x3_2 : Int) (x4_2 : Int) (l5_2 : List Int) (x6_2 : Int) (x7_2 : Int) (l8_2 : List Int) : Option (Int × Int × List Int × List Int × Int × Int) := ((spec_l1Cur_pattern8.f k l0_2 x1_2 x2_2).bind fun r6 => ((spec_l8Good.f k x6_2 x7_2 l8_2).bind fun r7 => (cond r7 ((spec_l8Pattern.f k r6.1).bind fun r8 => (cond r8 ((spec_l1Cur_one.f k r6.2.1 r6.2.2.1 r6.2.2.2 2).bind fun r9 => (cond r9.1 ((spec_l8Put.f k x6_2 x7_2 l8_2 r6.1).bind fun r10 => (some (r10.1, r10.2.1, r10.2.2, r9.2.1, r9.2.2.1, r9.2.2.2))) (some (x6_2, x7_2, l8_2, r9.2.1, r9.2.2.1, r9.2.2.2)))) (some (x6_2, x7_2, l8_2, r6.2.1, r6.2.2.1, r6.2.2.2)))) (some (x6_2, x7_2, l8_2, r6.2.1, r6.2.2.1, r6.2.2.2)))))
def spec_l1Cur_ringed.l2 : Nat → List Int → Int → Int → Int → Int → List Int → Int → Int → List Int → Option (Int × Int × List Int × List Int × Int × Int)
  | 0, _, _, _, _, _, _, _, _, _ => none
  | k + 1, l0_2, x1_2, x2_2, x3_2, x4_2, l5_2, x6_2, x7_2, l8_2 => spec_l1Cur_ringed.b2 k l0_2 x1_2 x2_2 x3_2 x4_2 l5_2 x6_2 x7_2 l8_2
def spec_l1Cur_ringed.m (o2 : List Int → Int → Int → Int → Int → List Int → Int → Int → List Int → Option (Int × Int × List Int × List Int × Int × Int)) (k : Nat) (l0_0 : List Int) (a0_1 : Int) (a0_2 : Int) : Option (Int × Int × List Int × List Int × Int × Int) := ((spec_l1Cur_among_2.f k l0_0 a0_1 a0_2 [2, 3, 4, 5, 6, 8]).bind fun r1 => ((spec_l1Cur_among_2.f k r1.2.1 r1.2.2.1 r1.2.2.2.1 [2, 3, 4, 5, 8]).bind fun r2 => ((spec_l1Cur_plain.f k r2.2.1 r2.2.2.1 r2.2.2.2.1 r1.1 r2.1).bind fun r3 => ((spec_l1Cur_one.f k r3.2.2.2.1 r3.2.2.2.2.1 r3.2.2.2.2.2 8).bind fun r4 => (cond r4.1 ((spec_l1Cur_chart.f k r4.2.1 r4.2.2.1 r4.2.2.2).bind fun r5 => (o2 r5.2.2.2.1 r5.2.2.2.2.1 r5.2.2.2.2.2 0 0 [] r5.1 r5.2.1 r5.2.2.1)) (o2 r4.2.1 r4.2.2.1 r4.2.2.2 0 0 [] r3.1 r3.2.1 r3.2.2.1))))))
def spec_l1Cur_ringed.f (k : Nat) (l0_0 : List Int) (a0_1 : Int) (a0_2 : Int) : Option (Int × Int × List Int × List Int × Int × Int) := spec_l1Cur_ringed.m (spec_l1Cur_ringed.l2 k) k l0_0 a0_1 a0_2
noncomputable def spec_l1Cur_ringed.spec (k : Nat) : FnSpec := ⟨[.bx [.d (.sl (.int .u8)) none, .d (.int .i64) none, .d (.int .u64) none]], [.ag [.d (.int .i64) none, .d (.int .i64) none, .d (.sl (.int .i64)) (some 3)]], fun x => spec_l1Cur_ringed.f k x.1 x.2.1 x.2.2⟩
def spec_l1Cur_ringed.S2 (l0_2 : List Int) (x1_2 : Int) (x2_2 : Int) (x3_2 : Int) (x4_2 : Int) (l5_2 : List Int) (x6_2 : Int) (x7_2 : Int) (l8_2 : List Int) : St := ⟨[(0, .ptr 0 0), (2, .ptr 100 0), (3, .ptr 101 0)], [(101, some (.box [.val (.int .i64) x6_2, .val (.int .i64) x7_2, .ref 102])), (102, some (.row 3 (.int .i64) l8_2)), (100, some (.box [.val (.int .i64) x3_2, .val (.int .i64) x4_2, .val (.sl (.int .i64)) l5_2])), (0, some (.box [.val (.sl (.int .u8)) l0_2, .val (.int .i64) x1_2, .val (.int .u64) x2_2]))], 1000⟩
noncomputable def spec_l1Cur_ringed.T : FnText := ⟨(conv [2] (bodyOf Go.Proofs.Try.f181) 0).1, Go.Proofs.Try.f181.results.toList, 33, [(2, [(0, .bx 0 [.rd (.sl (.int .u8)), .rd (.int .i64), .rd (.int .u64)]), (2, .bx 100 [.rd (.int .i64), .rd (.int .i64), .rd (.sl (.int .i64))]), (3, .bx 101 [.rd (.int .i64), .rd (.int .i64), .own 3 (.int .i64) 102])])], [.bx [.d (.sl (.int .u8)) none, .d (.int .i64) none, .d (.int .u64) none]], [.ag [.d (.int .i64) none, .d (.int .i64) none, .d (.sl (.int .i64)) (some 3)]]⟩
noncomputable def spec_l1Cur_ringed.tbl (k : Nat) : Tbl := [(164, spec_l1Cur_among_2.spec k), (172, spec_l1Cur_plain.spec k), (173, spec_l1Cur_one.spec k), (153, spec_l1Cur_chart.spec k), (208, spec_l1Cur_pattern8.spec k), (184, spec_l8Good.spec k), (211, spec_l8Pattern.spec k), (192, spec_l8Put.spec k)]
theorem spec_l1Cur_ringed.e2 (k : Nat) (o : Nat → St → Option (Int × Int × List Int × List Int × Int × Int)) (l0_2 : List Int) (x1_2 : Int) (x2_2 : Int) (x3_2 : Int) (x4_2 : Int) (l5_2 : List Int) (x6_2 : Int) (x7_2 : Int) (l8_2 : List Int) : spec_l1Cur_ringed.T.step tyt (spec_l1Cur_ringed.tbl k) o 2 (spec_l1Cur_ringed.S2 l0_2 x1_2 x2_2 x3_2 x4_2 l5_2 x6_2 x7_2 l8_2) = spec_l1Cur_ringed.b2 k l0_2 x1_2 x2_2 x3_2 x4_2 l5_2 x6_2 x7_2 l8_2 := by kernel_rfl
theorem spec_l1Cur_ringed.e (k : Nat) (o : Nat → St → Option (Int × Int × List Int × List Int × Int × Int)) (l0_0 : List Int) (a0_1 : Int) (a0_2 : Int) : spec_l1Cur_ringed.T.main tyt (spec_l1Cur_ringed.tbl k) o (l0_0, a0_1, a0_2) = spec_l1Cur_ringed.m (fun l0_2 x1_2 x2_2 x3_2 x4_2 l5_2 x6_2 x7_2 l8_2 => o 2 (spec_l1Cur_ringed.S2 l0_2 x1_2 x2_2 x3_2 x4_2 l5_2 x6_2 x7_2 l8_2)) k l0_0 a0_1 a0_2 := by kernel_rfl
theorem spec_l1Cur_ringed.ok : spec_l1Cur_ringed.T.ok = true := by kernel_rfl
theorem spec_l1Cur_ringed.run (k : Nat) : (∀ (l0_2 : List Int) (x1_2 : Int) (x2_2 : Int) (x3_2 : Int) (x4_2 : Int) (l5_2 : List Int) (x6_2 : Int) (x7_2 : Int) (l8_2 : List Int), spec_l1Cur_ringed.T.run tyt spec_l1Cur_ringed.tbl k 2 (spec_l1Cur_ringed.S2 l0_2 x1_2 x2_2 x3_2 x4_2 l5_2 x6_2 x7_2 l8_2) = spec_l1Cur_ringed.l2 k l0_2 x1_2 x2_2 x3_2 x4_2 l5_2 x6_2 x7_2 l8_2) := by
  induction k with
  | zero => exact fun l0_2 x1_2 x2_2 x3_2 x4_2 l5_2 x6_2 x7_2 l8_2 => rfl
  | succ k ih =>
    exact fun l0_2 x1_2 x2_2 x3_2 x4_2 l5_2 x6_2 x7_2 l8_2 => by
      exact (spec_l1Cur_ringed.e2 k (spec_l1Cur_ringed.T.run tyt spec_l1Cur_ringed.tbl k) l0_2 x1_2 x2_2 x3_2 x4_2 l5_2 x6_2 x7_2 l8_2).trans (by rfl)
theorem spec_l1Cur_ringed.tblok (k : Nat) : TblOk Go.Proofs.Try.prog (spec_l1Cur_ringed.tbl k) := TblOk.cons (spec_l1Cur_among_2.sound k) (TblOk.cons (spec_l1Cur_plain.sound k) (TblOk.cons (spec_l1Cur_one.sound k) (TblOk.cons (spec_l1Cur_chart.sound k) (TblOk.cons (spec_l1Cur_pattern8.sound k) (TblOk.cons (spec_l8Good.sound k) (TblOk.cons (spec_l8Pattern.sound k) (TblOk.cons (spec_l8Put.sound k) (TblOk.nil _))))))))
theorem spec_l1Cur_ringed.sound (k : Nat) : Sound Go.Proofs.Try.prog 181 (spec_l1Cur_ringed.spec k) := by
  have h := fn_ok (F := spec_l1Cur_ringed.T) (tbl := spec_l1Cur_ringed.tbl) mixed tyok Go.Proofs.Try.func181 (by kernel_rfl) (c0 := bodyOf Go.Proofs.Try.f181) rfl (conv_code _ _ _) rfl rfl spec_l1Cur_ringed.ok k (fun j _ => spec_l1Cur_ringed.tblok j)
  have q2 : (fun l0_2 x1_2 x2_2 x3_2 x4_2 l5_2 x6_2 x7_2 l8_2 => spec_l1Cur_ringed.T.run tyt spec_l1Cur_ringed.tbl k 2 (spec_l1Cur_ringed.S2 l0_2 x1_2 x2_2 x3_2 x4_2 l5_2 x6_2 x7_2 l8_2)) = spec_l1Cur_ringed.l2 k := by funext l0_2 x1_2 x2_2 x3_2 x4_2 l5_2 x6_2 x7_2 l8_2; exact (spec_l1Cur_ringed.run k) l0_2 x1_2 x2_2 x3_2 x4_2 l5_2 x6_2 x7_2 l8_2
  have e : spec_l1Cur_ringed.spec k = ⟨spec_l1Cur_ringed.T.ps, spec_l1Cur_ringed.T.rs, spec_l1Cur_ringed.T.ev tyt spec_l1Cur_ringed.tbl k⟩ := congrArg (FnSpec.mk _ _) (funext fun x => ((spec_l1Cur_ringed.e k (spec_l1Cur_ringed.T.run tyt spec_l1Cur_ringed.tbl k) x.1 x.2.1 x.2.2).trans (by rw [q2]; rfl)).symm)
  rw [e]
  exact h
/-! ### spec_DrawRingOf: function 65 -/
def spec_DrawRingOf.m (k : Nat) (l0 : List Int) : Option (Int × Int × List Int) := ((spec_l1Cur_ringed.f k l0 0 0).bind fun r1 => (some (r1.1, r1.2.1, r1.2.2.1)))
def spec_DrawRingOf.f (k : Nat) (l0 : List Int) : Option (Int × Int × List Int) := spec_DrawRingOf.m k l0
noncomputable def spec_DrawRingOf.spec (k : Nat) : FnSpec := ⟨[.d (.sl (.int .u8)) none], [.ag [.d (.int .i64) none, .d (.int .i64) none, .d (.sl (.int .i64)) (some 3)]], fun x => spec_DrawRingOf.f k x⟩
noncomputable def spec_DrawRingOf.T : FnText := ⟨(conv [] (bodyOf Go.Proofs.Try.f65) 0).1, Go.Proofs.Try.f65.results.toList, 9, [], [.d (.sl (.int .u8)) none], [.ag [.d (.int .i64) none, .d (.int .i64) none, .d (.sl (.int .i64)) (some 3)]]⟩
noncomputable def spec_DrawRingOf.tbl (k : Nat) : Tbl := [(181, spec_l1Cur_ringed.spec k)]
theorem spec_DrawRingOf.e (k : Nat) (o : Nat → St → Option (Int × Int × List Int)) (l0 : List Int) : spec_DrawRingOf.T.main tyt (spec_DrawRingOf.tbl k) o l0 = spec_DrawRingOf.m k l0 := by kernel_rfl
theorem spec_DrawRingOf.ok : spec_DrawRingOf.T.ok = true := by kernel_rfl
theorem spec_DrawRingOf.tblok (k : Nat) : TblOk Go.Proofs.Try.prog (spec_DrawRingOf.tbl k) := TblOk.cons (spec_l1Cur_ringed.sound k) (TblOk.nil _)
theorem spec_DrawRingOf.sound (k : Nat) : Sound Go.Proofs.Try.prog 65 (spec_DrawRingOf.spec k) := by
  have h := fn_ok (F := spec_DrawRingOf.T) (tbl := spec_DrawRingOf.tbl) mixed tyok Go.Proofs.Try.func65 (by kernel_rfl) (c0 := bodyOf Go.Proofs.Try.f65) rfl (conv_code _ _ _) rfl rfl spec_DrawRingOf.ok k (fun j _ => spec_DrawRingOf.tblok j)
  have e : spec_DrawRingOf.spec k = ⟨spec_DrawRingOf.T.ps, spec_DrawRingOf.T.rs, spec_DrawRingOf.T.ev tyt spec_DrawRingOf.tbl k⟩ := congrArg (FnSpec.mk _ _) (funext fun x => ((spec_DrawRingOf.e k (spec_DrawRingOf.T.run tyt spec_DrawRingOf.tbl k) x).trans (by rfl)).symm)
  rw [e]
  exact h
/-! ### impl_in: function 139 -/
def impl_in.m (k : Nat) (a0 : Int) (a1 : Int) (a2 : Int) : Option (Bool) := (if a1 ≤ a0 then (some (decide (a0 ≤ a2))) else (some false))
def impl_in.f (k : Nat) (a0 : Int) (a1 : Int) (a2 : Int) : Option (Bool) := impl_in.m k a0 a1 a2
noncomputable def impl_in.spec (k : Nat) : FnSpec := ⟨[.d (.int .i64) none, .d (.int .i64) none, .d (.int .i64) none], [.d .bool none], fun x => impl_in.f k x.1 x.2.1 x.2.2⟩
noncomputable def impl_in.T : FnText := ⟨(conv [] (bodyOf Go.Proofs.Try.f139) 0).1, Go.Proofs.Try.f139.results.toList, 15, [], [.d (.int .i64) none, .d (.int .i64) none, .d (.int .i64) none], [.d .bool none]⟩
noncomputable def impl_in.tbl (k : Nat) : Tbl := []
theorem impl_in.e (k : Nat) (o : Nat → St → Option (Bool)) (a0 : Int) (a1 : Int) (a2 : Int) : impl_in.T.main tyt (impl_in.tbl k) o (a0, a1, a2) = impl_in.m k a0 a1 a2 := by kernel_rfl
theorem impl_in.ok : impl_in.T.ok = true := by kernel_rfl
theorem impl_in.tblok (k : Nat) : TblOk Go.Proofs.Try.prog (impl_in.tbl k) := TblOk.nil _
theorem impl_in.sound (k : Nat) : Sound Go.Proofs.Try.prog 139 (impl_in.spec k) := by
  have h := fn_ok (F := impl_in.T) (tbl := impl_in.tbl) mixed tyok Go.Proofs.Try.func139 (by kernel_rfl) (c0 := bodyOf Go.Proofs.Try.f139) rfl (conv_code _ _ _) rfl rfl impl_in.ok k (fun j _ => impl_in.tblok j)
  have e : impl_in.spec k = ⟨impl_in.T.ps, impl_in.T.rs, impl_in.T.ev tyt impl_in.tbl k⟩ := congrArg (FnSpec.mk _ _) (funext fun x => ((impl_in.e k (impl_in.T.run tyt impl_in.tbl k) x.1 x.2.1 x.2.2).trans (by rfl)).symm)
  rw [e]
  exact h
/-! ### impl_isSide: function 157 -/
def impl_isSide.m (k : Nat) (a0 : Int) : Option (Bool) := ((impl_in.f k a0 1 8).bind fun r1 => (some r1))
def impl_isSide.f (k : Nat) (a0 : Int) : Option (Bool) := impl_isSide.m k a0
noncomputable def impl_isSide.spec (k : Nat) : FnSpec := ⟨[.d (.int .i64) none], [.d .bool none], fun x => impl_isSide.f k x⟩
noncomputable def impl_isSide.T : FnText := ⟨(conv [] (bodyOf Go.Proofs.Try.f157) 0).1, Go.Proofs.Try.f157.results.toList, 5, [], [.d (.int .i64) none], [.d .bool none]⟩
noncomputable def impl_isSide.tbl (k : Nat) : Tbl := [(139, impl_in.spec k)]
theorem impl_isSide.e (k : Nat) (o : Nat → St → Option (Bool)) (a0 : Int) : impl_isSide.T.main tyt (impl_isSide.tbl k) o a0 = impl_isSide.m k a0 := by kernel_rfl
theorem impl_isSide.ok : impl_isSide.T.ok = true := by kernel_rfl
theorem impl_isSide.tblok (k : Nat) : TblOk Go.Proofs.Try.prog (impl_isSide.tbl k) := TblOk.cons (impl_in.sound k) (TblOk.nil _)
theorem impl_isSide.sound (k : Nat) : Sound Go.Proofs.Try.prog 157 (impl_isSide.spec k) := by
  have h := fn_ok (F := impl_isSide.T) (tbl := impl_isSide.tbl) mixed tyok Go.Proofs.Try.func157 (by kernel_rfl) (c0 := bodyOf Go.Proofs.Try.f157) rfl (conv_code _ _ _) rfl rfl impl_isSide.ok k (fun j _ => impl_isSide.tblok j)
  have e : impl_isSide.spec k = ⟨impl_isSide.T.ps, impl_isSide.T.rs, impl_isSide.T.ev tyt impl_isSide.tbl k⟩ := congrArg (FnSpec.mk _ _) (funext fun x => ((impl_isSide.e k (impl_isSide.T.run tyt impl_isSide.tbl k) x).trans (by rfl)).symm)
  rw [e]
  exact h
/-! ### impl_isColor: function 137 -/
def impl_isColor.m (k : Nat) (a0 : Int) : Option (Bool) := ((impl_in.f k a0 0 5).bind fun r1 => (some r1))
def impl_isColor.f (k : Nat) (a0 : Int) : Option (Bool) := impl_isColor.m k a0
noncomputable def impl_isColor.spec (k : Nat) : FnSpec := ⟨[.d (.int .i64) none], [.d .bool none], fun x => impl_isColor.f k x⟩
noncomputable def impl_isColor.T : FnText := ⟨(conv [] (bodyOf Go.Proofs.Try.f137) 0).1, Go.Proofs.Try.f137.results.toList, 5, [], [.d (.int .i64) none], [.d .bool none]⟩
noncomputable def impl_isColor.tbl (k : Nat) : Tbl := [(139, impl_in.spec k)]
theorem impl_isColor.e (k : Nat) (o : Nat → St → Option (Bool)) (a0 : Int) : impl_isColor.T.main tyt (impl_isColor.tbl k) o a0 = impl_isColor.m k a0 := by kernel_rfl
theorem impl_isColor.ok : impl_isColor.T.ok = true := by kernel_rfl
theorem impl_isColor.tblok (k : Nat) : TblOk Go.Proofs.Try.prog (impl_isColor.tbl k) := TblOk.cons (impl_in.sound k) (TblOk.nil _)
theorem impl_isColor.sound (k : Nat) : Sound Go.Proofs.Try.prog 137 (impl_isColor.spec k) := by
  have h := fn_ok (F := impl_isColor.T) (tbl := impl_isColor.tbl) mixed tyok Go.Proofs.Try.func137 (by kernel_rfl) (c0 := bodyOf Go.Proofs.Try.f137) rfl (conv_code _ _ _) rfl rfl impl_isColor.ok k (fun j _ => impl_isColor.tblok j)
  have e : impl_isColor.spec k = ⟨impl_isColor.T.ps, impl_isColor.T.rs, impl_isColor.T.ev tyt impl_isColor.tbl k⟩ := congrArg (FnSpec.mk _ _) (funext fun x => ((impl_isColor.e k (impl_isColor.T.run tyt impl_isColor.tbl k) x).trans (by rfl)).symm)
  rw [e]
  exact h
/-! ### impl_areAll_int_1__impl_isColor: function 239 -/
def impl_areAll_int_1__impl_isColor.m (k : Nat) (a0 : Int) : Option (Bool) := ((impl_isColor.f k a0).bind fun r1 => (some (!r1)))
def impl_areAll_int_1__impl_isColor.f (k : Nat) (a0 : Int) : Option (Bool) := impl_areAll_int_1__impl_isColor.m k a0
noncomputable def impl_areAll_int_1__impl_isColor.spec (k : Nat) : FnSpec := ⟨[.d (.int .i64) none, .rb [.fv 137 [] []]], [.d .bool none], fun x => impl_areAll_int_1__impl_isColor.f k x⟩
noncomputable def impl_areAll_int_1__impl_isColor.T : FnText := ⟨(conv [] (bodyOf Go.Proofs.Try.f239) 0).1, Go.Proofs.Try.f239.results.toList, 8, [], [.d (.int .i64) none, .rb [.fv 137 [] []]], [.d .bool none]⟩
noncomputable def impl_areAll_int_1__impl_isColor.tbl (k : Nat) : Tbl := [(137, impl_isColor.spec k)]
theorem impl_areAll_int_1__impl_isColor.e (k : Nat) (o : Nat → St → Option (Bool)) (a0 : Int) : impl_areAll_int_1__impl_isColor.T.main tyt (impl_areAll_int_1__impl_isColor.tbl k) o a0 = impl_areAll_int_1__impl_isColor.m k a0 := by kernel_rfl
theorem impl_areAll_int_1__impl_isColor.ok : impl_areAll_int_1__impl_isColor.T.ok = true := by kernel_rfl
theorem impl_areAll_int_1__impl_isColor.tblok (k : Nat) : TblOk Go.Proofs.Try.prog (impl_areAll_int_1__impl_isColor.tbl k) := TblOk.cons (impl_isColor.sound k) (TblOk.nil _)
theorem impl_areAll_int_1__impl_isColor.sound (k : Nat) : Sound Go.Proofs.Try.prog 239 (impl_areAll_int_1__impl_isColor.spec k) := by
  have h := fn_ok (F := impl_areAll_int_1__impl_isColor.T) (tbl := impl_areAll_int_1__impl_isColor.tbl) mixed tyok Go.Proofs.Try.func239 (by kernel_rfl) (c0 := bodyOf Go.Proofs.Try.f239) rfl (conv_code _ _ _) rfl rfl impl_areAll_int_1__impl_isColor.ok k (fun j _ => impl_areAll_int_1__impl_isColor.tblok j)
  have e : impl_areAll_int_1__impl_isColor.spec k = ⟨impl_areAll_int_1__impl_isColor.T.ps, impl_areAll_int_1__impl_isColor.T.rs, impl_areAll_int_1__impl_isColor.T.ev tyt impl_areAll_int_1__impl_isColor.tbl k⟩ := congrArg (FnSpec.mk _ _) (funext fun x => ((impl_areAll_int_1__impl_isColor.e k (impl_areAll_int_1__impl_isColor.T.run tyt impl_areAll_int_1__impl_isColor.tbl k) x).trans (by rfl)).symm)
  rw [e]
  exact h
/-! ### slices_IndexFunc_int_int__impl_areAll_int_1__impl_isColor: function 256 -/
def slices_IndexFunc_int_int__impl_areAll_int_1__impl_isColor.b3 (o3 : List Int → Int → Int → Option (Int)) (k : Nat) (l0_3 : List Int) (x1_3 : Int) (x2_3 : Int) : Option (Int) := (if x2_3 < x1_3 then ((chk l0_3.length x2_3).bind fun i1 => ((impl_areAll_int_1__impl_isColor.f k (l0_3.getD i1 0)).bind fun r2 => (cond r2 (some x2_3) (o3 l0_3 x1_3 (w64 (x2_3 + 1)))))) else (some (-1)))
def slices_IndexFunc_int_int__impl_areAll_int_1__impl_isColor.l3 : Nat → List Int → Int → Int → Option (Int)
  | 0, _, _, _ => none
  | k + 1, l0_3, x1_3, x2_3 => slices_IndexFunc_int_int__impl_areAll_int_1__impl_isColor.b3 (slices_IndexFunc_int_int__impl_areAll_int_1__impl_isColor.l3 k) k l0_3 x1_3 x2_3
def slices_IndexFunc_int_int__impl_areAll_int_1__impl_isColor.m (o3 : List Int → Int → Int → Option (Int)) (k : Nat) (l0 : List Int) : Option (Int) := (o3 l0 (l0.length : Int) 0)
def slices_IndexFunc_int_int__impl_areAll_int_1__impl_isColor.f (k : Nat) (l0 : List Int) : Option (Int) := slices_IndexFunc_int_int__impl_areAll_int_1__impl_isColor.m (slices_IndexFunc_int_int__impl_areAll_int_1__impl_isColor.l3 k) k l0
noncomputable def slices_IndexFunc_int_int__impl_areAll_int_1__impl_isColor.spec (k : Nat) : FnSpec := ⟨[.d (.sl (.int .i64)) none, .fv 239 [] [.rb [.fv 137 [] []]]], [.d (.int .i64) none], fun x => slices_IndexFunc_int_int__impl_areAll_int_1__impl_isColor.f k x⟩
def slices_IndexFunc_int_int__impl_areAll_int_1__impl_isColor.S3 (l0_3 : List Int) (x1_3 : Int) (x2_3 : Int) : St := ⟨[(0, .val (.sl (.int .i64)) l0_3), (1, .fn 239 [] [.cptr [.fn 137 [] []] 0]), (7, .val (.int .i64) x1_3), (8, .val (.int .i64) x2_3)], [], 1000⟩
noncomputable def slices_IndexFunc_int_int__impl_areAll_int_1__impl_isColor.T : FnText := ⟨(conv [] (bodyOf Go.Proofs.Try.f256) 0).1, Go.Proofs.Try.f256.results.toList, 19, [(3, [(0, .rd (.sl (.int .i64))), (1, .as), (7, .rd (.int .i64)), (8, .rd (.int .i64))])], [.d (.sl (.int .i64)) none, .fv 239 [] [.rb [.fv 137 [] []]]], [.d (.int .i64) none]⟩
noncomputable def slices_IndexFunc_int_int__impl_areAll_int_1__impl_isColor.tbl (k : Nat) : Tbl := [(239, impl_areAll_int_1__impl_isColor.spec k)]
theorem slices_IndexFunc_int_int__impl_areAll_int_1__impl_isColor.e3 (k : Nat) (o : Nat → St → Option (Int)) (l0_3 : List Int) (x1_3 : Int) (x2_3 : Int) : slices_IndexFunc_int_int__impl_areAll_int_1__impl_isColor.T.step tyt (slices_IndexFunc_int_int__impl_areAll_int_1__impl_isColor.tbl k) o 3 (slices_IndexFunc_int_int__impl_areAll_int_1__impl_isColor.S3 l0_3 x1_3 x2_3) = slices_IndexFunc_int_int__impl_areAll_int_1__impl_isColor.b3 (fun l0_3 x1_3 x2_3 => o 3 (slices_IndexFunc_int_int__impl_areAll_int_1__impl_isColor.S3 l0_3 x1_3 x2_3)) k l0_3 x1_3 x2_3 := by kernel_rfl
theorem slices_IndexFunc_int_int__impl_areAll_int_1__impl_isColor.e (k : Nat) (o : Nat → St → Option (Int)) (l0 : List Int) : slices_IndexFunc_int_int__impl_areAll_int_1__impl_isColor.T.main tyt (slices_IndexFunc_int_int__impl_areAll_int_1__impl_isColor.tbl k) o l0 = slices_IndexFunc_int_int__impl_areAll_int_1__impl_isColor.m (fun l0_3 x1_3 x2_3 => o 3 (slices_IndexFunc_int_int__impl_areAll_int_1__impl_isColor.S3 l0_3 x1_3 x2_3)) k l0 := by kernel_rfl
theorem slices_IndexFunc_int_int__impl_areAll_int_1__impl_isColor.ok : slices_IndexFunc_int_int__impl_areAll_int_1__impl_isColor.T.ok = true := by kernel_rfl
theorem slices_IndexFunc_int_int__impl_areAll_int_1__impl_isColor.run (k : Nat) : (∀ (l0_3 : List Int) (x1_3 : Int) (x2_3 : Int), slices_IndexFunc_int_int__impl_areAll_int_1__impl_isColor.T.run tyt slices_IndexFunc_int_int__impl_areAll_int_1__impl_isColor.tbl k 3 (slices_IndexFunc_int_int__impl_areAll_int_1__impl_isColor.S3 l0_3 x1_3 x2_3) = slices_IndexFunc_int_int__impl_areAll_int_1__impl_isColor.l3 k l0_3 x1_3 x2_3) := by
  induction k with
  | zero => exact fun l0_3 x1_3 x2_3 => rfl
  | succ k ih =>
    exact fun l0_3 x1_3 x2_3 => by
      have q3 : (fun l0_3 x1_3 x2_3 => slices_IndexFunc_int_int__impl_areAll_int_1__impl_isColor.T.run tyt slices_IndexFunc_int_int__impl_areAll_int_1__impl_isColor.tbl k 3 (slices_IndexFunc_int_int__impl_areAll_int_1__impl_isColor.S3 l0_3 x1_3 x2_3)) = slices_IndexFunc_int_int__impl_areAll_int_1__impl_isColor.l3 k := by funext l0_3 x1_3 x2_3; exact ih l0_3 x1_3 x2_3
      exact (slices_IndexFunc_int_int__impl_areAll_int_1__impl_isColor.e3 k (slices_IndexFunc_int_int__impl_areAll_int_1__impl_isColor.T.run tyt slices_IndexFunc_int_int__impl_areAll_int_1__impl_isColor.tbl k) l0_3 x1_3 x2_3).trans (by rw [q3]; rfl)
theorem slices_IndexFunc_int_int__impl_areAll_int_1__impl_isColor.tblok (k : Nat) : TblOk Go.Proofs.Try.prog (slices_IndexFunc_int_int__impl_areAll_int_1__impl_isColor.tbl k) := TblOk.cons (impl_areAll_int_1__impl_isColor.sound k) (TblOk.nil _)
theorem slices_IndexFunc_int_int__impl_areAll_int_1__impl_isColor.sound (k : Nat) : Sound Go.Proofs.Try.prog 256 (slices_IndexFunc_int_int__impl_areAll_int_1__impl_isColor.spec k) := by
  have h := fn_ok (F := slices_IndexFunc_int_int__impl_areAll_int_1__impl_isColor.T) (tbl := slices_IndexFunc_int_int__impl_areAll_int_1__impl_isColor.tbl) mixed tyok Go.Proofs.Try.func256 (by kernel_rfl) (c0 := bodyOf Go.Proofs.Try.f256) rfl (conv_code _ _ _) rfl rfl slices_IndexFunc_int_int__impl_areAll_int_1__impl_isColor.ok k (fun j _ => slices_IndexFunc_int_int__impl_areAll_int_1__impl_isColor.tblok j)
  have q3 : (fun l0_3 x1_3 x2_3 => slices_IndexFunc_int_int__impl_areAll_int_1__impl_isColor.T.run tyt slices_IndexFunc_int_int__impl_areAll_int_1__impl_isColor.tbl k 3 (slices_IndexFunc_int_int__impl_areAll_int_1__impl_isColor.S3 l0_3 x1_3 x2_3)) = slices_IndexFunc_int_int__impl_areAll_int_1__impl_isColor.l3 k := by funext l0_3 x1_3 x2_3; exact (slices_IndexFunc_int_int__impl_areAll_int_1__impl_isColor.run k) l0_3 x1_3 x2_3
  have e : slices_IndexFunc_int_int__impl_areAll_int_1__impl_isColor.spec k = ⟨slices_IndexFunc_int_int__impl_areAll_int_1__impl_isColor.T.ps, slices_IndexFunc_int_int__impl_areAll_int_1__impl_isColor.T.rs, slices_IndexFunc_int_int__impl_areAll_int_1__impl_isColor.T.ev tyt slices_IndexFunc_int_int__impl_areAll_int_1__impl_isColor.tbl k⟩ := congrArg (FnSpec.mk _ _) (funext fun x => ((slices_IndexFunc_int_int__impl_areAll_int_1__impl_isColor.e k (slices_IndexFunc_int_int__impl_areAll_int_1__impl_isColor.T.run tyt slices_IndexFunc_int_int__impl_areAll_int_1__impl_isColor.tbl k) x).trans (by rw [q3]; rfl)).symm)
  rw [e]
  exact h
/-! ### slices_ContainsFunc_int_int__impl_areAll_int_1__impl_isColor: function 238 -/
def slices_ContainsFunc_int_int__impl_areAll_int_1__impl_isColor.m (k : Nat) (l0 : List Int) : Option (Bool) := ((slices_IndexFunc_int_int__impl_areAll_int_1__impl_isColor.f k l0).bind fun r1 => (some (decide (0 ≤ r1))))
def slices_ContainsFunc_int_int__impl_areAll_int_1__impl_isColor.f (k : Nat) (l0 : List Int) : Option (Bool) := slices_ContainsFunc_int_int__impl_areAll_int_1__impl_isColor.m k l0
noncomputable def slices_ContainsFunc_int_int__impl_areAll_int_1__impl_isColor.spec (k : Nat) : FnSpec := ⟨[.d (.sl (.int .i64)) none, .fv 239 [] [.rb [.fv 137 [] []]]], [.d .bool none], fun x => slices_ContainsFunc_int_int__impl_areAll_int_1__impl_isColor.f k x⟩
noncomputable def slices_ContainsFunc_int_int__impl_areAll_int_1__impl_isColor.T : FnText := ⟨(conv [] (bodyOf Go.Proofs.Try.f238) 0).1, Go.Proofs.Try.f238.results.toList, 9, [], [.d (.sl (.int .i64)) none, .fv 239 [] [.rb [.fv 137 [] []]]], [.d .bool none]⟩
noncomputable def slices_ContainsFunc_int_int__impl_areAll_int_1__impl_isColor.tbl (k : Nat) : Tbl := [(256, slices_IndexFunc_int_int__impl_areAll_int_1__impl_isColor.spec k)]
theorem slices_ContainsFunc_int_int__impl_areAll_int_1__impl_isColor.e (k : Nat) (o : Nat → St → Option (Bool)) (l0 : List Int) : slices_ContainsFunc_int_int__impl_areAll_int_1__impl_isColor.T.main tyt (slices_ContainsFunc_int_int__impl_areAll_int_1__impl_isColor.tbl k) o l0 = slices_ContainsFunc_int_int__impl_areAll_int_1__impl_isColor.m k l0 := by kernel_rfl
theorem slices_ContainsFunc_int_int__impl_areAll_int_1__impl_isColor.ok : slices_ContainsFunc_int_int__impl_areAll_int_1__impl_isColor.T.ok = true := by kernel_rfl
theorem slices_ContainsFunc_int_int__impl_areAll_int_1__impl_isColor.tblok (k : Nat) : TblOk Go.Proofs.Try.prog (slices_ContainsFunc_int_int__impl_areAll_int_1__impl_isColor.tbl k) := TblOk.cons (slices_IndexFunc_int_int__impl_areAll_int_1__impl_isColor.sound k) (TblOk.nil _)
theorem slices_ContainsFunc_int_int__impl_areAll_int_1__impl_isColor.sound (k : Nat) : Sound Go.Proofs.Try.prog 238 (slices_ContainsFunc_int_int__impl_areAll_int_1__impl_isColor.spec k) := by
  have h := fn_ok (F := slices_ContainsFunc_int_int__impl_areAll_int_1__impl_isColor.T) (tbl := slices_ContainsFunc_int_int__impl_areAll_int_1__impl_isColor.tbl) mixed tyok Go.Proofs.Try.func238 (by kernel_rfl) (c0 := bodyOf Go.Proofs.Try.f238) rfl (conv_code _ _ _) rfl rfl slices_ContainsFunc_int_int__impl_areAll_int_1__impl_isColor.ok k (fun j _ => slices_ContainsFunc_int_int__impl_areAll_int_1__impl_isColor.tblok j)
  have e : slices_ContainsFunc_int_int__impl_areAll_int_1__impl_isColor.spec k = ⟨slices_ContainsFunc_int_int__impl_areAll_int_1__impl_isColor.T.ps, slices_ContainsFunc_int_int__impl_areAll_int_1__impl_isColor.T.rs, slices_ContainsFunc_int_int__impl_areAll_int_1__impl_isColor.T.ev tyt slices_ContainsFunc_int_int__impl_areAll_int_1__impl_isColor.tbl k⟩ := congrArg (FnSpec.mk _ _) (funext fun x => ((slices_ContainsFunc_int_int__impl_areAll_int_1__impl_isColor.e k (slices_ContainsFunc_int_int__impl_areAll_int_1__impl_isColor.T.run tyt slices_ContainsFunc_int_int__impl_areAll_int_1__impl_isColor.tbl k) x).trans (by rfl)).symm)
  rw [e]
  exact h
/-! ### impl_areAll_int__impl_isColor: function 158 -/
def impl_areAll_int__impl_isColor.m (k : Nat) (l0 : List Int) : Option (Bool) := ((slices_ContainsFunc_int_int__impl_areAll_int_1__impl_isColor.f k l0).bind fun r1 => (some (!r1)))
def impl_areAll_int__impl_isColor.f (k : Nat) (l0 : List Int) : Option (Bool) := impl_areAll_int__impl_isColor.m k l0
noncomputable def impl_areAll_int__impl_isColor.spec (k : Nat) : FnSpec := ⟨[.d (.sl (.int .i64)) none, .fv 137 [] []], [.d .bool none], fun x => impl_areAll_int__impl_isColor.f k x⟩
noncomputable def impl_areAll_int__impl_isColor.T : FnText := ⟨(conv [] (bodyOf Go.Proofs.Try.f158) 0).1, Go.Proofs.Try.f158.results.toList, 9, [], [.d (.sl (.int .i64)) none, .fv 137 [] []], [.d .bool none]⟩
noncomputable def impl_areAll_int__impl_isColor.tbl (k : Nat) : Tbl := [(238, slices_ContainsFunc_int_int__impl_areAll_int_1__impl_isColor.spec k)]
theorem impl_areAll_int__impl_isColor.e (k : Nat) (o : Nat → St → Option (Bool)) (l0 : List Int) : impl_areAll_int__impl_isColor.T.main tyt (impl_areAll_int__impl_isColor.tbl k) o l0 = impl_areAll_int__impl_isColor.m k l0 := by kernel_rfl
theorem impl_areAll_int__impl_isColor.ok : impl_areAll_int__impl_isColor.T.ok = true := by kernel_rfl
theorem impl_areAll_int__impl_isColor.tblok (k : Nat) : TblOk Go.Proofs.Try.prog (impl_areAll_int__impl_isColor.tbl k) := TblOk.cons (slices_ContainsFunc_int_int__impl_areAll_int_1__impl_isColor.sound k) (TblOk.nil _)
theorem impl_areAll_int__impl_isColor.sound (k : Nat) : Sound Go.Proofs.Try.prog 158 (impl_areAll_int__impl_isColor.spec k) := by
  have h := fn_ok (F := impl_areAll_int__impl_isColor.T) (tbl := impl_areAll_int__impl_isColor.tbl) mixed tyok Go.Proofs.Try.func158 (by kernel_rfl) (c0 := bodyOf Go.Proofs.Try.f158) rfl (conv_code _ _ _) rfl rfl impl_areAll_int__impl_isColor.ok k (fun j _ => impl_areAll_int__impl_isColor.tblok j)
  have e : impl_areAll_int__impl_isColor.spec k = ⟨impl_areAll_int__impl_isColor.T.ps, impl_areAll_int__impl_isColor.T.rs, impl_areAll_int__impl_isColor.T.ev tyt impl_areAll_int__impl_isColor.tbl k⟩ := congrArg (FnSpec.mk _ _) (funext fun x => ((impl_areAll_int__impl_isColor.e k (impl_areAll_int__impl_isColor.T.run tyt impl_areAll_int__impl_isColor.tbl k) x).trans (by rfl)).symm)
  rw [e]
  exact h
/-! ### impl_IsChart: function 39 -/
def impl_IsChart.m (k : Nat) (a0_0 : Int) (a0_1 : Int) (l0_2 : List Int) : Option (Bool) := ((impl_isSide.f k a0_0).bind fun r1 => (cond r1 ((impl_isSide.f k a0_1).bind fun r2 => (cond r2 (if (l0_2.length : Int) = (w64 (a0_0 * a0_1)) then ((impl_areAll_int__impl_isColor.f k l0_2).bind fun r3 => (some r3)) else (some false)) (some false))) (some false)))
def impl_IsChart.f (k : Nat) (a0_0 : Int) (a0_1 : Int) (l0_2 : List Int) : Option (Bool) := impl_IsChart.m k a0_0 a0_1 l0_2
noncomputable def impl_IsChart.spec (k : Nat) : FnSpec := ⟨[.ag [.d (.int .i64) none, .d (.int .i64) none, .d (.sl (.int .i64)) none]], [.d .bool none], fun x => impl_IsChart.f k x.1 x.2.1 x.2.2⟩
noncomputable def impl_IsChart.T : FnText := ⟨(conv [] (bodyOf Go.Proofs.Try.f39) 0).1, Go.Proofs.Try.f39.results.toList, 27, [], [.ag [.d (.int .i64) none, .d (.int .i64) none, .d (.sl (.int .i64)) none]], [.d .bool none]⟩
noncomputable def impl_IsChart.tbl (k : Nat) : Tbl := [(157, impl_isSide.spec k), (158, impl_areAll_int__impl_isColor.spec k)]
theorem impl_IsChart.e (k : Nat) (o : Nat → St → Option (Bool)) (a0_0 : Int) (a0_1 : Int) (l0_2 : List Int) : impl_IsChart.T.main tyt (impl_IsChart.tbl k) o (a0_0, a0_1, l0_2) = impl_IsChart.m k a0_0 a0_1 l0_2 := by kernel_rfl
theorem impl_IsChart.ok : impl_IsChart.T.ok = true := by kernel_rfl
theorem impl_IsChart.tblok (k : Nat) : TblOk Go.Proofs.Try.prog (impl_IsChart.tbl k) := TblOk.cons (impl_isSide.sound k) (TblOk.cons (impl_areAll_int__impl_isColor.sound k) (TblOk.nil _))
theorem impl_IsChart.sound (k : Nat) : Sound Go.Proofs.Try.prog 39 (impl_IsChart.spec k) := by
  have h := fn_ok (F := impl_IsChart.T) (tbl := impl_IsChart.tbl) mixed tyok Go.Proofs.Try.func39 (by kernel_rfl) (c0 := bodyOf Go.Proofs.Try.f39) rfl (conv_code _ _ _) rfl rfl impl_IsChart.ok k (fun j _ => impl_IsChart.tblok j)
  have e : impl_IsChart.spec k = ⟨impl_IsChart.T.ps, impl_IsChart.T.rs, impl_IsChart.T.ev tyt impl_IsChart.tbl k⟩ := congrArg (FnSpec.mk _ _) (funext fun x => ((impl_IsChart.e k (impl_IsChart.T.run tyt impl_IsChart.tbl k) x.1 x.2.1 x.2.2).trans (by rfl)).symm)
  rw [e]
  exact h
/-! ### impl_isRingSide: function 188 -/
def impl_isRingSide.m (k : Nat) (a0 : Int) : Option (Bool) := ((impl_in.f k a0 2 8).bind fun r1 => (some r1))
def impl_isRingSide.f (k : Nat) (a0 : Int) : Option (Bool) := impl_isRingSide.m k a0
noncomputable def impl_isRingSide.spec (k : Nat) : FnSpec := ⟨[.d (.int .i64) none], [.d .bool none], fun x => impl_isRingSide.f k x⟩
noncomputable def impl_isRingSide.T : FnText := ⟨(conv [] (bodyOf Go.Proofs.Try.f188) 0).1, Go.Proofs.Try.f188.results.toList, 5, [], [.d (.int .i64) none], [.d .bool none]⟩
noncomputable def impl_isRingSide.tbl (k : Nat) : Tbl := [(139, impl_in.spec k)]
theorem impl_isRingSide.e (k : Nat) (o : Nat → St → Option (Bool)) (a0 : Int) : impl_isRingSide.T.main tyt (impl_isRingSide.tbl k) o a0 = impl_isRingSide.m k a0 := by kernel_rfl
theorem impl_isRingSide.ok : impl_isRingSide.T.ok = true := by kernel_rfl
theorem impl_isRingSide.tblok (k : Nat) : TblOk Go.Proofs.Try.prog (impl_isRingSide.tbl k) := TblOk.cons (impl_in.sound k) (TblOk.nil _)
theorem impl_isRingSide.sound (k : Nat) : Sound Go.Proofs.Try.prog 188 (impl_isRingSide.spec k) := by
  have h := fn_ok (F := impl_isRingSide.T) (tbl := impl_isRingSide.tbl) mixed tyok Go.Proofs.Try.func188 (by kernel_rfl) (c0 := bodyOf Go.Proofs.Try.f188) rfl (conv_code _ _ _) rfl rfl impl_isRingSide.ok k (fun j _ => impl_isRingSide.tblok j)
  have e : impl_isRingSide.spec k = ⟨impl_isRingSide.T.ps, impl_isRingSide.T.rs, impl_isRingSide.T.ev tyt impl_isRingSide.tbl k⟩ := congrArg (FnSpec.mk _ _) (funext fun x => ((impl_isRingSide.e k (impl_isRingSide.T.run tyt impl_isRingSide.tbl k) x).trans (by rfl)).symm)
  rw [e]
  exact h
/-! ### impl_hasRing: function 182 -/
def impl_hasRing.m (k : Nat) (a0_0 : Int) (a0_1 : Int) (l0_2 : List Int) : Option (Bool) := ((impl_IsChart.f k a0_0 a0_1 l0_2).bind fun r1 => (cond r1 ((impl_isRingSide.f k a0_0).bind fun r2 => (cond r2 ((impl_isRingSide.f k a0_1).bind fun r3 => (some r3)) (some false))) (some false)))
def impl_hasRing.f (k : Nat) (a0_0 : Int) (a0_1 : Int) (l0_2 : List Int) : Option (Bool) := impl_hasRing.m k a0_0 a0_1 l0_2
noncomputable def impl_hasRing.spec (k : Nat) : FnSpec := ⟨[.ag [.d (.int .i64) none, .d (.int .i64) none, .d (.sl (.int .i64)) none]], [.d .bool none], fun x => impl_hasRing.f k x.1 x.2.1 x.2.2⟩
noncomputable def impl_hasRing.T : FnText := ⟨(conv [] (bodyOf Go.Proofs.Try.f182) 0).1, Go.Proofs.Try.f182.results.toList, 15, [], [.ag [.d (.int .i64) none, .d (.int .i64) none, .d (.sl (.int .i64)) none]], [.d .bool none]⟩
noncomputable def impl_hasRing.tbl (k : Nat) : Tbl := [(39, impl_IsChart.spec k), (188, impl_isRingSide.spec k)]
theorem impl_hasRing.e (k : Nat) (o : Nat → St → Option (Bool)) (a0_0 : Int) (a0_1 : Int) (l0_2 : List Int) : impl_hasRing.T.main tyt (impl_hasRing.tbl k) o (a0_0, a0_1, l0_2) = impl_hasRing.m k a0_0 a0_1 l0_2 := by kernel_rfl
theorem impl_hasRing.ok : impl_hasRing.T.ok = true := by kernel_rfl
theorem impl_hasRing.tblok (k : Nat) : TblOk Go.Proofs.Try.prog (impl_hasRing.tbl k) := TblOk.cons (impl_IsChart.sound k) (TblOk.cons (impl_isRingSide.sound k) (TblOk.nil _))
theorem impl_hasRing.sound (k : Nat) : Sound Go.Proofs.Try.prog 182 (impl_hasRing.spec k) := by
  have h := fn_ok (F := impl_hasRing.T) (tbl := impl_hasRing.tbl) mixed tyok Go.Proofs.Try.func182 (by kernel_rfl) (c0 := bodyOf Go.Proofs.Try.f182) rfl (conv_code _ _ _) rfl rfl impl_hasRing.ok k (fun j _ => impl_hasRing.tblok j)
  have e : impl_hasRing.spec k = ⟨impl_hasRing.T.ps, impl_hasRing.T.rs, impl_hasRing.T.ev tyt impl_hasRing.tbl k⟩ := congrArg (FnSpec.mk _ _) (funext fun x => ((impl_hasRing.e k (impl_hasRing.T.run tyt impl_hasRing.tbl k) x.1 x.2.1 x.2.2).trans (by rfl)).symm)
  rw [e]
  exact h
/-! ### impl_ringPlaces: function 242 -/
def impl_ringPlaces.b4 (o4 : Int → Int → List Int → Int → Int → Option (List Int)) (o11 : Int → Int → List Int → Int → Option (List Int)) (k : Nat) (x0_4 : Int) (x1_4 : Int) (l2_4 : List Int) (x3_4 : Int) (x4_4 : Int) : Option (List Int) := (if x4_4 < x3_4 then ((app 17592186044416 l2_4 [x4_4]).bind fun l1 => (o4 x0_4 x1_4 l1 x3_4 (w64 (x4_4 + 1)))) else (o11 x0_4 x1_4 l2_4 1))
def impl_ringPlaces.b11 (o11 : Int → Int → List Int → Int → Option (List Int)) (o17 : Int → Int → List Int → Int → Option (List Int)) (k : Nat) (x0_11 : Int) (x1_11 : Int) (l2_11 : List Int) (x3_11 : Int) : Option (List Int) := (if x3_11 < x1_11 then ((app 17592186044416 l2_11 [(w64 ((w64 ((w64 (x3_11 * x0_11)) + x0_11)) - 1))]).bind fun l2 => (o11 x0_11 x1_11 l2 (w64 (x3_11 + 1)))) else (o17 x0_11 x1_11 l2_11 (w64 (x0_11 - 2))))
def impl_ringPlaces.b17 (o17 : Int → Int → List Int → Int → Option (List Int)) (o23 : Int → List Int → Int → Option (List Int)) (k : Nat) (x0_17 : Int) (x1_17 : Int) (l2_17 : List Int) (x3_17 : Int) : Option (List Int) := (if 0 ≤ x3_17 then ((app 17592186044416 l2_17 [(w64 ((w64 ((w64 (x1_17 - 1)) * x0_17)) + x3_17))]).bind fun l3 => (o17 x0_17 x1_17 l3 (w64 (x3_17 - 1)))) else (o23 x0_17 l2_17 (w64 (x1_17 - 2))))
def impl_ringPlaces.b23 (o23 : Int → List Int → Int → Option (List Int)) (k : Nat) (x0_23 : Int) (l1_23 : List Int) (x2_23 : Int) : Option (List Int) := (if 0 < x2_23 then ((app 17592186044416 l1_23 [(w64 (x2_23 * x0_23))]).bind fun l4 => (o23 x0_23 l4 (w64 (x2_23 - 1)))) else (some l1_23))
mutual
def impl_ringPlaces.l4 : Nat → Int → Int → List Int → Int → Int → Option (List Int)
  | 0, _, _, _, _, _ => none
  | k + 1, x0_4, x1_4, l2_4, x3_4, x4_4 => impl_ringPlaces.b4 (impl_ringPlaces.l4 k) (impl_ringPlaces.l11 k) k x0_4 x1_4 l2_4 x3_4 x4_4
def impl_ringPlaces.l11 : Nat → Int → Int → List Int → Int → Option (List Int)
  | 0, _, _, _, _ => none
  | k + 1, x0_11, x1_11, l2_11, x3_11 => impl_ringPlaces.b11 (impl_ringPlaces.l11 k) (impl_ringPlaces.l17 k) k x0_11 x1_11 l2_11 x3_11
def impl_ringPlaces.l17 : Nat → Int → Int → List Int → Int → Option (List Int)
  | 0, _, _, _, _ => none
  | k + 1, x0_17, x1_17, l2_17, x3_17 => impl_ringPlaces.b17 (impl_ringPlaces.l17 k) (impl_ringPlaces.l23 k) k x0_17 x1_17 l2_17 x3_17
def impl_ringPlaces.l23 : Nat → Int → List Int → Int → Option (List Int)
  | 0, _, _, _ => none
  | k + 1, x0_23, l1_23, x2_23 => impl_ringPlaces.b23 (impl_ringPlaces.l23 k) k x0_23 l1_23 x2_23
end
def impl_ringPlaces.m (o4 : Int → Int → List Int → Int → Int → Option (List Int)) (k : Nat) (a0 : Int) (a1 : Int) : Option (List Int) := (o4 a0 a1 ([] : List (Int)) a0 0)
def impl_ringPlaces.f (k : Nat) (a0 : Int) (a1 : Int) : Option (List Int) := impl_ringPlaces.m (impl_ringPlaces.l4 k) k a0 a1
noncomputable def impl_ringPlaces.spec (k : Nat) : FnSpec := ⟨[.d (.int .i64) none, .d (.int .i64) none], [.d (.sl (.int .i64)) (some 3)], fun x => impl_ringPlaces.f k x.1 x.2⟩
def impl_ringPlaces.S4 (x0_4 : Int) (x1_4 : Int) (l2_4 : List Int) (x3_4 : Int) (x4_4 : Int) : St := ⟨[(0, .val (.int .i64) x0_4), (1, .val (.int .i64) x1_4), (5, .ref 100), (11, .val (.int .i64) x3_4), (12, .val (.int .i64) x4_4)], [(100, some (.row 3 (.int .i64) l2_4))], 1000⟩
def impl_ringPlaces.S11 (x0_11 : Int) (x1_11 : Int) (l2_11 : List Int) (x3_11 : Int) : St := ⟨[(0, .val (.int .i64) x0_11), (1, .val (.int .i64) x1_11), (5, .ref 100), (7, .val (.int .i64) x3_11)], [(100, some (.row 3 (.int .i64) l2_11))], 1000⟩
def impl_ringPlaces.S17 (x0_17 : Int) (x1_17 : Int) (l2_17 : List Int) (x3_17 : Int) : St := ⟨[(0, .val (.int .i64) x0_17), (1, .val (.int .i64) x1_17), (5, .ref 100), (8, .val (.int .i64) x3_17)], [(100, some (.row 3 (.int .i64) l2_17))], 1000⟩
def impl_ringPlaces.S23 (x0_23 : Int) (l1_23 : List Int) (x2_23 : Int) : St := ⟨[(0, .val (.int .i64) x0_23), (5, .ref 100), (9, .val (.int .i64) x2_23)], [(100, some (.row 3 (.int .i64) l1_23))], 1000⟩
noncomputable def impl_ringPlaces.T : FnText := ⟨(conv [] (bodyOf Go.Proofs.Try.f242) 0).1, Go.Proofs.Try.f242.results.toList, 62, [(4, [(0, .rd (.int .i64)), (1, .rd (.int .i64)), (5, .own 3 (.int .i64) 100), (11, .rd (.int .i64)), (12, .rd (.int .i64))]), (11, [(0, .rd (.int .i64)), (1, .rd (.int .i64)), (5, .own 3 (.int .i64) 100), (7, .rd (.int .i64))]), (17, [(0, .rd (.int .i64)), (1, .rd (.int .i64)), (5, .own 3 (.int .i64) 100), (8, .rd (.int .i64))]), (23, [(0, .rd (.int .i64)), (5, .own 3 (.int .i64) 100), (9, .rd (.int .i64))])], [.d (.int .i64) none, .d (.int .i64) none], [.d (.sl (.int .i64)) (some 3)]⟩
noncomputable def impl_ringPlaces.tbl (k : Nat) : Tbl := []
theorem impl_ringPlaces.e4 (k : Nat) (o : Nat → St → Option (List Int)) (x0_4 : Int) (x1_4 : Int) (l2_4 : List Int) (x3_4 : Int) (x4_4 : Int) : impl_ringPlaces.T.step tyt (impl_ringPlaces.tbl k) o 4 (impl_ringPlaces.S4 x0_4 x1_4 l2_4 x3_4 x4_4) = impl_ringPlaces.b4 (fun x0_4 x1_4 l2_4 x3_4 x4_4 => o 4 (impl_ringPlaces.S4 x0_4 x1_4 l2_4 x3_4 x4_4)) (fun x0_11 x1_11 l2_11 x3_11 => o 11 (impl_ringPlaces.S11 x0_11 x1_11 l2_11 x3_11)) k x0_4 x1_4 l2_4 x3_4 x4_4 := by kernel_rfl
theorem impl_ringPlaces.e11 (k : Nat) (o : Nat → St → Option (List Int)) (x0_11 : Int) (x1_11 : Int) (l2_11 : List Int) (x3_11 : Int) : impl_ringPlaces.T.step tyt (impl_ringPlaces.tbl k) o 11 (impl_ringPlaces.S11 x0_11 x1_11 l2_11 x3_11) = impl_ringPlaces.b11 (fun x0_11 x1_11 l2_11 x3_11 => o 11 (impl_ringPlaces.S11 x0_11 x1_11 l2_11 x3_11)) (fun x0_17 x1_17 l2_17 x3_17 => o 17 (impl_ringPlaces.S17 x0_17 x1_17 l2_17 x3_17)) k x0_11 x1_11 l2_11 x3_11 := by kernel_rfl
theorem impl_ringPlaces.e17 (k : Nat) (o : Nat → St → Option (List Int)) (x0_17 : Int) (x1_17 : Int) (l2_17 : List Int) (x3_17 : Int) : impl_ringPlaces.T.step tyt (impl_ringPlaces.tbl k) o 17 (impl_ringPlaces.S17 x0_17 x1_17 l2_17 x3_17) = impl_ringPlaces.b17 (fun x0_17 x1_17 l2_17 x3_17 => o 17 (impl_ringPlaces.S17 x0_17 x1_17 l2_17 x3_17)) (fun x0_23 l1_23 x2_23 => o 23 (impl_ringPlaces.S23 x0_23 l1_23 x2_23)) k x0_17 x1_17 l2_17 x3_17 := by kernel_rfl
theorem impl_ringPlaces.e23 (k : Nat) (o : Nat → St → Option (List Int)) (x0_23 : Int) (l1_23 : List Int) (x2_23 : Int) : impl_ringPlaces.T.step tyt (impl_ringPlaces.tbl k) o 23 (impl_ringPlaces.S23 x0_23 l1_23 x2_23) = impl_ringPlaces.b23 (fun x0_23 l1_23 x2_23 => o 23 (impl_ringPlaces.S23 x0_23 l1_23 x2_23)) k x0_23 l1_23 x2_23 := by kernel_rfl
theorem impl_ringPlaces.e (k : Nat) (o : Nat → St → Option (List Int)) (a0 : Int) (a1 : Int) : impl_ringPlaces.T.main tyt (impl_ringPlaces.tbl k) o (a0, a1) = impl_ringPlaces.m (fun x0_4 x1_4 l2_4 x3_4 x4_4 => o 4 (impl_ringPlaces.S4 x0_4 x1_4 l2_4 x3_4 x4_4)) k a0 a1 := by kernel_rfl
theorem impl_ringPlaces.ok : impl_ringPlaces.T.ok = true := by kernel_rfl
theorem impl_ringPlaces.run (k : Nat) : (∀ (x0_4 : Int) (x1_4 : Int) (l2_4 : List Int) (x3_4 : Int) (x4_4 : Int), impl_ringPlaces.T.run tyt impl_ringPlaces.tbl k 4 (impl_ringPlaces.S4 x0_4 x1_4 l2_4 x3_4 x4_4) = impl_ringPlaces.l4 k x0_4 x1_4 l2_4 x3_4 x4_4) ∧ (∀ (x0_11 : Int) (x1_11 : Int) (l2_11 : List Int) (x3_11 : Int), impl_ringPlaces.T.run tyt impl_ringPlaces.tbl k 11 (impl_ringPlaces.S11 x0_11 x1_11 l2_11 x3_11) = impl_ringPlaces.l11 k x0_11 x1_11 l2_11 x3_11) ∧ (∀ (x0_17 : Int) (x1_17 : Int) (l2_17 : List Int) (x3_17 : Int), impl_ringPlaces.T.run tyt impl_ringPlaces.tbl k 17 (impl_ringPlaces.S17 x0_17 x1_17 l2_17 x3_17) = impl_ringPlaces.l17 k x0_17 x1_17 l2_17 x3_17) ∧ (∀ (x0_23 : Int) (l1_23 : List Int) (x2_23 : Int), impl_ringPlaces.T.run tyt impl_ringPlaces.tbl k 23 (impl_ringPlaces.S23 x0_23 l1_23 x2_23) = impl_ringPlaces.l23 k x0_23 l1_23 x2_23) := by
  induction k with
  | zero => exact ⟨fun x0_4 x1_4 l2_4 x3_4 x4_4 => rfl, fun x0_11 x1_11 l2_11 x3_11 => rfl, fun x0_17 x1_17 l2_17 x3_17 => rfl, fun x0_23 l1_23 x2_23 => rfl⟩
  | succ k ih =>
    exact ⟨fun x0_4 x1_4 l2_4 x3_4 x4_4 => by
      have q4 : (fun x0_4 x1_4 l2_4 x3_4 x4_4 => impl_ringPlaces.T.run tyt impl_ringPlaces.tbl k 4 (impl_ringPlaces.S4 x0_4 x1_4 l2_4 x3_4 x4_4)) = impl_ringPlaces.l4 k := by funext x0_4 x1_4 l2_4 x3_4 x4_4; exact ih.1 x0_4 x1_4 l2_4 x3_4 x4_4
      have q11 : (fun x0_11 x1_11 l2_11 x3_11 => impl_ringPlaces.T.run tyt impl_ringPlaces.tbl k 11 (impl_ringPlaces.S11 x0_11 x1_11 l2_11 x3_11)) = impl_ringPlaces.l11 k := by funext x0_11 x1_11 l2_11 x3_11; exact ih.2.1 x0_11 x1_11 l2_11 x3_11
      exact (impl_ringPlaces.e4 k (impl_ringPlaces.T.run tyt impl_ringPlaces.tbl k) x0_4 x1_4 l2_4 x3_4 x4_4).trans (by rw [q4, q11]; rfl), fun x0_11 x1_11 l2_11 x3_11 => by
      have q11 : (fun x0_11 x1_11 l2_11 x3_11 => impl_ringPlaces.T.run tyt impl_ringPlaces.tbl k 11 (impl_ringPlaces.S11 x0_11 x1_11 l2_11 x3_11)) = impl_ringPlaces.l11 k := by funext x0_11 x1_11 l2_11 x3_11; exact ih.2.1 x0_11 x1_11 l2_11 x3_11
      have q17 : (fun x0_17 x1_17 l2_17 x3_17 => impl_ringPlaces.T.run tyt impl_ringPlaces.tbl k 17 (impl_ringPlaces.S17 x0_17 x1_17 l2_17 x3_17)) = impl_ringPlaces.l17 k := by funext x0_17 x1_17 l2_17 x3_17; exact ih.2.2.1 x0_17 x1_17 l2_17 x3_17
      exact (impl_ringPlaces.e11 k (impl_ringPlaces.T.run tyt impl_ringPlaces.tbl k) x0_11 x1_11 l2_11 x3_11).trans (by rw [q11, q17]; rfl), fun x0_17 x1_17 l2_17 x3_17 => by
      have q17 : (fun x0_17 x1_17 l2_17 x3_17 => impl_ringPlaces.T.run tyt impl_ringPlaces.tbl k 17 (impl_ringPlaces.S17 x0_17 x1_17 l2_17 x3_17)) = impl_ringPlaces.l17 k := by funext x0_17 x1_17 l2_17 x3_17; exact ih.2.2.1 x0_17 x1_17 l2_17 x3_17
      have q23 : (fun x0_23 l1_23 x2_23 => impl_ringPlaces.T.run tyt impl_ringPlaces.tbl k 23 (impl_ringPlaces.S23 x0_23 l1_23 x2_23)) = impl_ringPlaces.l23 k := by funext x0_23 l1_23 x2_23; exact ih.2.2.2 x0_23 l1_23 x2_23
      exact (impl_ringPlaces.e17 k (impl_ringPlaces.T.run tyt impl_ringPlaces.tbl k) x0_17 x1_17 l2_17 x3_17).trans (by rw [q17, q23]; rfl), fun x0_23 l1_23 x2_23 => by
      have q23 : (fun x0_23 l1_23 x2_23 => impl_ringPlaces.T.run tyt impl_ringPlaces.tbl k 23 (impl_ringPlaces.S23 x0_23 l1_23 x2_23)) = impl_ringPlaces.l23 k := by funext x0_23 l1_23 x2_23; exact ih.2.2.2 x0_23 l1_23 x2_23
      exact (impl_ringPlaces.e23 k (impl_ringPlaces.T.run tyt impl_ringPlaces.tbl k) x0_23 l1_23 x2_23).trans (by rw [q23]; rfl)⟩
theorem impl_ringPlaces.tblok (k : Nat) : TblOk Go.Proofs.Try.prog (impl_ringPlaces.tbl k) := TblOk.nil _
theorem impl_ringPlaces.sound (k : Nat) : Sound Go.Proofs.Try.prog 242 (impl_ringPlaces.spec k) := by
  have h := fn_ok (F := impl_ringPlaces.T) (tbl := impl_ringPlaces.tbl) mixed tyok Go.Proofs.Try.func242 (by kernel_rfl) (c0 := bodyOf Go.Proofs.Try.f242) rfl (conv_code _ _ _) rfl rfl impl_ringPlaces.ok k (fun j _ => impl_ringPlaces.tblok j)
  have q4 : (fun x0_4 x1_4 l2_4 x3_4 x4_4 => impl_ringPlaces.T.run tyt impl_ringPlaces.tbl k 4 (impl_ringPlaces.S4 x0_4 x1_4 l2_4 x3_4 x4_4)) = impl_ringPlaces.l4 k := by funext x0_4 x1_4 l2_4 x3_4 x4_4; exact (impl_ringPlaces.run k).1 x0_4 x1_4 l2_4 x3_4 x4_4
  have e : impl_ringPlaces.spec k = ⟨impl_ringPlaces.T.ps, impl_ringPlaces.T.rs, impl_ringPlaces.T.ev tyt impl_ringPlaces.tbl k⟩ := congrArg (FnSpec.mk _ _) (funext fun x => ((impl_ringPlaces.e k (impl_ringPlaces.T.run tyt impl_ringPlaces.tbl k) x.1 x.2).trans (by rw [q4]; rfl)).symm)
  rw [e]
  exact h
/-! ### impl_Chart_ring: function 183 -/
def impl_Chart_ring.b4 (o4 : Int → Int → List Int → List Int → List Int → Int → Int → Option (List Int)) (k : Nat) (x0_4 : Int) (x1_4 : Int) (l2_4 : List Int) (l3_4 : List Int) (l4_4 : List Int) (x5_4 : Int) (x6_4 : Int) : Option (List Int) := (if x6_4 < x5_4 then ((chk l4_4.length x6_4).bind fun i2 => ((chk l2_4.length (l4_4.getD i2 0)).bind fun i3 => ((app 17592186044416 l3_4 [(l2_4.getD i3 0)]).bind fun l4 => (o4 x0_4 x1_4 l2_4 l4 l4_4 x5_4 (w64 (x6_4 + 1)))))) else (some l3_4))
def impl_Chart_ring.l4 : Nat → Int → Int → List Int → List Int → List Int → Int → Int → Option (List Int)
  | 0, _, _, _, _, _, _, _ => none
  | k + 1, x0_4, x1_4, l2_4, l3_4, l4_4, x5_4, x6_4 => impl_Chart_ring.b4 (impl_Chart_ring.l4 k) k x0_4 x1_4 l2_4 l3_4 l4_4 x5_4 x6_4
def impl_Chart_ring.m (o4 : Int → Int → List Int → List Int → List Int → Int → Int → Option (List Int)) (k : Nat) (a0_0 : Int) (a0_1 : Int) (l0_2 : List Int) : Option (List Int) := ((impl_ringPlaces.f k a0_0 a0_1).bind fun r1 => (o4 a0_0 a0_1 l0_2 ([] : List (Int)) r1 (r1.length : Int) 0))
def impl_Chart_ring.f (k : Nat) (a0_0 : Int) (a0_1 : Int) (l0_2 : List Int) : Option (List Int) := impl_Chart_ring.m (impl_Chart_ring.l4 k) k a0_0 a0_1 l0_2
noncomputable def impl_Chart_ring.spec (k : Nat) : FnSpec := ⟨[.ag [.d (.int .i64) none, .d (.int .i64) none, .d (.sl (.int .i64)) none]], [.d (.sl (.int .i64)) (some 3)], fun x => impl_Chart_ring.f k x.1 x.2.1 x.2.2⟩
def impl_Chart_ring.S4 (x0_4 : Int) (x1_4 : Int) (l2_4 : List Int) (l3_4 : List Int) (l4_4 : List Int) (x5_4 : Int) (x6_4 : Int) : St := ⟨[(1, .ptr 100 0), (3, .ref 101), (11, .ref 102), (12, .val (.int .i64) x5_4), (13, .val (.int .i64) x6_4)], [(102, some (.row 3 (.int .i64) l4_4)), (101, some (.row 3 (.int .i64) l3_4)), (100, some (.box [.val (.int .i64) x0_4, .val (.int .i64) x1_4, .val (.sl (.int .i64)) l2_4]))], 1000⟩
noncomputable def impl_Chart_ring.T : FnText := ⟨(conv [] (bodyOf Go.Proofs.Try.f183) 0).1, Go.Proofs.Try.f183.results.toList, 27, [(4, [(1, .bx 100 [.rd (.int .i64), .rd (.int .i64), .rd (.sl (.int .i64))]), (3, .own 3 (.int .i64) 101), (11, .own 3 (.int .i64) 102), (12, .rd (.int .i64)), (13, .rd (.int .i64))])], [.ag [.d (.int .i64) none, .d (.int .i64) none, .d (.sl (.int .i64)) none]], [.d (.sl (.int .i64)) (some 3)]⟩
noncomputable def impl_Chart_ring.tbl (k : Nat) : Tbl := [(242, impl_ringPlaces.spec k)]
theorem impl_Chart_ring.e4 (k : Nat) (o : Nat → St → Option (List Int)) (x0_4 : Int) (x1_4 : Int) (l2_4 : List Int) (l3_4 : List Int) (l4_4 : List Int) (x5_4 : Int) (x6_4 : Int) : impl_Chart_ring.T.step tyt (impl_Chart_ring.tbl k) o 4 (impl_Chart_ring.S4 x0_4 x1_4 l2_4 l3_4 l4_4 x5_4 x6_4) = impl_Chart_ring.b4 (fun x0_4 x1_4 l2_4 l3_4 l4_4 x5_4 x6_4 => o 4 (impl_Chart_ring.S4 x0_4 x1_4 l2_4 l3_4 l4_4 x5_4 x6_4)) k x0_4 x1_4 l2_4 l3_4 l4_4 x5_4 x6_4 := by kernel_rfl
theorem impl_Chart_ring.e (k : Nat) (o : Nat → St → Option (List Int)) (a0_0 : Int) (a0_1 : Int) (l0_2 : List Int) : impl_Chart_ring.T.main tyt (impl_Chart_ring.tbl k) o (a0_0, a0_1, l0_2) = impl_Chart_ring.m (fun x0_4 x1_4 l2_4 l3_4 l4_4 x5_4 x6_4 => o 4 (impl_Chart_ring.S4 x0_4 x1_4 l2_4 l3_4 l4_4 x5_4 x6_4)) k a0_0 a0_1 l0_2 := by kernel_rfl
theorem impl_Chart_ring.ok : impl_Chart_ring.T.ok = true := by kernel_rfl
theorem impl_Chart_ring.run (k : Nat) : (∀ (x0_4 : Int) (x1_4 : Int) (l2_4 : List Int) (l3_4 : List Int) (l4_4 : List Int) (x5_4 : Int) (x6_4 : Int), impl_Chart_ring.T.run tyt impl_Chart_ring.tbl k 4 (impl_Chart_ring.S4 x0_4 x1_4 l2_4 l3_4 l4_4 x5_4 x6_4) = impl_Chart_ring.l4 k x0_4 x1_4 l2_4 l3_4 l4_4 x5_4 x6_4) := by
  induction k with
  | zero => exact fun x0_4 x1_4 l2_4 l3_4 l4_4 x5_4 x6_4 => rfl
  | succ k ih =>
    exact fun x0_4 x1_4 l2_4 l3_4 l4_4 x5_4 x6_4 => by
      have q4 : (fun x0_4 x1_4 l2_4 l3_4 l4_4 x5_4 x6_4 => impl_Chart_ring.T.run tyt impl_Chart_ring.tbl k 4 (impl_Chart_ring.S4 x0_4 x1_4 l2_4 l3_4 l4_4 x5_4 x6_4)) = impl_Chart_ring.l4 k := by funext x0_4 x1_4 l2_4 l3_4 l4_4 x5_4 x6_4; exact ih x0_4 x1_4 l2_4 l3_4 l4_4 x5_4 x6_4
      exact (impl_Chart_ring.e4 k (impl_Chart_ring.T.run tyt impl_Chart_ring.tbl k) x0_4 x1_4 l2_4 l3_4 l4_4 x5_4 x6_4).trans (by rw [q4]; rfl)
theorem impl_Chart_ring.tblok (k : Nat) : TblOk Go.Proofs.Try.prog (impl_Chart_ring.tbl k) := TblOk.cons (impl_ringPlaces.sound k) (TblOk.nil _)
theorem impl_Chart_ring.sound (k : Nat) : Sound Go.Proofs.Try.prog 183 (impl_Chart_ring.spec k) := by
  have h := fn_ok (F := impl_Chart_ring.T) (tbl := impl_Chart_ring.tbl) mixed tyok Go.Proofs.Try.func183 (by kernel_rfl) (c0 := bodyOf Go.Proofs.Try.f183) rfl (conv_code _ _ _) rfl rfl impl_Chart_ring.ok k (fun j _ => impl_Chart_ring.tblok j)
  have q4 : (fun x0_4 x1_4 l2_4 l3_4 l4_4 x5_4 x6_4 => impl_Chart_ring.T.run tyt impl_Chart_ring.tbl k 4 (impl_Chart_ring.S4 x0_4 x1_4 l2_4 l3_4 l4_4 x5_4 x6_4)) = impl_Chart_ring.l4 k := by funext x0_4 x1_4 l2_4 l3_4 l4_4 x5_4 x6_4; exact (impl_Chart_ring.run k) x0_4 x1_4 l2_4 l3_4 l4_4 x5_4 x6_4
  have e : impl_Chart_ring.spec k = ⟨impl_Chart_ring.T.ps, impl_Chart_ring.T.rs, impl_Chart_ring.T.ev tyt impl_Chart_ring.tbl k⟩ := congrArg (FnSpec.mk _ _) (funext fun x => ((impl_Chart_ring.e k (impl_Chart_ring.T.run tyt impl_Chart_ring.tbl k) x.1 x.2.1 x.2.2).trans (by rw [q4]; rfl)).symm)
  rw [e]
  exact h
/-! ### impl_RingOf: function 66 -/
def impl_RingOf.m (k : Nat) (a0_0 : Int) (a0_1 : Int) (l0_2 : List Int) : Option (List Int × Bool) := ((impl_hasRing.f k a0_0 a0_1 l0_2).bind fun r1 => (cond (!r1) (some ([], false)) ((impl_Chart_ring.f k a0_0 a0_1 l0_2).bind fun r2 => (some (r2, true)))))
def impl_RingOf.f (k : Nat) (a0_0 : Int) (a0_1 : Int) (l0_2 : List Int) : Option (List Int × Bool) := impl_RingOf.m k a0_0 a0_1 l0_2
noncomputable def impl_RingOf.spec (k : Nat) : FnSpec := ⟨[.ag [.d (.int .i64) none, .d (.int .i64) none, .d (.sl (.int .i64)) none]], [.d (.sl (.int .i64)) (some 3), .d .bool none], fun x => impl_RingOf.f k x.1 x.2.1 x.2.2⟩
noncomputable def impl_RingOf.T : FnText := ⟨(conv [] (bodyOf Go.Proofs.Try.f66) 0).1, Go.Proofs.Try.f66.results.toList, 9, [], [.ag [.d (.int .i64) none, .d (.int .i64) none, .d (.sl (.int .i64)) none]], [.d (.sl (.int .i64)) (some 3), .d .bool none]⟩
noncomputable def impl_RingOf.tbl (k : Nat) : Tbl := [(182, impl_hasRing.spec k), (183, impl_Chart_ring.spec k)]
theorem impl_RingOf.e (k : Nat) (o : Nat → St → Option (List Int × Bool)) (a0_0 : Int) (a0_1 : Int) (l0_2 : List Int) : impl_RingOf.T.main tyt (impl_RingOf.tbl k) o (a0_0, a0_1, l0_2) = impl_RingOf.m k a0_0 a0_1 l0_2 := by kernel_rfl
theorem impl_RingOf.ok : impl_RingOf.T.ok = true := by kernel_rfl
theorem impl_RingOf.tblok (k : Nat) : TblOk Go.Proofs.Try.prog (impl_RingOf.tbl k) := TblOk.cons (impl_hasRing.sound k) (TblOk.cons (impl_Chart_ring.sound k) (TblOk.nil _))
theorem impl_RingOf.sound (k : Nat) : Sound Go.Proofs.Try.prog 66 (impl_RingOf.spec k) := by
  have h := fn_ok (F := impl_RingOf.T) (tbl := impl_RingOf.tbl) mixed tyok Go.Proofs.Try.func66 (by kernel_rfl) (c0 := bodyOf Go.Proofs.Try.f66) rfl (conv_code _ _ _) rfl rfl impl_RingOf.ok k (fun j _ => impl_RingOf.tblok j)
  have e : impl_RingOf.spec k = ⟨impl_RingOf.T.ps, impl_RingOf.T.rs, impl_RingOf.T.ev tyt impl_RingOf.tbl k⟩ := congrArg (FnSpec.mk _ _) (funext fun x => ((impl_RingOf.e k (impl_RingOf.T.run tyt impl_RingOf.tbl k) x.1 x.2.1 x.2.2).trans (by rfl)).symm)
  rw [e]
  exact h
/-! ### spec_l8Ring: function 185 -/
def spec_l8Ring.b4 (o4 : Int → Int → List Int → List Int → List Int → Int → Option (List Int)) (k : Nat) (x0_4 : Int) (x1_4 : Int) (l2_4 : List Int) (l3_4 : List Int) (l4_4 : List Int) (x5_4 : Int) : Option (List Int) := (if x5_4 < (l3_4.length : Int) then ((chk l3_4.length x5_4).bind fun i2 => ((chk l2_4.length (l3_4.getD i2 0)).bind fun i3 => ((app 17592186044416 l4_4 [(l2_4.getD i3 0)]).bind fun l4 => (o4 x0_4 x1_4 l2_4 l3_4 l4 (w64 (x5_4 + 1)))))) else (some l4_4))
def spec_l8Ring.l4 : Nat → Int → Int → List Int → List Int → List Int → Int → Option (List Int)
  | 0, _, _, _, _, _, _ => none
  | k + 1, x0_4, x1_4, l2_4, l3_4, l4_4, x5_4 => spec_l8Ring.b4 (spec_l8Ring.l4 k) k x0_4 x1_4 l2_4 l3_4 l4_4 x5_4
def spec_l8Ring.m (o4 : Int → Int → List Int → List Int → List Int → Int → Option (List Int)) (k : Nat) (a0_0 : Int) (a0_1 : Int) (l0_2 : List Int) : Option (List Int) := ((spec_l8Places.f k a0_0 a0_1).bind fun r1 => (o4 a0_0 a0_1 l0_2 r1 ([] : List (Int)) 0))
def spec_l8Ring.f (k : Nat) (a0_0 : Int) (a0_1 : Int) (l0_2 : List Int) : Option (List Int) := spec_l8Ring.m (spec_l8Ring.l4 k) k a0_0 a0_1 l0_2
noncomputable def spec_l8Ring.spec (k : Nat) : FnSpec := ⟨[.ag [.d (.int .i64) none, .d (.int .i64) none, .d (.sl (.int .i64)) none]], [.d (.sl (.int .i64)) (some 3)], fun x => spec_l8Ring.f k x.1 x.2.1 x.2.2⟩
def spec_l8Ring.S4 (x0_4 : Int) (x1_4 : Int) (l2_4 : List Int) (l3_4 : List Int) (l4_4 : List Int) (x5_4 : Int) : St := ⟨[(1, .ptr 100 0), (3, .ref 101), (4, .ref 102), (5, .val (.int .i64) x5_4)], [(102, some (.row 3 (.int .i64) l4_4)), (101, some (.row 3 (.int .i64) l3_4)), (100, some (.box [.val (.int .i64) x0_4, .val (.int .i64) x1_4, .val (.sl (.int .i64)) l2_4]))], 1000⟩
noncomputable def spec_l8Ring.T : FnText := ⟨(conv [] (bodyOf Go.Proofs.Try.f185) 0).1, Go.Proofs.Try.f185.results.toList, 30, [(4, [(1, .bx 100 [.rd (.int .i64), .rd (.int .i64), .rd (.sl (.int .i64))]), (3, .own 3 (.int .i64) 101), (4, .own 3 (.int .i64) 102), (5, .rd (.int .i64))])], [.ag [.d (.int .i64) none, .d (.int .i64) none, .d (.sl (.int .i64)) none]], [.d (.sl (.int .i64)) (some 3)]⟩
noncomputable def spec_l8Ring.tbl (k : Nat) : Tbl := [(243, spec_l8Places.spec k)]
theorem spec_l8Ring.e4 (k : Nat) (o : Nat → St → Option (List Int)) (x0_4 : Int) (x1_4 : Int) (l2_4 : List Int) (l3_4 : List Int) (l4_4 : List Int) (x5_4 : Int) : spec_l8Ring.T.step tyt (spec_l8Ring.tbl k) o 4 (spec_l8Ring.S4 x0_4 x1_4 l2_4 l3_4 l4_4 x5_4) = spec_l8Ring.b4 (fun x0_4 x1_4 l2_4 l3_4 l4_4 x5_4 => o 4 (spec_l8Ring.S4 x0_4 x1_4 l2_4 l3_4 l4_4 x5_4)) k x0_4 x1_4 l2_4 l3_4 l4_4 x5_4 := by kernel_rfl
theorem spec_l8Ring.e (k : Nat) (o : Nat → St → Option (List Int)) (a0_0 : Int) (a0_1 : Int) (l0_2 : List Int) : spec_l8Ring.T.main tyt (spec_l8Ring.tbl k) o (a0_0, a0_1, l0_2) = spec_l8Ring.m (fun x0_4 x1_4 l2_4 l3_4 l4_4 x5_4 => o 4 (spec_l8Ring.S4 x0_4 x1_4 l2_4 l3_4 l4_4 x5_4)) k a0_0 a0_1 l0_2 := by kernel_rfl
theorem spec_l8Ring.ok : spec_l8Ring.T.ok = true := by kernel_rfl
theorem spec_l8Ring.run (k : Nat) : (∀ (x0_4 : Int) (x1_4 : Int) (l2_4 : List Int) (l3_4 : List Int) (l4_4 : List Int) (x5_4 : Int), spec_l8Ring.T.run tyt spec_l8Ring.tbl k 4 (spec_l8Ring.S4 x0_4 x1_4 l2_4 l3_4 l4_4 x5_4) = spec_l8Ring.l4 k x0_4 x1_4 l2_4 l3_4 l4_4 x5_4) := by
  induction k with
  | zero => exact fun x0_4 x1_4 l2_4 l3_4 l4_4 x5_4 => rfl
  | succ k ih =>
    exact fun x0_4 x1_4 l2_4 l3_4 l4_4 x5_4 => by
      have q4 : (fun x0_4 x1_4 l2_4 l3_4 l4_4 x5_4 => spec_l8Ring.T.run tyt spec_l8Ring.tbl k 4 (spec_l8Ring.S4 x0_4 x1_4 l2_4 l3_4 l4_4 x5_4)) = spec_l8Ring.l4 k := by funext x0_4 x1_4 l2_4 l3_4 l4_4 x5_4; exact ih x0_4 x1_4 l2_4 l3_4 l4_4 x5_4
      exact (spec_l8Ring.e4 k (spec_l8Ring.T.run tyt spec_l8Ring.tbl k) x0_4 x1_4 l2_4 l3_4 l4_4 x5_4).trans (by rw [q4]; rfl)
theorem spec_l8Ring.tblok (k : Nat) : TblOk Go.Proofs.Try.prog (spec_l8Ring.tbl k) := TblOk.cons (spec_l8Places.sound k) (TblOk.nil _)
theorem spec_l8Ring.sound (k : Nat) : Sound Go.Proofs.Try.prog 185 (spec_l8Ring.spec k) := by
  have h := fn_ok (F := spec_l8Ring.T) (tbl := spec_l8Ring.tbl) mixed tyok Go.Proofs.Try.func185 (by kernel_rfl) (c0 := bodyOf Go.Proofs.Try.f185) rfl (conv_code _ _ _) rfl rfl spec_l8Ring.ok k (fun j _ => spec_l8Ring.tblok j)
  have q4 : (fun x0_4 x1_4 l2_4 l3_4 l4_4 x5_4 => spec_l8Ring.T.run tyt spec_l8Ring.tbl k 4 (spec_l8Ring.S4 x0_4 x1_4 l2_4 l3_4 l4_4 x5_4)) = spec_l8Ring.l4 k := by funext x0_4 x1_4 l2_4 l3_4 l4_4 x5_4; exact (spec_l8Ring.run k) x0_4 x1_4 l2_4 l3_4 l4_4 x5_4
  have e : spec_l8Ring.spec k = ⟨spec_l8Ring.T.ps, spec_l8Ring.T.rs, spec_l8Ring.T.ev tyt spec_l8Ring.tbl k⟩ := congrArg (FnSpec.mk _ _) (funext fun x => ((spec_l8Ring.e k (spec_l8Ring.T.run tyt spec_l8Ring.tbl k) x.1 x.2.1 x.2.2).trans (by rw [q4]; rfl)).symm)
  rw [e]
  exact h
/-! ### spec_RingOf: function 67 -/
def spec_RingOf.m (k : Nat) (a0_0 : Int) (a0_1 : Int) (l0_2 : List Int) : Option (List Int × Bool) := ((spec_l8Good.f k a0_0 a0_1 l0_2).bind fun r1 => (cond (!r1) (some (([] : List (Int)), false)) ((spec_l8Ring.f k a0_0 a0_1 l0_2).bind fun r2 => (some (r2, true)))))
def spec_RingOf.f (k : Nat) (a0_0 : Int) (a0_1 : Int) (l0_2 : List Int) : Option (List Int × Bool) := spec_RingOf.m k a0_0 a0_1 l0_2
noncomputable def spec_RingOf.spec (k : Nat) : FnSpec := ⟨[.ag [.d (.int .i64) none, .d (.int .i64) none, .d (.sl (.int .i64)) none]], [.d (.sl (.int .i64)) (some 3), .d .bool none], fun x => spec_RingOf.f k x.1 x.2.1 x.2.2⟩
noncomputable def spec_RingOf.T : FnText := ⟨(conv [] (bodyOf Go.Proofs.Try.f67) 0).1, Go.Proofs.Try.f67.results.toList, 10, [], [.ag [.d (.int .i64) none, .d (.int .i64) none, .d (.sl (.int .i64)) none]], [.d (.sl (.int .i64)) (some 3), .d .bool none]⟩
noncomputable def spec_RingOf.tbl (k : Nat) : Tbl := [(184, spec_l8Good.spec k), (185, spec_l8Ring.spec k)]
theorem spec_RingOf.e (k : Nat) (o : Nat → St → Option (List Int × Bool)) (a0_0 : Int) (a0_1 : Int) (l0_2 : List Int) : spec_RingOf.T.main tyt (spec_RingOf.tbl k) o (a0_0, a0_1, l0_2) = spec_RingOf.m k a0_0 a0_1 l0_2 := by kernel_rfl
theorem spec_RingOf.ok : spec_RingOf.T.ok = true := by kernel_rfl
theorem spec_RingOf.tblok (k : Nat) : TblOk Go.Proofs.Try.prog (spec_RingOf.tbl k) := TblOk.cons (spec_l8Good.sound k) (TblOk.cons (spec_l8Ring.sound k) (TblOk.nil _))
theorem spec_RingOf.sound (k : Nat) : Sound Go.Proofs.Try.prog 67 (spec_RingOf.spec k) := by
  have h := fn_ok (F := spec_RingOf.T) (tbl := spec_RingOf.tbl) mixed tyok Go.Proofs.Try.func67 (by kernel_rfl) (c0 := bodyOf Go.Proofs.Try.f67) rfl (conv_code _ _ _) rfl rfl spec_RingOf.ok k (fun j _ => spec_RingOf.tblok j)
  have e : spec_RingOf.spec k = ⟨spec_RingOf.T.ps, spec_RingOf.T.rs, spec_RingOf.T.ev tyt spec_RingOf.tbl k⟩ := congrArg (FnSpec.mk _ _) (funext fun x => ((spec_RingOf.e k (spec_RingOf.T.run tyt spec_RingOf.tbl k) x.1 x.2.1 x.2.2).trans (by rfl)).symm)
  rw [e]
  exact h
/-! ### laws_vInts: function 29 -/
def laws_vInts.b6 (o6 : List Int → List Int → Int → Option (Bool)) (k : Nat) (l0_6 : List Int) (l1_6 : List Int) (x2_6 : Int) : Option (Bool) := (if x2_6 < (l0_6.length : Int) then ((chk l0_6.length x2_6).bind fun i1 => ((chk l1_6.length x2_6).bind fun i2 => (if ¬ (l0_6.getD i1 0) = (l1_6.getD i2 0) then (some false) else (o6 l0_6 l1_6 (w64 (x2_6 + 1)))))) else (some true))
def laws_vInts.l6 : Nat → List Int → List Int → Int → Option (Bool)
  | 0, _, _, _ => none
  | k + 1, l0_6, l1_6, x2_6 => laws_vInts.b6 (laws_vInts.l6 k) k l0_6 l1_6 x2_6
def laws_vInts.m (o6 : List Int → List Int → Int → Option (Bool)) (k : Nat) (l0 : List Int) (l1 : List Int) : Option (Bool) := (if ¬ (l0.length : Int) = (l1.length : Int) then (some false) else (o6 l0 l1 0))
def laws_vInts.f (k : Nat) (l0 : List Int) (l1 : List Int) : Option (Bool) := laws_vInts.m (laws_vInts.l6 k) k l0 l1
noncomputable def laws_vInts.spec (k : Nat) : FnSpec := ⟨[.d (.sl (.int .i64)) none, .d (.sl (.int .i64)) none], [.d .bool none], fun x => laws_vInts.f k x.1 x.2⟩
def laws_vInts.S6 (l0_6 : List Int) (l1_6 : List Int) (x2_6 : Int) : St := ⟨[(0, .val (.sl (.int .i64)) l0_6), (1, .val (.sl (.int .i64)) l1_6), (5, .val (.int .i64) x2_6)], [], 1000⟩
noncomputable def laws_vInts.T : FnText := ⟨(conv [] (bodyOf Go.Proofs.Try.f29) 0).1, Go.Proofs.Try.f29.results.toList, 26, [(6, [(0, .rd (.sl (.int .i64))), (1, .rd (.sl (.int .i64))), (5, .rd (.int .i64))])], [.d (.sl (.int .i64)) none, .d (.sl (.int .i64)) none], [.d .bool none]⟩
noncomputable def laws_vInts.tbl (k : Nat) : Tbl := []
theorem laws_vInts.e6 (k : Nat) (o : Nat → St → Option (Bool)) (l0_6 : List Int) (l1_6 : List Int) (x2_6 : Int) : laws_vInts.T.step tyt (laws_vInts.tbl k) o 6 (laws_vInts.S6 l0_6 l1_6 x2_6) = laws_vInts.b6 (fun l0_6 l1_6 x2_6 => o 6 (laws_vInts.S6 l0_6 l1_6 x2_6)) k l0_6 l1_6 x2_6 := by kernel_rfl
theorem laws_vInts.e (k : Nat) (o : Nat → St → Option (Bool)) (l0 : List Int) (l1 : List Int) : laws_vInts.T.main tyt (laws_vInts.tbl k) o (l0, l1) = laws_vInts.m (fun l0_6 l1_6 x2_6 => o 6 (laws_vInts.S6 l0_6 l1_6 x2_6)) k l0 l1 := by kernel_rfl
theorem laws_vInts.ok : laws_vInts.T.ok = true := by kernel_rfl
theorem laws_vInts.run (k : Nat) : (∀ (l0_6 : List Int) (l1_6 : List Int) (x2_6 : Int), laws_vInts.T.run tyt laws_vInts.tbl k 6 (laws_vInts.S6 l0_6 l1_6 x2_6) = laws_vInts.l6 k l0_6 l1_6 x2_6) := by
  induction k with
  | zero => exact fun l0_6 l1_6 x2_6 => rfl
  | succ k ih =>
    exact fun l0_6 l1_6 x2_6 => by
      have q6 : (fun l0_6 l1_6 x2_6 => laws_vInts.T.run tyt laws_vInts.tbl k 6 (laws_vInts.S6 l0_6 l1_6 x2_6)) = laws_vInts.l6 k := by funext l0_6 l1_6 x2_6; exact ih l0_6 l1_6 x2_6
      exact (laws_vInts.e6 k (laws_vInts.T.run tyt laws_vInts.tbl k) l0_6 l1_6 x2_6).trans (by rw [q6]; rfl)
theorem laws_vInts.tblok (k : Nat) : TblOk Go.Proofs.Try.prog (laws_vInts.tbl k) := TblOk.nil _
theorem laws_vInts.sound (k : Nat) : Sound Go.Proofs.Try.prog 29 (laws_vInts.spec k) := by
  have h := fn_ok (F := laws_vInts.T) (tbl := laws_vInts.tbl) mixed tyok Go.Proofs.Try.func29 (by kernel_rfl) (c0 := bodyOf Go.Proofs.Try.f29) rfl (conv_code _ _ _) rfl rfl laws_vInts.ok k (fun j _ => laws_vInts.tblok j)
  have q6 : (fun l0_6 l1_6 x2_6 => laws_vInts.T.run tyt laws_vInts.tbl k 6 (laws_vInts.S6 l0_6 l1_6 x2_6)) = laws_vInts.l6 k := by funext l0_6 l1_6 x2_6; exact (laws_vInts.run k) l0_6 l1_6 x2_6
  have e : laws_vInts.spec k = ⟨laws_vInts.T.ps, laws_vInts.T.rs, laws_vInts.T.ev tyt laws_vInts.tbl k⟩ := congrArg (FnSpec.mk _ _) (funext fun x => ((laws_vInts.e k (laws_vInts.T.run tyt laws_vInts.tbl k) x.1 x.2).trans (by rw [q6]; rfl)).symm)
  rw [e]
  exact h
/-! ### impl_ringLength: function 186 -/
def impl_ringLength.m (k : Nat) (a0 : Int) (a1 : Int) : Option (Int) := (some (w64 ((w64 (2 * (w64 (a0 + a1)))) - 4)))
def impl_ringLength.f (k : Nat) (a0 : Int) (a1 : Int) : Option (Int) := impl_ringLength.m k a0 a1
noncomputable def impl_ringLength.spec (k : Nat) : FnSpec := ⟨[.d (.int .i64) none, .d (.int .i64) none], [.d (.int .i64) none], fun x => impl_ringLength.f k x.1 x.2⟩
noncomputable def impl_ringLength.T : FnText := ⟨(conv [] (bodyOf Go.Proofs.Try.f186) 0).1, Go.Proofs.Try.f186.results.toList, 10, [], [.d (.int .i64) none, .d (.int .i64) none], [.d (.int .i64) none]⟩
noncomputable def impl_ringLength.tbl (k : Nat) : Tbl := []
theorem impl_ringLength.e (k : Nat) (o : Nat → St → Option (Int)) (a0 : Int) (a1 : Int) : impl_ringLength.T.main tyt (impl_ringLength.tbl k) o (a0, a1) = impl_ringLength.m k a0 a1 := by kernel_rfl
theorem impl_ringLength.ok : impl_ringLength.T.ok = true := by kernel_rfl
theorem impl_ringLength.tblok (k : Nat) : TblOk Go.Proofs.Try.prog (impl_ringLength.tbl k) := TblOk.nil _
theorem impl_ringLength.sound (k : Nat) : Sound Go.Proofs.Try.prog 186 (impl_ringLength.spec k) := by
  have h := fn_ok (F := impl_ringLength.T) (tbl := impl_ringLength.tbl) mixed tyok Go.Proofs.Try.func186 (by kernel_rfl) (c0 := bodyOf Go.Proofs.Try.f186) rfl (conv_code _ _ _) rfl rfl impl_ringLength.ok k (fun j _ => impl_ringLength.tblok j)
  have e : impl_ringLength.spec k = ⟨impl_ringLength.T.ps, impl_ringLength.T.rs, impl_ringLength.T.ev tyt impl_ringLength.tbl k⟩ := congrArg (FnSpec.mk _ _) (funext fun x => ((impl_ringLength.e k (impl_ringLength.T.run tyt impl_ringLength.tbl k) x.1 x.2).trans (by rfl)).symm)
  rw [e]
  exact h
/-! ### slices_Clone_int_int: function 234, by hand -/
def slices_Clone_int_int.f (k : Nat) (l0 : List Int) : Option (List Int) := app 17592186044416 ([] : List Int) l0
noncomputable def slices_Clone_int_int.spec (k : Nat) : FnSpec := ⟨[.d (.sl (.int .i64)) none], [.d (.sl (.int .i64)) (some 3)], fun x => slices_Clone_int_int.f k x⟩
theorem slices_Clone_int_int.sound (k : Nat) : Sound Go.Proofs.Try.prog 234 (slices_Clone_int_int.spec k) := clone_ok (t := 22) (e := 3) (ti := tyt22) (ei := tyt3) (nt := Go.Proofs.Try.f234.ntmps) tyok Go.Proofs.Try.func234 (by kernel_rfl) rfl rfl rfl rfl (by decide) rfl rfl ⟨rfl, rfl, rfl⟩ ⟨rfl, rfl, rfl⟩ ⟨rfl, rfl, rfl⟩ ⟨rfl, rfl, rfl⟩ ⟨rfl, rfl, rfl⟩ ⟨rfl, rfl, rfl⟩ ⟨rfl, rfl, rfl⟩ ⟨rfl, rfl, rfl⟩
/-! ### impl_Chart_copied: function 140 -/
def impl_Chart_copied.m (k : Nat) (a0_0 : Int) (a0_1 : Int) (l0_2 : List Int) : Option (Int × Int × List Int) := ((slices_Clone_int_int.f k l0_2).bind fun r1 => (some (a0_0, a0_1, r1)))
def impl_Chart_copied.f (k : Nat) (a0_0 : Int) (a0_1 : Int) (l0_2 : List Int) : Option (Int × Int × List Int) := impl_Chart_copied.m k a0_0 a0_1 l0_2
noncomputable def impl_Chart_copied.spec (k : Nat) : FnSpec := ⟨[.ag [.d (.int .i64) none, .d (.int .i64) none, .d (.sl (.int .i64)) none]], [.ag [.d (.int .i64) none, .d (.int .i64) none, .d (.sl (.int .i64)) (some 3)]], fun x => impl_Chart_copied.f k x.1 x.2.1 x.2.2⟩
noncomputable def impl_Chart_copied.T : FnText := ⟨(conv [] (bodyOf Go.Proofs.Try.f140) 0).1, Go.Proofs.Try.f140.results.toList, 8, [], [.ag [.d (.int .i64) none, .d (.int .i64) none, .d (.sl (.int .i64)) none]], [.ag [.d (.int .i64) none, .d (.int .i64) none, .d (.sl (.int .i64)) (some 3)]]⟩
noncomputable def impl_Chart_copied.tbl (k : Nat) : Tbl := [(234, slices_Clone_int_int.spec k)]
theorem impl_Chart_copied.e (k : Nat) (o : Nat → St → Option (Int × Int × List Int)) (a0_0 : Int) (a0_1 : Int) (l0_2 : List Int) : impl_Chart_copied.T.main tyt (impl_Chart_copied.tbl k) o (a0_0, a0_1, l0_2) = impl_Chart_copied.m k a0_0 a0_1 l0_2 := by kernel_rfl
theorem impl_Chart_copied.ok : impl_Chart_copied.T.ok = true := by kernel_rfl
theorem impl_Chart_copied.tblok (k : Nat) : TblOk Go.Proofs.Try.prog (impl_Chart_copied.tbl k) := TblOk.cons (slices_Clone_int_int.sound k) (TblOk.nil _)
theorem impl_Chart_copied.sound (k : Nat) : Sound Go.Proofs.Try.prog 140 (impl_Chart_copied.spec k) := by
  have h := fn_ok (F := impl_Chart_copied.T) (tbl := impl_Chart_copied.tbl) mixed tyok Go.Proofs.Try.func140 (by kernel_rfl) (c0 := bodyOf Go.Proofs.Try.f140) rfl (conv_code _ _ _) rfl rfl impl_Chart_copied.ok k (fun j _ => impl_Chart_copied.tblok j)
  have e : impl_Chart_copied.spec k = ⟨impl_Chart_copied.T.ps, impl_Chart_copied.T.rs, impl_Chart_copied.T.ev tyt impl_Chart_copied.tbl k⟩ := congrArg (FnSpec.mk _ _) (funext fun x => ((impl_Chart_copied.e k (impl_Chart_copied.T.run tyt impl_Chart_copied.tbl k) x.1 x.2.1 x.2.2).trans (by rfl)).symm)
  rw [e]
  exact h
/-! ### impl_Chart_withRing: function 187 -/
def impl_Chart_withRing.b4 (o4 : List Int → Int → Int → List Int → Int → Int → List Int → List Int → Int → Int → Option (Int × Int × List Int)) (k : Nat) (l0_4 : List Int) (x1_4 : Int) (x2_4 : Int) (l3_4 : List Int) (x4_4 : Int) (x5_4 : Int) (l6_4 : List Int) (l7_4 : List Int) (x8_4 : Int) (x9_4 : Int) : Option (Int × Int × List Int) := (if x9_4 < x8_4 then ((chk l7_4.length x9_4).bind fun i3 => ((rem x9_4 (l0_4.length : Int)).bind fun q4 => ((chk l0_4.length q4).bind fun i5 => ((chk l6_4.length (l7_4.getD i3 0)).bind fun i6 => (o4 l0_4 x1_4 x2_4 l3_4 x4_4 x5_4 (l6_4.set i6 (l0_4.getD i5 0)) l7_4 x8_4 (w64 (x9_4 + 1))))))) else (some (x4_4, x5_4, l6_4)))
def impl_Chart_withRing.l4 : Nat → List Int → Int → Int → List Int → Int → Int → List Int → List Int → Int → Int → Option (Int × Int × List Int)
  | 0, _, _, _, _, _, _, _, _, _, _ => none
  | k + 1, l0_4, x1_4, x2_4, l3_4, x4_4, x5_4, l6_4, l7_4, x8_4, x9_4 => impl_Chart_withRing.b4 (impl_Chart_withRing.l4 k) k l0_4 x1_4 x2_4 l3_4 x4_4 x5_4 l6_4 l7_4 x8_4 x9_4
def impl_Chart_withRing.m (o4 : List Int → Int → Int → List Int → Int → Int → List Int → List Int → Int → Int → Option (Int × Int × List Int)) (k : Nat) (a0_0 : Int) (a0_1 : Int) (l0_2 : List Int) (l1 : List Int) : Option (Int × Int × List Int) := ((impl_Chart_copied.f k a0_0 a0_1 l0_2).bind fun r1 => ((impl_ringPlaces.f k a0_0 a0_1).bind fun r2 => (o4 l1 0 0 [] r1.1 r1.2.1 r1.2.2 r2 (r2.length : Int) 0)))
def impl_Chart_withRing.f (k : Nat) (a0_0 : Int) (a0_1 : Int) (l0_2 : List Int) (l1 : List Int) : Option (Int × Int × List Int) := impl_Chart_withRing.m (impl_Chart_withRing.l4 k) k a0_0 a0_1 l0_2 l1
noncomputable def impl_Chart_withRing.spec (k : Nat) : FnSpec := ⟨[.ag [.d (.int .i64) none, .d (.int .i64) none, .d (.sl (.int .i64)) none], .d (.sl (.int .i64)) none], [.ag [.d (.int .i64) none, .d (.int .i64) none, .d (.sl (.int .i64)) (some 3)]], fun x => impl_Chart_withRing.f k x.1 x.2.1 x.2.2.1 x.2.2.2⟩
def impl_Chart_withRing.S4 (l0_4 : List Int) (x1_4 : Int) (x2_4 : Int) (l3_4 : List Int) (x4_4 : Int) (x5_4 : Int) (l6_4 : List Int) (l7_4 : List Int) (x8_4 : Int) (x9_4 : Int) : St := ⟨[(1, .val (.sl (.int .i64)) l0_4), (4, .ptr 100 0), (5, .ptr 101 0), (14, .ref 103), (15, .val (.int .i64) x8_4), (16, .val (.int .i64) x9_4)], [(103, some (.row 3 (.int .i64) l7_4)), (101, some (.box [.val (.int .i64) x4_4, .val (.int .i64) x5_4, .ref 102])), (102, some (.row 3 (.int .i64) l6_4)), (100, some (.box [.val (.int .i64) x1_4, .val (.int .i64) x2_4, .val (.sl (.int .i64)) l3_4]))], 1000⟩
noncomputable def impl_Chart_withRing.T : FnText := ⟨(conv [] (bodyOf Go.Proofs.Try.f187) 0).1, Go.Proofs.Try.f187.results.toList, 34, [(4, [(1, .rd (.sl (.int .i64))), (4, .bx 100 [.rd (.int .i64), .rd (.int .i64), .rd (.sl (.int .i64))]), (5, .bx 101 [.rd (.int .i64), .rd (.int .i64), .own 3 (.int .i64) 102]), (14, .own 3 (.int .i64) 103), (15, .rd (.int .i64)), (16, .rd (.int .i64))])], [.ag [.d (.int .i64) none, .d (.int .i64) none, .d (.sl (.int .i64)) none], .d (.sl (.int .i64)) none], [.ag [.d (.int .i64) none, .d (.int .i64) none, .d (.sl (.int .i64)) (some 3)]]⟩
noncomputable def impl_Chart_withRing.tbl (k : Nat) : Tbl := [(140, impl_Chart_copied.spec k), (242, impl_ringPlaces.spec k)]
theorem impl_Chart_withRing.e4 (k : Nat) (o : Nat → St → Option (Int × Int × List Int)) (l0_4 : List Int) (x1_4 : Int) (x2_4 : Int) (l3_4 : List Int) (x4_4 : Int) (x5_4 : Int) (l6_4 : List Int) (l7_4 : List Int) (x8_4 : Int) (x9_4 : Int) : impl_Chart_withRing.T.step tyt (impl_Chart_withRing.tbl k) o 4 (impl_Chart_withRing.S4 l0_4 x1_4 x2_4 l3_4 x4_4 x5_4 l6_4 l7_4 x8_4 x9_4) = impl_Chart_withRing.b4 (fun l0_4 x1_4 x2_4 l3_4 x4_4 x5_4 l6_4 l7_4 x8_4 x9_4 => o 4 (impl_Chart_withRing.S4 l0_4 x1_4 x2_4 l3_4 x4_4 x5_4 l6_4 l7_4 x8_4 x9_4)) k l0_4 x1_4 x2_4 l3_4 x4_4 x5_4 l6_4 l7_4 x8_4 x9_4 := by kernel_rfl
theorem impl_Chart_withRing.e (k : Nat) (o : Nat → St → Option (Int × Int × List Int)) (a0_0 : Int) (a0_1 : Int) (l0_2 : List Int) (l1 : List Int) : impl_Chart_withRing.T.main tyt (impl_Chart_withRing.tbl k) o (a0_0, a0_1, l0_2, l1) = impl_Chart_withRing.m (fun l0_4 x1_4 x2_4 l3_4 x4_4 x5_4 l6_4 l7_4 x8_4 x9_4 => o 4 (impl_Chart_withRing.S4 l0_4 x1_4 x2_4 l3_4 x4_4 x5_4 l6_4 l7_4 x8_4 x9_4)) k a0_0 a0_1 l0_2 l1 := by kernel_rfl
theorem impl_Chart_withRing.ok : impl_Chart_withRing.T.ok = true := by kernel_rfl
theorem impl_Chart_withRing.run (k : Nat) : (∀ (l0_4 : List Int) (x1_4 : Int) (x2_4 : Int) (l3_4 : List Int) (x4_4 : Int) (x5_4 : Int) (l6_4 : List Int) (l7_4 : List Int) (x8_4 : Int) (x9_4 : Int), impl_Chart_withRing.T.run tyt impl_Chart_withRing.tbl k 4 (impl_Chart_withRing.S4 l0_4 x1_4 x2_4 l3_4 x4_4 x5_4 l6_4 l7_4 x8_4 x9_4) = impl_Chart_withRing.l4 k l0_4 x1_4 x2_4 l3_4 x4_4 x5_4 l6_4 l7_4 x8_4 x9_4) := by
  induction k with
  | zero => exact fun l0_4 x1_4 x2_4 l3_4 x4_4 x5_4 l6_4 l7_4 x8_4 x9_4 => rfl
  | succ k ih =>
    exact fun l0_4 x1_4 x2_4 l3_4 x4_4 x5_4 l6_4 l7_4 x8_4 x9_4 => by
      have q4 : (fun l0_4 x1_4 x2_4 l3_4 x4_4 x5_4 l6_4 l7_4 x8_4 x9_4 => impl_Chart_withRing.T.run tyt impl_Chart_withRing.tbl k 4 (impl_Chart_withRing.S4 l0_4 x1_4 x2_4 l3_4 x4_4 x5_4 l6_4 l7_4 x8_4 x9_4)) = impl_Chart_withRing.l4 k := by funext l0_4 x1_4 x2_4 l3_4 x4_4 x5_4 l6_4 l7_4 x8_4 x9_4; exact ih l0_4 x1_4 x2_4 l3_4 x4_4 x5_4 l6_4 l7_4 x8_4 x9_4
      exact (impl_Chart_withRing.e4 k (impl_Chart_withRing.T.run tyt impl_Chart_withRing.tbl k) l0_4 x1_4 x2_4 l3_4 x4_4 x5_4 l6_4 l7_4 x8_4 x9_4).trans (by rw [q4]; rfl)
theorem impl_Chart_withRing.tblok (k : Nat) : TblOk Go.Proofs.Try.prog (impl_Chart_withRing.tbl k) := TblOk.cons (impl_Chart_copied.sound k) (TblOk.cons (impl_ringPlaces.sound k) (TblOk.nil _))
theorem impl_Chart_withRing.sound (k : Nat) : Sound Go.Proofs.Try.prog 187 (impl_Chart_withRing.spec k) := by
  have h := fn_ok (F := impl_Chart_withRing.T) (tbl := impl_Chart_withRing.tbl) mixed tyok Go.Proofs.Try.func187 (by kernel_rfl) (c0 := bodyOf Go.Proofs.Try.f187) rfl (conv_code _ _ _) rfl rfl impl_Chart_withRing.ok k (fun j _ => impl_Chart_withRing.tblok j)
  have q4 : (fun l0_4 x1_4 x2_4 l3_4 x4_4 x5_4 l6_4 l7_4 x8_4 x9_4 => impl_Chart_withRing.T.run tyt impl_Chart_withRing.tbl k 4 (impl_Chart_withRing.S4 l0_4 x1_4 x2_4 l3_4 x4_4 x5_4 l6_4 l7_4 x8_4 x9_4)) = impl_Chart_withRing.l4 k := by funext l0_4 x1_4 x2_4 l3_4 x4_4 x5_4 l6_4 l7_4 x8_4 x9_4; exact (impl_Chart_withRing.run k) l0_4 x1_4 x2_4 l3_4 x4_4 x5_4 l6_4 l7_4 x8_4 x9_4
  have e : impl_Chart_withRing.spec k = ⟨impl_Chart_withRing.T.ps, impl_Chart_withRing.T.rs, impl_Chart_withRing.T.ev tyt impl_Chart_withRing.tbl k⟩ := congrArg (FnSpec.mk _ _) (funext fun x => ((impl_Chart_withRing.e k (impl_Chart_withRing.T.run tyt impl_Chart_withRing.tbl k) x.1 x.2.1 x.2.2.1 x.2.2.2).trans (by rw [q4]; rfl)).symm)
  rw [e]
  exact h
/-! ### impl_PutRing: function 68 -/
def impl_PutRing.m (k : Nat) (a0_0 : Int) (a0_1 : Int) (l0_2 : List Int) (l1 : List Int) : Option (Int × Int × List Int × Bool) := ((impl_hasRing.f k a0_0 a0_1 l0_2).bind fun r1 => (cond (!r1) (some (0, 0, [], false)) ((impl_ringLength.f k a0_0 a0_1).bind fun r2 => (if ¬ (l1.length : Int) = r2 then (some (0, 0, [], false)) else ((impl_areAll_int__impl_isColor.f k l1).bind fun r3 => (cond (!r3) (some (0, 0, [], false)) ((impl_Chart_withRing.f k a0_0 a0_1 l0_2 l1).bind fun r4 => (some (r4.1, r4.2.1, r4.2.2, true)))))))))
def impl_PutRing.f (k : Nat) (a0_0 : Int) (a0_1 : Int) (l0_2 : List Int) (l1 : List Int) : Option (Int × Int × List Int × Bool) := impl_PutRing.m k a0_0 a0_1 l0_2 l1
noncomputable def impl_PutRing.spec (k : Nat) : FnSpec := ⟨[.ag [.d (.int .i64) none, .d (.int .i64) none, .d (.sl (.int .i64)) none], .d (.sl (.int .i64)) none], [.ag [.d (.int .i64) none, .d (.int .i64) none, .d (.sl (.int .i64)) (some 3)], .d .bool none], fun x => impl_PutRing.f k x.1 x.2.1 x.2.2.1 x.2.2.2⟩
noncomputable def impl_PutRing.T : FnText := ⟨(conv [] (bodyOf Go.Proofs.Try.f68) 0).1, Go.Proofs.Try.f68.results.toList, 28, [], [.ag [.d (.int .i64) none, .d (.int .i64) none, .d (.sl (.int .i64)) none], .d (.sl (.int .i64)) none], [.ag [.d (.int .i64) none, .d (.int .i64) none, .d (.sl (.int .i64)) (some 3)], .d .bool none]⟩
noncomputable def impl_PutRing.tbl (k : Nat) : Tbl := [(182, impl_hasRing.spec k), (186, impl_ringLength.spec k), (158, impl_areAll_int__impl_isColor.spec k), (187, impl_Chart_withRing.spec k)]
theorem impl_PutRing.e (k : Nat) (o : Nat → St → Option (Int × Int × List Int × Bool)) (a0_0 : Int) (a0_1 : Int) (l0_2 : List Int) (l1 : List Int) : impl_PutRing.T.main tyt (impl_PutRing.tbl k) o (a0_0, a0_1, l0_2, l1) = impl_PutRing.m k a0_0 a0_1 l0_2 l1 := by kernel_rfl
theorem impl_PutRing.ok : impl_PutRing.T.ok = true := by kernel_rfl
theorem impl_PutRing.tblok (k : Nat) : TblOk Go.Proofs.Try.prog (impl_PutRing.tbl k) := TblOk.cons (impl_hasRing.sound k) (TblOk.cons (impl_ringLength.sound k) (TblOk.cons (impl_areAll_int__impl_isColor.sound k) (TblOk.cons (impl_Chart_withRing.sound k) (TblOk.nil _))))
theorem impl_PutRing.sound (k : Nat) : Sound Go.Proofs.Try.prog 68 (impl_PutRing.spec k) := by
  have h := fn_ok (F := impl_PutRing.T) (tbl := impl_PutRing.tbl) mixed tyok Go.Proofs.Try.func68 (by kernel_rfl) (c0 := bodyOf Go.Proofs.Try.f68) rfl (conv_code _ _ _) rfl rfl impl_PutRing.ok k (fun j _ => impl_PutRing.tblok j)
  have e : impl_PutRing.spec k = ⟨impl_PutRing.T.ps, impl_PutRing.T.rs, impl_PutRing.T.ev tyt impl_PutRing.tbl k⟩ := congrArg (FnSpec.mk _ _) (funext fun x => ((impl_PutRing.e k (impl_PutRing.T.run tyt impl_PutRing.tbl k) x.1 x.2.1 x.2.2.1 x.2.2.2).trans (by rfl)).symm)
  rw [e]
  exact h
/-! ### impl_RingLength: function 69 -/
def impl_RingLength.m (k : Nat) (a0 : Int) (a1 : Int) : Option (Int × Bool) := ((impl_isRingSide.f k a0).bind fun r1 => (cond (!r1) (some (0, false)) ((impl_isRingSide.f k a1).bind fun r2 => (cond (!r2) (some (0, false)) ((impl_ringLength.f k a0 a1).bind fun r3 => (some (r3, true)))))))
def impl_RingLength.f (k : Nat) (a0 : Int) (a1 : Int) : Option (Int × Bool) := impl_RingLength.m k a0 a1
noncomputable def impl_RingLength.spec (k : Nat) : FnSpec := ⟨[.d (.int .i64) none, .d (.int .i64) none], [.d (.int .i64) none, .d .bool none], fun x => impl_RingLength.f k x.1 x.2⟩
noncomputable def impl_RingLength.T : FnText := ⟨(conv [] (bodyOf Go.Proofs.Try.f69) 0).1, Go.Proofs.Try.f69.results.toList, 17, [], [.d (.int .i64) none, .d (.int .i64) none], [.d (.int .i64) none, .d .bool none]⟩
noncomputable def impl_RingLength.tbl (k : Nat) : Tbl := [(188, impl_isRingSide.spec k), (186, impl_ringLength.spec k)]
theorem impl_RingLength.e (k : Nat) (o : Nat → St → Option (Int × Bool)) (a0 : Int) (a1 : Int) : impl_RingLength.T.main tyt (impl_RingLength.tbl k) o (a0, a1) = impl_RingLength.m k a0 a1 := by kernel_rfl
theorem impl_RingLength.ok : impl_RingLength.T.ok = true := by kernel_rfl
theorem impl_RingLength.tblok (k : Nat) : TblOk Go.Proofs.Try.prog (impl_RingLength.tbl k) := TblOk.cons (impl_isRingSide.sound k) (TblOk.cons (impl_ringLength.sound k) (TblOk.nil _))
theorem impl_RingLength.sound (k : Nat) : Sound Go.Proofs.Try.prog 69 (impl_RingLength.spec k) := by
  have h := fn_ok (F := impl_RingLength.T) (tbl := impl_RingLength.tbl) mixed tyok Go.Proofs.Try.func69 (by kernel_rfl) (c0 := bodyOf Go.Proofs.Try.f69) rfl (conv_code _ _ _) rfl rfl impl_RingLength.ok k (fun j _ => impl_RingLength.tblok j)
  have e : impl_RingLength.spec k = ⟨impl_RingLength.T.ps, impl_RingLength.T.rs, impl_RingLength.T.ev tyt impl_RingLength.tbl k⟩ := congrArg (FnSpec.mk _ _) (funext fun x => ((impl_RingLength.e k (impl_RingLength.T.run tyt impl_RingLength.tbl k) x.1 x.2).trans (by rfl)).symm)
  rw [e]
  exact h
/-! ### impl_RingPeriod_1: function 189 -/
def impl_RingPeriod_1.b3 (o3 : Int → List Int → List Int → Int → Int → Option (Bool)) (k : Nat) (x0_3 : Int) (l1_3 : List Int) (l2_3 : List Int) (x3_3 : Int) (x4_3 : Int) : Option (Bool) := (if x4_3 < x3_3 then ((chk l2_3.length x4_3).bind fun i1 => ((rem (w64 (x4_3 + x0_3)) (l1_3.length : Int)).bind fun q2 => ((chk l1_3.length q2).bind fun i3 => (if ¬ (l2_3.getD i1 0) = (l1_3.getD i3 0) then (some false) else (o3 x0_3 l1_3 l2_3 x3_3 (w64 (x4_3 + 1))))))) else ((rem (l1_3.length : Int) x0_3).bind fun q4 => (some (decide (q4 = 0)))))
def impl_RingPeriod_1.l3 : Nat → Int → List Int → List Int → Int → Int → Option (Bool)
  | 0, _, _, _, _, _ => none
  | k + 1, x0_3, l1_3, l2_3, x3_3, x4_3 => impl_RingPeriod_1.b3 (impl_RingPeriod_1.l3 k) k x0_3 l1_3 l2_3 x3_3 x4_3
def impl_RingPeriod_1.m (o3 : Int → List Int → List Int → Int → Int → Option (Bool)) (k : Nat) (a0 : Int) (l1_0 : List Int) : Option (Bool) := (o3 a0 l1_0 l1_0 (l1_0.length : Int) 0)
def impl_RingPeriod_1.f (k : Nat) (a0 : Int) (l1_0 : List Int) : Option (Bool) := impl_RingPeriod_1.m (impl_RingPeriod_1.l3 k) k a0 l1_0
noncomputable def impl_RingPeriod_1.spec (k : Nat) : FnSpec := ⟨[.d (.int .i64) none, .rb [.d (.sl (.int .i64)) none]], [.d .bool none], fun x => impl_RingPeriod_1.f k x.1 x.2⟩
def impl_RingPeriod_1.S3 (x0_3 : Int) (l1_3 : List Int) (l2_3 : List Int) (x3_3 : Int) (x4_3 : Int) : St := ⟨[(0, .val (.int .i64) x0_3), (1, .cptr [.val (.sl (.int .i64)) l1_3] 0), (6, .val (.sl (.int .i64)) l2_3), (7, .val (.int .i64) x3_3), (8, .val (.int .i64) x4_3)], [], 1000⟩
noncomputable def impl_RingPeriod_1.T : FnText := ⟨(conv [] (bodyOf Go.Proofs.Try.f189) 0).1, Go.Proofs.Try.f189.results.toList, 30, [(3, [(0, .rd (.int .i64)), (1, .as), (6, .rd (.sl (.int .i64))), (7, .rd (.int .i64)), (8, .rd (.int .i64))])], [.d (.int .i64) none, .rb [.d (.sl (.int .i64)) none]], [.d .bool none]⟩
noncomputable def impl_RingPeriod_1.tbl (k : Nat) : Tbl := []
theorem impl_RingPeriod_1.e3 (k : Nat) (o : Nat → St → Option (Bool)) (x0_3 : Int) (l1_3 : List Int) (l2_3 : List Int) (x3_3 : Int) (x4_3 : Int) : impl_RingPeriod_1.T.step tyt (impl_RingPeriod_1.tbl k) o 3 (impl_RingPeriod_1.S3 x0_3 l1_3 l2_3 x3_3 x4_3) = impl_RingPeriod_1.b3 (fun x0_3 l1_3 l2_3 x3_3 x4_3 => o 3 (impl_RingPeriod_1.S3 x0_3 l1_3 l2_3 x3_3 x4_3)) k x0_3 l1_3 l2_3 x3_3 x4_3 := by kernel_rfl
theorem impl_RingPeriod_1.e (k : Nat) (o : Nat → St → Option (Bool)) (a0 : Int) (l1_0 : List Int) : impl_RingPeriod_1.T.main tyt (impl_RingPeriod_1.tbl k) o (a0, l1_0) = impl_RingPeriod_1.m (fun x0_3 l1_3 l2_3 x3_3 x4_3 => o 3 (impl_RingPeriod_1.S3 x0_3 l1_3 l2_3 x3_3 x4_3)) k a0 l1_0 := by kernel_rfl
theorem impl_RingPeriod_1.ok : impl_RingPeriod_1.T.ok = true := by kernel_rfl
theorem impl_RingPeriod_1.run (k : Nat) : (∀ (x0_3 : Int) (l1_3 : List Int) (l2_3 : List Int) (x3_3 : Int) (x4_3 : Int), impl_RingPeriod_1.T.run tyt impl_RingPeriod_1.tbl k 3 (impl_RingPeriod_1.S3 x0_3 l1_3 l2_3 x3_3 x4_3) = impl_RingPeriod_1.l3 k x0_3 l1_3 l2_3 x3_3 x4_3) := by
  induction k with
  | zero => exact fun x0_3 l1_3 l2_3 x3_3 x4_3 => rfl
  | succ k ih =>
    exact fun x0_3 l1_3 l2_3 x3_3 x4_3 => by
      have q3 : (fun x0_3 l1_3 l2_3 x3_3 x4_3 => impl_RingPeriod_1.T.run tyt impl_RingPeriod_1.tbl k 3 (impl_RingPeriod_1.S3 x0_3 l1_3 l2_3 x3_3 x4_3)) = impl_RingPeriod_1.l3 k := by funext x0_3 l1_3 l2_3 x3_3 x4_3; exact ih x0_3 l1_3 l2_3 x3_3 x4_3
      exact (impl_RingPeriod_1.e3 k (impl_RingPeriod_1.T.run tyt impl_RingPeriod_1.tbl k) x0_3 l1_3 l2_3 x3_3 x4_3).trans (by rw [q3]; rfl)
theorem impl_RingPeriod_1.tblok (k : Nat) : TblOk Go.Proofs.Try.prog (impl_RingPeriod_1.tbl k) := TblOk.nil _
theorem impl_RingPeriod_1.sound (k : Nat) : Sound Go.Proofs.Try.prog 189 (impl_RingPeriod_1.spec k) := by
  have h := fn_ok (F := impl_RingPeriod_1.T) (tbl := impl_RingPeriod_1.tbl) mixed tyok Go.Proofs.Try.func189 (by kernel_rfl) (c0 := bodyOf Go.Proofs.Try.f189) rfl (conv_code _ _ _) rfl rfl impl_RingPeriod_1.ok k (fun j _ => impl_RingPeriod_1.tblok j)
  have q3 : (fun x0_3 l1_3 l2_3 x3_3 x4_3 => impl_RingPeriod_1.T.run tyt impl_RingPeriod_1.tbl k 3 (impl_RingPeriod_1.S3 x0_3 l1_3 l2_3 x3_3 x4_3)) = impl_RingPeriod_1.l3 k := by funext x0_3 l1_3 l2_3 x3_3 x4_3; exact (impl_RingPeriod_1.run k) x0_3 l1_3 l2_3 x3_3 x4_3
  have e : impl_RingPeriod_1.spec k = ⟨impl_RingPeriod_1.T.ps, impl_RingPeriod_1.T.rs, impl_RingPeriod_1.T.ev tyt impl_RingPeriod_1.tbl k⟩ := congrArg (FnSpec.mk _ _) (funext fun x => ((impl_RingPeriod_1.e k (impl_RingPeriod_1.T.run tyt impl_RingPeriod_1.tbl k) x.1 x.2).trans (by rw [q3]; rfl)).symm)
  rw [e]
  exact h
/-! ### impl_RingPeriod: function 70 -/
def impl_RingPeriod.b8 (o8 : List Int → Int → Option (Int × Bool)) (k : Nat) (l0_8 : List Int) (x1_8 : Int) : Option (Int × Bool) := ((impl_RingPeriod_1.f k x1_8 l0_8).bind fun r3 => (cond (!r3) (o8 l0_8 (w64 (x1_8 + 1))) (some (x1_8, true))))
def impl_RingPeriod.l8 : Nat → List Int → Int → Option (Int × Bool)
  | 0, _, _ => none
  | k + 1, l0_8, x1_8 => impl_RingPeriod.b8 (impl_RingPeriod.l8 k) k l0_8 x1_8
def impl_RingPeriod.m (o8 : List Int → Int → Option (Int × Bool)) (k : Nat) (a0_0 : Int) (a0_1 : Int) (l0_2 : List Int) : Option (Int × Bool) := ((impl_hasRing.f k a0_0 a0_1 l0_2).bind fun r1 => (cond (!r1) (some (0, false)) ((impl_Chart_ring.f k a0_0 a0_1 l0_2).bind fun r2 => (o8 r2 1))))
def impl_RingPeriod.f (k : Nat) (a0_0 : Int) (a0_1 : Int) (l0_2 : List Int) : Option (Int × Bool) := impl_RingPeriod.m (impl_RingPeriod.l8 k) k a0_0 a0_1 l0_2
noncomputable def impl_RingPeriod.spec (k : Nat) : FnSpec := ⟨[.ag [.d (.int .i64) none, .d (.int .i64) none, .d (.sl (.int .i64)) none]], [.d (.int .i64) none, .d .bool none], fun x => impl_RingPeriod.f k x.1 x.2.1 x.2.2⟩
def impl_RingPeriod.S8 (l0_8 : List Int) (x1_8 : Int) : St := ⟨[(5, .fn 189 [] [.cptr [.val (.sl (.int .i64)) l0_8] 0]), (6, .val (.int .i64) x1_8)], [], 1000⟩
noncomputable def impl_RingPeriod.T : FnText := ⟨(conv [] (bodyOf Go.Proofs.Try.f70) 0).1, Go.Proofs.Try.f70.results.toList, 20, [(8, [(5, .fn [] [.fz [.rd (.sl (.int .i64))]]), (6, .rd (.int .i64))])], [.ag [.d (.int .i64) none, .d (.int .i64) none, .d (.sl (.int .i64)) none]], [.d (.int .i64) none, .d .bool none]⟩
noncomputable def impl_RingPeriod.tbl (k : Nat) : Tbl := [(182, impl_hasRing.spec k), (183, impl_Chart_ring.spec k), (189, impl_RingPeriod_1.spec k)]
theorem impl_RingPeriod.e8 (k : Nat) (o : Nat → St → Option (Int × Bool)) (l0_8 : List Int) (x1_8 : Int) : impl_RingPeriod.T.step tyt (impl_RingPeriod.tbl k) o 8 (impl_RingPeriod.S8 l0_8 x1_8) = impl_RingPeriod.b8 (fun l0_8 x1_8 => o 8 (impl_RingPeriod.S8 l0_8 x1_8)) k l0_8 x1_8 := by kernel_rfl
theorem impl_RingPeriod.e (k : Nat) (o : Nat → St → Option (Int × Bool)) (a0_0 : Int) (a0_1 : Int) (l0_2 : List Int) : impl_RingPeriod.T.main tyt (impl_RingPeriod.tbl k) o (a0_0, a0_1, l0_2) = impl_RingPeriod.m (fun l0_8 x1_8 => o 8 (impl_RingPeriod.S8 l0_8 x1_8)) k a0_0 a0_1 l0_2 := by kernel_rfl
theorem impl_RingPeriod.ok : impl_RingPeriod.T.ok = true := by kernel_rfl
theorem impl_RingPeriod.run (k : Nat) : (∀ (l0_8 : List Int) (x1_8 : Int), impl_RingPeriod.T.run tyt impl_RingPeriod.tbl k 8 (impl_RingPeriod.S8 l0_8 x1_8) = impl_RingPeriod.l8 k l0_8 x1_8) := by
  induction k with
  | zero => exact fun l0_8 x1_8 => rfl
  | succ k ih =>
    exact fun l0_8 x1_8 => by
      have q8 : (fun l0_8 x1_8 => impl_RingPeriod.T.run tyt impl_RingPeriod.tbl k 8 (impl_RingPeriod.S8 l0_8 x1_8)) = impl_RingPeriod.l8 k := by funext l0_8 x1_8; exact ih l0_8 x1_8
      exact (impl_RingPeriod.e8 k (impl_RingPeriod.T.run tyt impl_RingPeriod.tbl k) l0_8 x1_8).trans (by rw [q8]; rfl)
theorem impl_RingPeriod.tblok (k : Nat) : TblOk Go.Proofs.Try.prog (impl_RingPeriod.tbl k) := TblOk.cons (impl_hasRing.sound k) (TblOk.cons (impl_Chart_ring.sound k) (TblOk.cons (impl_RingPeriod_1.sound k) (TblOk.nil _)))
theorem impl_RingPeriod.sound (k : Nat) : Sound Go.Proofs.Try.prog 70 (impl_RingPeriod.spec k) := by
  have h := fn_ok (F := impl_RingPeriod.T) (tbl := impl_RingPeriod.tbl) mixed tyok Go.Proofs.Try.func70 (by kernel_rfl) (c0 := bodyOf Go.Proofs.Try.f70) rfl (conv_code _ _ _) rfl rfl impl_RingPeriod.ok k (fun j _ => impl_RingPeriod.tblok j)
  have q8 : (fun l0_8 x1_8 => impl_RingPeriod.T.run tyt impl_RingPeriod.tbl k 8 (impl_RingPeriod.S8 l0_8 x1_8)) = impl_RingPeriod.l8 k := by funext l0_8 x1_8; exact (impl_RingPeriod.run k) l0_8 x1_8
  have e : impl_RingPeriod.spec k = ⟨impl_RingPeriod.T.ps, impl_RingPeriod.T.rs, impl_RingPeriod.T.ev tyt impl_RingPeriod.tbl k⟩ := congrArg (FnSpec.mk _ _) (funext fun x => ((impl_RingPeriod.e k (impl_RingPeriod.T.run tyt impl_RingPeriod.tbl k) x.1 x.2.1 x.2.2).trans (by rw [q8]; rfl)).symm)
  rw [e]
  exact h
/-! ### laws_vChart: function 36 -/
def laws_vChart.m (k : Nat) (a0_0 : Int) (a0_1 : Int) (l0_2 : List Int) (a1_0 : Int) (a1_1 : Int) (l1_2 : List Int) : Option (Bool) := (if a0_0 = a1_0 then (if a0_1 = a1_1 then ((laws_vInts.f k l0_2 l1_2).bind fun r1 => (some r1)) else (some false)) else (some false))
def laws_vChart.f (k : Nat) (a0_0 : Int) (a0_1 : Int) (l0_2 : List Int) (a1_0 : Int) (a1_1 : Int) (l1_2 : List Int) : Option (Bool) := laws_vChart.m k a0_0 a0_1 l0_2 a1_0 a1_1 l1_2
noncomputable def laws_vChart.spec (k : Nat) : FnSpec := ⟨[.ag [.d (.int .i64) none, .d (.int .i64) none, .d (.sl (.int .i64)) none], .ag [.d (.int .i64) none, .d (.int .i64) none, .d (.sl (.int .i64)) none]], [.d .bool none], fun x => laws_vChart.f k x.1 x.2.1 x.2.2.1 x.2.2.2.1 x.2.2.2.2.1 x.2.2.2.2.2⟩
noncomputable def laws_vChart.T : FnText := ⟨(conv [] (bodyOf Go.Proofs.Try.f36) 0).1, Go.Proofs.Try.f36.results.toList, 24, [], [.ag [.d (.int .i64) none, .d (.int .i64) none, .d (.sl (.int .i64)) none], .ag [.d (.int .i64) none, .d (.int .i64) none, .d (.sl (.int .i64)) none]], [.d .bool none]⟩
noncomputable def laws_vChart.tbl (k : Nat) : Tbl := [(29, laws_vInts.spec k)]
theorem laws_vChart.e (k : Nat) (o : Nat → St → Option (Bool)) (a0_0 : Int) (a0_1 : Int) (l0_2 : List Int) (a1_0 : Int) (a1_1 : Int) (l1_2 : List Int) : laws_vChart.T.main tyt (laws_vChart.tbl k) o (a0_0, a0_1, l0_2, a1_0, a1_1, l1_2) = laws_vChart.m k a0_0 a0_1 l0_2 a1_0 a1_1 l1_2 := by kernel_rfl
theorem laws_vChart.ok : laws_vChart.T.ok = true := by kernel_rfl
theorem laws_vChart.tblok (k : Nat) : TblOk Go.Proofs.Try.prog (laws_vChart.tbl k) := TblOk.cons (laws_vInts.sound k) (TblOk.nil _)
theorem laws_vChart.sound (k : Nat) : Sound Go.Proofs.Try.prog 36 (laws_vChart.spec k) := by
  have h := fn_ok (F := laws_vChart.T) (tbl := laws_vChart.tbl) mixed tyok Go.Proofs.Try.func36 (by kernel_rfl) (c0 := bodyOf Go.Proofs.Try.f36) rfl (conv_code _ _ _) rfl rfl laws_vChart.ok k (fun j _ => laws_vChart.tblok j)
  have e : laws_vChart.spec k = ⟨laws_vChart.T.ps, laws_vChart.T.rs, laws_vChart.T.ev tyt laws_vChart.tbl k⟩ := congrArg (FnSpec.mk _ _) (funext fun x => ((laws_vChart.e k (laws_vChart.T.run tyt laws_vChart.tbl k) x.1 x.2.1 x.2.2.1 x.2.2.2.1 x.2.2.2.2.1 x.2.2.2.2.2).trans (by rfl)).symm)
  rw [e]
  exact h
/-! ### spec_l8Length: function 190 -/
def spec_l8Length.m (k : Nat) (a0 : Int) (a1 : Int) : Option (Int) := (some (w64 ((w64 ((w64 (2 * a0)) + (w64 (2 * a1)))) - 4)))
def spec_l8Length.f (k : Nat) (a0 : Int) (a1 : Int) : Option (Int) := spec_l8Length.m k a0 a1
noncomputable def spec_l8Length.spec (k : Nat) : FnSpec := ⟨[.d (.int .i64) none, .d (.int .i64) none], [.d (.int .i64) none], fun x => spec_l8Length.f k x.1 x.2⟩
noncomputable def spec_l8Length.T : FnText := ⟨(conv [] (bodyOf Go.Proofs.Try.f190) 0).1, Go.Proofs.Try.f190.results.toList, 11, [], [.d (.int .i64) none, .d (.int .i64) none], [.d (.int .i64) none]⟩
noncomputable def spec_l8Length.tbl (k : Nat) : Tbl := []
theorem spec_l8Length.e (k : Nat) (o : Nat → St → Option (Int)) (a0 : Int) (a1 : Int) : spec_l8Length.T.main tyt (spec_l8Length.tbl k) o (a0, a1) = spec_l8Length.m k a0 a1 := by kernel_rfl
theorem spec_l8Length.ok : spec_l8Length.T.ok = true := by kernel_rfl
theorem spec_l8Length.tblok (k : Nat) : TblOk Go.Proofs.Try.prog (spec_l8Length.tbl k) := TblOk.nil _
theorem spec_l8Length.sound (k : Nat) : Sound Go.Proofs.Try.prog 190 (spec_l8Length.spec k) := by
  have h := fn_ok (F := spec_l8Length.T) (tbl := spec_l8Length.tbl) mixed tyok Go.Proofs.Try.func190 (by kernel_rfl) (c0 := bodyOf Go.Proofs.Try.f190) rfl (conv_code _ _ _) rfl rfl spec_l8Length.ok k (fun j _ => spec_l8Length.tblok j)
  have e : spec_l8Length.spec k = ⟨spec_l8Length.T.ps, spec_l8Length.T.rs, spec_l8Length.T.ev tyt spec_l8Length.tbl k⟩ := congrArg (FnSpec.mk _ _) (funext fun x => ((spec_l8Length.e k (spec_l8Length.T.run tyt spec_l8Length.tbl k) x.1 x.2).trans (by rfl)).symm)
  rw [e]
  exact h
/-! ### spec_DrawPutRing: function 71 -/
def spec_DrawPutRing.b6 (o6 : Int → Int → List Int → List Int → Int → Int → Int → Int → List Int → List Int → Int → Option (Int × Int × List Int × List Int)) (k : Nat) (x0_6 : Int) (x1_6 : Int) (l2_6 : List Int) (l3_6 : List Int) (x4_6 : Int) (x5_6 : Int) (x6_6 : Int) (x7_6 : Int) (l8_6 : List Int) (l9_6 : List Int) (x10_6 : Int) : Option (Int × Int × List Int × List Int) := ((spec_l8Length.f k x6_6 x7_6).bind fun r2 => (if x10_6 < r2 then ((spec_l1Cur_among_2.f k l3_6 x4_6 x5_6 [0, 1, 2, 5]).bind fun r3 => ((app 17592186044416 l9_6 [r3.1]).bind fun l4 => (o6 x0_6 x1_6 l2_6 r3.2.1 r3.2.2.1 r3.2.2.2.1 x6_6 x7_6 l8_6 l4 (w64 (x10_6 + 1))))) else ((spec_l1Cur_pick.f k l3_6 x4_6 x5_6 16).bind fun r5 => (if r5.1 = 0 then ((app 17592186044416 l9_6 [0]).bind fun l6 => (some (x6_6, x7_6, l8_6, l6))) else (if r5.1 = 1 then (if 0 < (l9_6.length : Int) then ((spec_l1Cur_among_2.f k r5.2.1 r5.2.2.1 r5.2.2.2 [(-1), 6]).bind fun r7 => ((chk l9_6.length 0).bind fun i8 => (some (x6_6, x7_6, l8_6, (l9_6.set i8 r7.1))))) else (some (x6_6, x7_6, l8_6, l9_6))) else (some (x6_6, x7_6, l8_6, l9_6)))))))
def spec_DrawPutRing.l6 : Nat → Int → Int → List Int → List Int → Int → Int → Int → Int → List Int → List Int → Int → Option (Int × Int × List Int × List Int)
  | 0, _, _, _, _, _, _, _, _, _, _, _ => none
  | k + 1, x0_6, x1_6, l2_6, l3_6, x4_6, x5_6, x6_6, x7_6, l8_6, l9_6, x10_6 => spec_DrawPutRing.b6 (spec_DrawPutRing.l6 k) k x0_6 x1_6 l2_6 l3_6 x4_6 x5_6 x6_6 x7_6 l8_6 l9_6 x10_6
def spec_DrawPutRing.m (o6 : Int → Int → List Int → List Int → Int → Int → Int → Int → List Int → List Int → Int → Option (Int × Int × List Int × List Int)) (k : Nat) (l0 : List Int) : Option (Int × Int × List Int × List Int) := ((spec_l1Cur_ringed.f k l0 0 0).bind fun r1 => (o6 0 0 [] r1.2.2.2.1 r1.2.2.2.2.1 r1.2.2.2.2.2 r1.1 r1.2.1 r1.2.2.1 ([] : List (Int)) 0))
def spec_DrawPutRing.f (k : Nat) (l0 : List Int) : Option (Int × Int × List Int × List Int) := spec_DrawPutRing.m (spec_DrawPutRing.l6 k) k l0
noncomputable def spec_DrawPutRing.spec (k : Nat) : FnSpec := ⟨[.d (.sl (.int .u8)) none], [.ag [.d (.int .i64) none, .d (.int .i64) none, .d (.sl (.int .i64)) (some 3)], .d (.sl (.int .i64)) (some 3)], fun x => spec_DrawPutRing.f k x⟩
def spec_DrawPutRing.S6 (x0_6 : Int) (x1_6 : Int) (l2_6 : List Int) (l3_6 : List Int) (x4_6 : Int) (x5_6 : Int) (x6_6 : Int) (x7_6 : Int) (l8_6 : List Int) (l9_6 : List Int) (x10_6 : Int) : St := ⟨[(2, .ptr 100 0), (4, .ptr 101 0), (5, .ptr 102 0), (6, .ref 104), (7, .val (.int .i64) x10_6)], [(104, some (.row 3 (.int .i64) l9_6)), (102, some (.box [.val (.int .i64) x6_6, .val (.int .i64) x7_6, .ref 103])), (103, some (.row 3 (.int .i64) l8_6)), (101, some (.box [.val (.sl (.int .u8)) l3_6, .val (.int .i64) x4_6, .val (.int .u64) x5_6])), (100, some (.box [.val (.int .i64) x0_6, .val (.int .i64) x1_6, .val (.sl (.int .i64)) l2_6]))], 1000⟩
noncomputable def spec_DrawPutRing.T : FnText := ⟨(conv [] (bodyOf Go.Proofs.Try.f71) 0).1, Go.Proofs.Try.f71.results.toList, 48, [(6, [(2, .bx 100 [.rd (.int .i64), .rd (.int .i64), .rd (.sl (.int .i64))]), (4, .bx 101 [.rd (.sl (.int .u8)), .rd (.int .i64), .rd (.int .u64)]), (5, .bx 102 [.rd (.int .i64), .rd (.int .i64), .own 3 (.int .i64) 103]), (6, .own 3 (.int .i64) 104), (7, .rd (.int .i64))])], [.d (.sl (.int .u8)) none], [.ag [.d (.int .i64) none, .d (.int .i64) none, .d (.sl (.int .i64)) (some 3)], .d (.sl (.int .i64)) (some 3)]⟩
noncomputable def spec_DrawPutRing.tbl (k : Nat) : Tbl := [(181, spec_l1Cur_ringed.spec k), (190, spec_l8Length.spec k), (164, spec_l1Cur_among_2.spec k), (162, spec_l1Cur_pick.spec k)]
theorem spec_DrawPutRing.e6 (k : Nat) (o : Nat → St → Option (Int × Int × List Int × List Int)) (x0_6 : Int) (x1_6 : Int) (l2_6 : List Int) (l3_6 : List Int) (x4_6 : Int) (x5_6 : Int) (x6_6 : Int) (x7_6 : Int) (l8_6 : List Int) (l9_6 : List Int) (x10_6 : Int) : spec_DrawPutRing.T.step tyt (spec_DrawPutRing.tbl k) o 6 (spec_DrawPutRing.S6 x0_6 x1_6 l2_6 l3_6 x4_6 x5_6 x6_6 x7_6 l8_6 l9_6 x10_6) = spec_DrawPutRing.b6 (fun x0_6 x1_6 l2_6 l3_6 x4_6 x5_6 x6_6 x7_6 l8_6 l9_6 x10_6 => o 6 (spec_DrawPutRing.S6 x0_6 x1_6 l2_6 l3_6 x4_6 x5_6 x6_6 x7_6 l8_6 l9_6 x10_6)) k x0_6 x1_6 l2_6 l3_6 x4_6 x5_6 x6_6 x7_6 l8_6 l9_6 x10_6 := by kernel_rfl
theorem spec_DrawPutRing.e (k : Nat) (o : Nat → St → Option (Int × Int × List Int × List Int)) (l0 : List Int) : spec_DrawPutRing.T.main tyt (spec_DrawPutRing.tbl k) o l0 = spec_DrawPutRing.m (fun x0_6 x1_6 l2_6 l3_6 x4_6 x5_6 x6_6 x7_6 l8_6 l9_6 x10_6 => o 6 (spec_DrawPutRing.S6 x0_6 x1_6 l2_6 l3_6 x4_6 x5_6 x6_6 x7_6 l8_6 l9_6 x10_6)) k l0 := by kernel_rfl
theorem spec_DrawPutRing.ok : spec_DrawPutRing.T.ok = true := by kernel_rfl
theorem spec_DrawPutRing.run (k : Nat) : (∀ (x0_6 : Int) (x1_6 : Int) (l2_6 : List Int) (l3_6 : List Int) (x4_6 : Int) (x5_6 : Int) (x6_6 : Int) (x7_6 : Int) (l8_6 : List Int) (l9_6 : List Int) (x10_6 : Int), spec_DrawPutRing.T.run tyt spec_DrawPutRing.tbl k 6 (spec_DrawPutRing.S6 x0_6 x1_6 l2_6 l3_6 x4_6 x5_6 x6_6 x7_6 l8_6 l9_6 x10_6) = spec_DrawPutRing.l6 k x0_6 x1_6 l2_6 l3_6 x4_6 x5_6 x6_6 x7_6 l8_6 l9_6 x10_6) := by
  induction k with
  | zero => exact fun x0_6 x1_6 l2_6 l3_6 x4_6 x5_6 x6_6 x7_6 l8_6 l9_6 x10_6 => rfl
  | succ k ih =>
    exact fun x0_6 x1_6 l2_6 l3_6 x4_6 x5_6 x6_6 x7_6 l8_6 l9_6 x10_6 => by
      have q6 : (fun x0_6 x1_6 l2_6 l3_6 x4_6 x5_6 x6_6 x7_6 l8_6 l9_6 x10_6 => spec_DrawPutRing.T.run tyt spec_DrawPutRing.tbl k 6 (spec_DrawPutRing.S6 x0_6 x1_6 l2_6 l3_6 x4_6 x5_6 x6_6 x7_6 l8_6 l9_6 x10_6)) = spec_DrawPutRing.l6 k := by funext x0_6 x1_6 l2_6 l3_6 x4_6 x5_6 x6_6 x7_6 l8_6 l9_6 x10_6; exact ih x0_6 x1_6 l2_6 l3_6 x4_6 x5_6 x6_6 x7_6 l8_6 l9_6 x10_6
      exact (spec_DrawPutRing.e6 k (spec_DrawPutRing.T.run tyt spec_DrawPutRing.tbl k) x0_6 x1_6 l2_6 l3_6 x4_6 x5_6 x6_6 x7_6 l8_6 l9_6 x10_6).trans (by rw [q6]; rfl)
theorem spec_DrawPutRing.tblok (k : Nat) : TblOk Go.Proofs.Try.prog (spec_DrawPutRing.tbl k) := TblOk.cons (spec_l1Cur_ringed.sound k) (TblOk.cons (spec_l8Length.sound k) (TblOk.cons (spec_l1Cur_among_2.sound k) (TblOk.cons (spec_l1Cur_pick.sound k) (TblOk.nil _))))
theorem spec_DrawPutRing.sound (k : Nat) : Sound Go.Proofs.Try.prog 71 (spec_DrawPutRing.spec k) := by
  have h := fn_ok (F := spec_DrawPutRing.T) (tbl := spec_DrawPutRing.tbl) mixed tyok Go.Proofs.Try.func71 (by kernel_rfl) (c0 := bodyOf Go.Proofs.Try.f71) rfl (conv_code _ _ _) rfl rfl spec_DrawPutRing.ok k (fun j _ => spec_DrawPutRing.tblok j)
  have q6 : (fun x0_6 x1_6 l2_6 l3_6 x4_6 x5_6 x6_6 x7_6 l8_6 l9_6 x10_6 => spec_DrawPutRing.T.run tyt spec_DrawPutRing.tbl k 6 (spec_DrawPutRing.S6 x0_6 x1_6 l2_6 l3_6 x4_6 x5_6 x6_6 x7_6 l8_6 l9_6 x10_6)) = spec_DrawPutRing.l6 k := by funext x0_6 x1_6 l2_6 l3_6 x4_6 x5_6 x6_6 x7_6 l8_6 l9_6 x10_6; exact (spec_DrawPutRing.run k) x0_6 x1_6 l2_6 l3_6 x4_6 x5_6 x6_6 x7_6 l8_6 l9_6 x10_6
  have e : spec_DrawPutRing.spec k = ⟨spec_DrawPutRing.T.ps, spec_DrawPutRing.T.rs, spec_DrawPutRing.T.ev tyt spec_DrawPutRing.tbl k⟩ := congrArg (FnSpec.mk _ _) (funext fun x => ((spec_DrawPutRing.e k (spec_DrawPutRing.T.run tyt spec_DrawPutRing.tbl k) x).trans (by rw [q6]; rfl)).symm)
  rw [e]
  exact h
/-! ### spec_PutRing: function 72 -/
def spec_PutRing.m (k : Nat) (a0_0 : Int) (a0_1 : Int) (l0_2 : List Int) (l1 : List Int) : Option (Int × Int × List Int × Bool) := ((spec_l8Good.f k a0_0 a0_1 l0_2).bind fun r1 => (cond (!r1) (some (0, 0, [], false)) ((spec_l8Colors.f k l1).bind fun r2 => (cond (!r2) (some (0, 0, [], false)) ((spec_l8Length.f k a0_0 a0_1).bind fun r3 => (if ¬ (l1.length : Int) = r3 then (some (0, 0, [], false)) else ((spec_l8Put.f k a0_0 a0_1 l0_2 l1).bind fun r4 => (some (r4.1, r4.2.1, r4.2.2, true)))))))))
def spec_PutRing.f (k : Nat) (a0_0 : Int) (a0_1 : Int) (l0_2 : List Int) (l1 : List Int) : Option (Int × Int × List Int × Bool) := spec_PutRing.m k a0_0 a0_1 l0_2 l1
noncomputable def spec_PutRing.spec (k : Nat) : FnSpec := ⟨[.ag [.d (.int .i64) none, .d (.int .i64) none, .d (.sl (.int .i64)) none], .d (.sl (.int .i64)) none], [.ag [.d (.int .i64) none, .d (.int .i64) none, .d (.sl (.int .i64)) (some 3)], .d .bool none], fun x => spec_PutRing.f k x.1 x.2.1 x.2.2.1 x.2.2.2⟩
noncomputable def spec_PutRing.T : FnText := ⟨(conv [] (bodyOf Go.Proofs.Try.f72) 0).1, Go.Proofs.Try.f72.results.toList, 28, [], [.ag [.d (.int .i64) none, .d (.int .i64) none, .d (.sl (.int .i64)) none], .d (.sl (.int .i64)) none], [.ag [.d (.int .i64) none, .d (.int .i64) none, .d (.sl (.int .i64)) (some 3)], .d .bool none]⟩
noncomputable def spec_PutRing.tbl (k : Nat) : Tbl := [(184, spec_l8Good.spec k), (191, spec_l8Colors.spec k), (190, spec_l8Length.spec k), (192, spec_l8Put.spec k)]
theorem spec_PutRing.e (k : Nat) (o : Nat → St → Option (Int × Int × List Int × Bool)) (a0_0 : Int) (a0_1 : Int) (l0_2 : List Int) (l1 : List Int) : spec_PutRing.T.main tyt (spec_PutRing.tbl k) o (a0_0, a0_1, l0_2, l1) = spec_PutRing.m k a0_0 a0_1 l0_2 l1 := by kernel_rfl
theorem spec_PutRing.ok : spec_PutRing.T.ok = true := by kernel_rfl
theorem spec_PutRing.tblok (k : Nat) : TblOk Go.Proofs.Try.prog (spec_PutRing.tbl k) := TblOk.cons (spec_l8Good.sound k) (TblOk.cons (spec_l8Colors.sound k) (TblOk.cons (spec_l8Length.sound k) (TblOk.cons (spec_l8Put.sound k) (TblOk.nil _))))
theorem spec_PutRing.sound (k : Nat) : Sound Go.Proofs.Try.prog 72 (spec_PutRing.spec k) := by
  have h := fn_ok (F := spec_PutRing.T) (tbl := spec_PutRing.tbl) mixed tyok Go.Proofs.Try.func72 (by kernel_rfl) (c0 := bodyOf Go.Proofs.Try.f72) rfl (conv_code _ _ _) rfl rfl spec_PutRing.ok k (fun j _ => spec_PutRing.tblok j)
  have e : spec_PutRing.spec k = ⟨spec_PutRing.T.ps, spec_PutRing.T.rs, spec_PutRing.T.ev tyt spec_PutRing.tbl k⟩ := congrArg (FnSpec.mk _ _) (funext fun x => ((spec_PutRing.e k (spec_PutRing.T.run tyt spec_PutRing.tbl k) x.1 x.2.1 x.2.2.1 x.2.2.2).trans (by rfl)).symm)
  rw [e]
  exact h
/-! ### spec_DrawRingPeriod: function 73 -/
def spec_DrawRingPeriod.m (k : Nat) (l0 : List Int) : Option (Int × Int × List Int) := ((spec_DrawRingOf.f k l0).bind fun r1 => (some (r1.1, r1.2.1, r1.2.2)))
def spec_DrawRingPeriod.f (k : Nat) (l0 : List Int) : Option (Int × Int × List Int) := spec_DrawRingPeriod.m k l0
noncomputable def spec_DrawRingPeriod.spec (k : Nat) : FnSpec := ⟨[.d (.sl (.int .u8)) none], [.ag [.d (.int .i64) none, .d (.int .i64) none, .d (.sl (.int .i64)) (some 3)]], fun x => spec_DrawRingPeriod.f k x⟩
noncomputable def spec_DrawRingPeriod.T : FnText := ⟨(conv [] (bodyOf Go.Proofs.Try.f73) 0).1, Go.Proofs.Try.f73.results.toList, 5, [], [.d (.sl (.int .u8)) none], [.ag [.d (.int .i64) none, .d (.int .i64) none, .d (.sl (.int .i64)) (some 3)]]⟩
noncomputable def spec_DrawRingPeriod.tbl (k : Nat) : Tbl := [(65, spec_DrawRingOf.spec k)]
theorem spec_DrawRingPeriod.e (k : Nat) (o : Nat → St → Option (Int × Int × List Int)) (l0 : List Int) : spec_DrawRingPeriod.T.main tyt (spec_DrawRingPeriod.tbl k) o l0 = spec_DrawRingPeriod.m k l0 := by kernel_rfl
theorem spec_DrawRingPeriod.ok : spec_DrawRingPeriod.T.ok = true := by kernel_rfl
theorem spec_DrawRingPeriod.tblok (k : Nat) : TblOk Go.Proofs.Try.prog (spec_DrawRingPeriod.tbl k) := TblOk.cons (spec_DrawRingOf.sound k) (TblOk.nil _)
theorem spec_DrawRingPeriod.sound (k : Nat) : Sound Go.Proofs.Try.prog 73 (spec_DrawRingPeriod.spec k) := by
  have h := fn_ok (F := spec_DrawRingPeriod.T) (tbl := spec_DrawRingPeriod.tbl) mixed tyok Go.Proofs.Try.func73 (by kernel_rfl) (c0 := bodyOf Go.Proofs.Try.f73) rfl (conv_code _ _ _) rfl rfl spec_DrawRingPeriod.ok k (fun j _ => spec_DrawRingPeriod.tblok j)
  have e : spec_DrawRingPeriod.spec k = ⟨spec_DrawRingPeriod.T.ps, spec_DrawRingPeriod.T.rs, spec_DrawRingPeriod.T.ev tyt spec_DrawRingPeriod.tbl k⟩ := congrArg (FnSpec.mk _ _) (funext fun x => ((spec_DrawRingPeriod.e k (spec_DrawRingPeriod.T.run tyt spec_DrawRingPeriod.tbl k) x).trans (by rfl)).symm)
  rw [e]
  exact h
/-! ### spec_RingPeriod: function 74 -/
def spec_RingPeriod.b7 (o14 : List Int → Int → Bool → Int → Option (Int × Bool)) (k : Nat) (l0_7 : List Int) (x1_7 : Int) : Option (Int × Bool) := (if x1_7 < (l0_7.length : Int) then ((rem (l0_7.length : Int) x1_7).bind fun q3 => (o14 l0_7 x1_7 (decide (q3 = 0)) 0)) else (some ((l0_7.length : Int), true)))
def spec_RingPeriod.b14 (o7 : List Int → Int → Option (Int × Bool)) (o14 : List Int → Int → Bool → Int → Option (Int × Bool)) (k : Nat) (l0_14 : List Int) (x1_14 : Int) (x2_14 : Bool) (x3_14 : Int) : Option (Int × Bool) := (if x3_14 < (l0_14.length : Int) then (cond x2_14 ((chk l0_14.length x3_14).bind fun i4 => ((rem (w64 (x3_14 + x1_14)) (l0_14.length : Int)).bind fun q5 => ((chk l0_14.length q5).bind fun i6 => (o14 l0_14 x1_14 (decide ((l0_14.getD i4 0) = (l0_14.getD i6 0))) (w64 (x3_14 + 1)))))) (cond x2_14 (some (x1_14, true)) (o7 l0_14 (w64 (x1_14 + 1))))) else (cond x2_14 (some (x1_14, true)) (o7 l0_14 (w64 (x1_14 + 1)))))
mutual
def spec_RingPeriod.l7 : Nat → List Int → Int → Option (Int × Bool)
  | 0, _, _ => none
  | k + 1, l0_7, x1_7 => spec_RingPeriod.b7 (spec_RingPeriod.l14 k) k l0_7 x1_7
def spec_RingPeriod.l14 : Nat → List Int → Int → Bool → Int → Option (Int × Bool)
  | 0, _, _, _, _ => none
  | k + 1, l0_14, x1_14, x2_14, x3_14 => spec_RingPeriod.b14 (spec_RingPeriod.l7 k) (spec_RingPeriod.l14 k) k l0_14 x1_14 x2_14 x3_14
end
def spec_RingPeriod.m (o7 : List Int → Int → Option (Int × Bool)) (k : Nat) (a0_0 : Int) (a0_1 : Int) (l0_2 : List Int) : Option (Int × Bool) := ((spec_l8Good.f k a0_0 a0_1 l0_2).bind fun r1 => (cond (!r1) (some (0, false)) ((spec_l8Ring.f k a0_0 a0_1 l0_2).bind fun r2 => (o7 r2 1))))
def spec_RingPeriod.f (k : Nat) (a0_0 : Int) (a0_1 : Int) (l0_2 : List Int) : Option (Int × Bool) := spec_RingPeriod.m (spec_RingPeriod.l7 k) k a0_0 a0_1 l0_2
noncomputable def spec_RingPeriod.spec (k : Nat) : FnSpec := ⟨[.ag [.d (.int .i64) none, .d (.int .i64) none, .d (.sl (.int .i64)) none]], [.d (.int .i64) none, .d .bool none], fun x => spec_RingPeriod.f k x.1 x.2.1 x.2.2⟩
def spec_RingPeriod.S7 (l0_7 : List Int) (x1_7 : Int) : St := ⟨[(4, .ref 100), (5, .val (.int .i64) x1_7)], [(100, some (.row 3 (.int .i64) l0_7))], 1000⟩
def spec_RingPeriod.S14 (l0_14 : List Int) (x1_14 : Int) (x2_14 : Bool) (x3_14 : Int) : St := ⟨[(4, .ref 100), (5, .val (.int .i64) x1_14), (6, .val .bool x2_14), (7, .val (.int .i64) x3_14)], [(100, some (.row 3 (.int .i64) l0_14))], 1000⟩
noncomputable def spec_RingPeriod.T : FnText := ⟨(conv [] (bodyOf Go.Proofs.Try.f74) 0).1, Go.Proofs.Try.f74.results.toList, 51, [(7, [(4, .own 3 (.int .i64) 100), (5, .rd (.int .i64))]), (14, [(4, .own 3 (.int .i64) 100), (5, .rd (.int .i64)), (6, .rd .bool), (7, .rd (.int .i64))])], [.ag [.d (.int .i64) none, .d (.int .i64) none, .d (.sl (.int .i64)) none]], [.d (.int .i64) none, .d .bool none]⟩
noncomputable def spec_RingPeriod.tbl (k : Nat) : Tbl := [(184, spec_l8Good.spec k), (185, spec_l8Ring.spec k)]
theorem spec_RingPeriod.e7 (k : Nat) (o : Nat → St → Option (Int × Bool)) (l0_7 : List Int) (x1_7 : Int) : spec_RingPeriod.T.step tyt (spec_RingPeriod.tbl k) o 7 (spec_RingPeriod.S7 l0_7 x1_7) = spec_RingPeriod.b7 (fun l0_14 x1_14 x2_14 x3_14 => o 14 (spec_RingPeriod.S14 l0_14 x1_14 x2_14 x3_14)) k l0_7 x1_7 := by kernel_rfl
theorem spec_RingPeriod.e14 (k : Nat) (o : Nat → St → Option (Int × Bool)) (l0_14 : List Int) (x1_14 : Int) (x2_14 : Bool) (x3_14 : Int) : spec_RingPeriod.T.step tyt (spec_RingPeriod.tbl k) o 14 (spec_RingPeriod.S14 l0_14 x1_14 x2_14 x3_14) = spec_RingPeriod.b14 (fun l0_7 x1_7 => o 7 (spec_RingPeriod.S7 l0_7 x1_7)) (fun l0_14 x1_14 x2_14 x3_14 => o 14 (spec_RingPeriod.S14 l0_14 x1_14 x2_14 x3_14)) k l0_14 x1_14 x2_14 x3_14 := by kernel_rfl
theorem spec_RingPeriod.e (k : Nat) (o : Nat → St → Option (Int × Bool)) (a0_0 : Int) (a0_1 : Int) (l0_2 : List Int) : spec_RingPeriod.T.main tyt (spec_RingPeriod.tbl k) o (a0_0, a0_1, l0_2) = spec_RingPeriod.m (fun l0_7 x1_7 => o 7 (spec_RingPeriod.S7 l0_7 x1_7)) k a0_0 a0_1 l0_2 := by kernel_rfl
theorem spec_RingPeriod.ok : spec_RingPeriod.T.ok = true := by kernel_rfl
theorem spec_RingPeriod.run (k : Nat) : (∀ (l0_7 : List Int) (x1_7 : Int), spec_RingPeriod.T.run tyt spec_RingPeriod.tbl k 7 (spec_RingPeriod.S7 l0_7 x1_7) = spec_RingPeriod.l7 k l0_7 x1_7) ∧ (∀ (l0_14 : List Int) (x1_14 : Int) (x2_14 : Bool) (x3_14 : Int), spec_RingPeriod.T.run tyt spec_RingPeriod.tbl k 14 (spec_RingPeriod.S14 l0_14 x1_14 x2_14 x3_14) = spec_RingPeriod.l14 k l0_14 x1_14 x2_14 x3_14) := by
  induction k with
  | zero => exact ⟨fun l0_7 x1_7 => rfl, fun l0_14 x1_14 x2_14 x3_14 => rfl⟩
  | succ k ih =>
    exact ⟨fun l0_7 x1_7 => by
      have q14 : (fun l0_14 x1_14 x2_14 x3_14 => spec_RingPeriod.T.run tyt spec_RingPeriod.tbl k 14 (spec_RingPeriod.S14 l0_14 x1_14 x2_14 x3_14)) = spec_RingPeriod.l14 k := by funext l0_14 x1_14 x2_14 x3_14; exact ih.2 l0_14 x1_14 x2_14 x3_14
      exact (spec_RingPeriod.e7 k (spec_RingPeriod.T.run tyt spec_RingPeriod.tbl k) l0_7 x1_7).trans (by rw [q14]; rfl), fun l0_14 x1_14 x2_14 x3_14 => by
      have q7 : (fun l0_7 x1_7 => spec_RingPeriod.T.run tyt spec_RingPeriod.tbl k 7 (spec_RingPeriod.S7 l0_7 x1_7)) = spec_RingPeriod.l7 k := by funext l0_7 x1_7; exact ih.1 l0_7 x1_7
      have q14 : (fun l0_14 x1_14 x2_14 x3_14 => spec_RingPeriod.T.run tyt spec_RingPeriod.tbl k 14 (spec_RingPeriod.S14 l0_14 x1_14 x2_14 x3_14)) = spec_RingPeriod.l14 k := by funext l0_14 x1_14 x2_14 x3_14; exact ih.2 l0_14 x1_14 x2_14 x3_14
      exact (spec_RingPeriod.e14 k (spec_RingPeriod.T.run tyt spec_RingPeriod.tbl k) l0_14 x1_14 x2_14 x3_14).trans (by rw [q7, q14]; rfl)⟩
theorem spec_RingPeriod.tblok (k : Nat) : TblOk Go.Proofs.Try.prog (spec_RingPeriod.tbl k) := TblOk.cons (spec_l8Good.sound k) (TblOk.cons (spec_l8Ring.sound k) (TblOk.nil _))
theorem spec_RingPeriod.sound (k : Nat) : Sound Go.Proofs.Try.prog 74 (spec_RingPeriod.spec k) := by
  have h := fn_ok (F := spec_RingPeriod.T) (tbl := spec_RingPeriod.tbl) mixed tyok Go.Proofs.Try.func74 (by kernel_rfl) (c0 := bodyOf Go.Proofs.Try.f74) rfl (conv_code _ _ _) rfl rfl spec_RingPeriod.ok k (fun j _ => spec_RingPeriod.tblok j)
  have q7 : (fun l0_7 x1_7 => spec_RingPeriod.T.run tyt spec_RingPeriod.tbl k 7 (spec_RingPeriod.S7 l0_7 x1_7)) = spec_RingPeriod.l7 k := by funext l0_7 x1_7; exact (spec_RingPeriod.run k).1 l0_7 x1_7
  have e : spec_RingPeriod.spec k = ⟨spec_RingPeriod.T.ps, spec_RingPeriod.T.rs, spec_RingPeriod.T.ev tyt spec_RingPeriod.tbl k⟩ := congrArg (FnSpec.mk _ _) (funext fun x => ((spec_RingPeriod.e k (spec_RingPeriod.T.run tyt spec_RingPeriod.tbl k) x.1 x.2.1 x.2.2).trans (by rw [q7]; rfl)).symm)
  rw [e]
  exact h
/-! ### spec_DrawCornersOf: function 75 -/
def spec_DrawCornersOf.m (k : Nat) (l0 : List Int) : Option (Int × Int × List Int) := ((spec_DrawRingOf.f k l0).bind fun r1 => (some (r1.1, r1.2.1, r1.2.2)))
def spec_DrawCornersOf.f (k : Nat) (l0 : List Int) : Option (Int × Int × List Int) := spec_DrawCornersOf.m k l0
noncomputable def spec_DrawCornersOf.spec (k : Nat) : FnSpec := ⟨[.d (.sl (.int .u8)) none], [.ag [.d (.int .i64) none, .d (.int .i64) none, .d (.sl (.int .i64)) (some 3)]], fun x => spec_DrawCornersOf.f k x⟩
noncomputable def spec_DrawCornersOf.T : FnText := ⟨(conv [] (bodyOf Go.Proofs.Try.f75) 0).1, Go.Proofs.Try.f75.results.toList, 5, [], [.d (.sl (.int .u8)) none], [.ag [.d (.int .i64) none, .d (.int .i64) none, .d (.sl (.int .i64)) (some 3)]]⟩
noncomputable def spec_DrawCornersOf.tbl (k : Nat) : Tbl := [(65, spec_DrawRingOf.spec k)]
theorem spec_DrawCornersOf.e (k : Nat) (o : Nat → St → Option (Int × Int × List Int)) (l0 : List Int) : spec_DrawCornersOf.T.main tyt (spec_DrawCornersOf.tbl k) o l0 = spec_DrawCornersOf.m k l0 := by kernel_rfl
theorem spec_DrawCornersOf.ok : spec_DrawCornersOf.T.ok = true := by kernel_rfl
theorem spec_DrawCornersOf.tblok (k : Nat) : TblOk Go.Proofs.Try.prog (spec_DrawCornersOf.tbl k) := TblOk.cons (spec_DrawRingOf.sound k) (TblOk.nil _)
theorem spec_DrawCornersOf.sound (k : Nat) : Sound Go.Proofs.Try.prog 75 (spec_DrawCornersOf.spec k) := by
  have h := fn_ok (F := spec_DrawCornersOf.T) (tbl := spec_DrawCornersOf.tbl) mixed tyok Go.Proofs.Try.func75 (by kernel_rfl) (c0 := bodyOf Go.Proofs.Try.f75) rfl (conv_code _ _ _) rfl rfl spec_DrawCornersOf.ok k (fun j _ => spec_DrawCornersOf.tblok j)
  have e : spec_DrawCornersOf.spec k = ⟨spec_DrawCornersOf.T.ps, spec_DrawCornersOf.T.rs, spec_DrawCornersOf.T.ev tyt spec_DrawCornersOf.tbl k⟩ := congrArg (FnSpec.mk _ _) (funext fun x => ((spec_DrawCornersOf.e k (spec_DrawCornersOf.T.run tyt spec_DrawCornersOf.tbl k) x).trans (by rfl)).symm)
  rw [e]
  exact h
/-! ### impl_Chart_at: function 171 -/
def impl_Chart_at.m (k : Nat) (a0_0 : Int) (a0_1 : Int) (l0_2 : List Int) (a1 : Int) (a2 : Int) : Option (Int) := ((chk l0_2.length (w64 ((w64 (a1 * a0_0)) + a2))).bind fun i1 => (some (l0_2.getD i1 0)))
def impl_Chart_at.f (k : Nat) (a0_0 : Int) (a0_1 : Int) (l0_2 : List Int) (a1 : Int) (a2 : Int) : Option (Int) := impl_Chart_at.m k a0_0 a0_1 l0_2 a1 a2
noncomputable def impl_Chart_at.spec (k : Nat) : FnSpec := ⟨[.ag [.d (.int .i64) none, .d (.int .i64) none, .d (.sl (.int .i64)) none], .d (.int .i64) none, .d (.int .i64) none], [.d (.int .i64) none], fun x => impl_Chart_at.f k x.1 x.2.1 x.2.2.1 x.2.2.2.1 x.2.2.2.2⟩
noncomputable def impl_Chart_at.T : FnText := ⟨(conv [] (bodyOf Go.Proofs.Try.f171) 0).1, Go.Proofs.Try.f171.results.toList, 17, [], [.ag [.d (.int .i64) none, .d (.int .i64) none, .d (.sl (.int .i64)) none], .d (.int .i64) none, .d (.int .i64) none], [.d (.int .i64) none]⟩
noncomputable def impl_Chart_at.tbl (k : Nat) : Tbl := []
theorem impl_Chart_at.e (k : Nat) (o : Nat → St → Option (Int)) (a0_0 : Int) (a0_1 : Int) (l0_2 : List Int) (a1 : Int) (a2 : Int) : impl_Chart_at.T.main tyt (impl_Chart_at.tbl k) o (a0_0, a0_1, l0_2, a1, a2) = impl_Chart_at.m k a0_0 a0_1 l0_2 a1 a2 := by kernel_rfl
theorem impl_Chart_at.ok : impl_Chart_at.T.ok = true := by kernel_rfl
theorem impl_Chart_at.tblok (k : Nat) : TblOk Go.Proofs.Try.prog (impl_Chart_at.tbl k) := TblOk.nil _
theorem impl_Chart_at.sound (k : Nat) : Sound Go.Proofs.Try.prog 171 (impl_Chart_at.spec k) := by
  have h := fn_ok (F := impl_Chart_at.T) (tbl := impl_Chart_at.tbl) mixed tyok Go.Proofs.Try.func171 (by kernel_rfl) (c0 := bodyOf Go.Proofs.Try.f171) rfl (conv_code _ _ _) rfl rfl impl_Chart_at.ok k (fun j _ => impl_Chart_at.tblok j)
  have e : impl_Chart_at.spec k = ⟨impl_Chart_at.T.ps, impl_Chart_at.T.rs, impl_Chart_at.T.ev tyt impl_Chart_at.tbl k⟩ := congrArg (FnSpec.mk _ _) (funext fun x => ((impl_Chart_at.e k (impl_Chart_at.T.run tyt impl_Chart_at.tbl k) x.1 x.2.1 x.2.2.1 x.2.2.2.1 x.2.2.2.2).trans (by rfl)).symm)
  rw [e]
  exact h
/-! ### impl_CornersOf: function 76 -/
def impl_CornersOf.m (k : Nat) (a0_0 : Int) (a0_1 : Int) (l0_2 : List Int) : Option (List Int × Bool) := ((impl_hasRing.f k a0_0 a0_1 l0_2).bind fun r1 => (cond (!r1) (some ([], false)) ((impl_Chart_at.f k a0_0 a0_1 l0_2 0 0).bind fun r2 => ((impl_Chart_at.f k a0_0 a0_1 l0_2 0 (w64 (a0_0 - 1))).bind fun r3 => ((impl_Chart_at.f k a0_0 a0_1 l0_2 (w64 (a0_1 - 1)) (w64 (a0_0 - 1))).bind fun r4 => ((impl_Chart_at.f k a0_0 a0_1 l0_2 (w64 (a0_1 - 1)) 0).bind fun r5 => (some ([r2, r3, r4, r5], true))))))))
def impl_CornersOf.f (k : Nat) (a0_0 : Int) (a0_1 : Int) (l0_2 : List Int) : Option (List Int × Bool) := impl_CornersOf.m k a0_0 a0_1 l0_2
noncomputable def impl_CornersOf.spec (k : Nat) : FnSpec := ⟨[.ag [.d (.int .i64) none, .d (.int .i64) none, .d (.sl (.int .i64)) none]], [.d (.sl (.int .i64)) (some 3), .d .bool none], fun x => impl_CornersOf.f k x.1 x.2.1 x.2.2⟩
noncomputable def impl_CornersOf.T : FnText := ⟨(conv [] (bodyOf Go.Proofs.Try.f76) 0).1, Go.Proofs.Try.f76.results.toList, 28, [], [.ag [.d (.int .i64) none, .d (.int .i64) none, .d (.sl (.int .i64)) none]], [.d (.sl (.int .i64)) (some 3), .d .bool none]⟩
noncomputable def impl_CornersOf.tbl (k : Nat) : Tbl := [(182, impl_hasRing.spec k), (171, impl_Chart_at.spec k)]
theorem impl_CornersOf.e (k : Nat) (o : Nat → St → Option (List Int × Bool)) (a0_0 : Int) (a0_1 : Int) (l0_2 : List Int) : impl_CornersOf.T.main tyt (impl_CornersOf.tbl k) o (a0_0, a0_1, l0_2) = impl_CornersOf.m k a0_0 a0_1 l0_2 := by kernel_rfl
theorem impl_CornersOf.ok : impl_CornersOf.T.ok = true := by kernel_rfl
theorem impl_CornersOf.tblok (k : Nat) : TblOk Go.Proofs.Try.prog (impl_CornersOf.tbl k) := TblOk.cons (impl_hasRing.sound k) (TblOk.cons (impl_Chart_at.sound k) (TblOk.nil _))
theorem impl_CornersOf.sound (k : Nat) : Sound Go.Proofs.Try.prog 76 (impl_CornersOf.spec k) := by
  have h := fn_ok (F := impl_CornersOf.T) (tbl := impl_CornersOf.tbl) mixed tyok Go.Proofs.Try.func76 (by kernel_rfl) (c0 := bodyOf Go.Proofs.Try.f76) rfl (conv_code _ _ _) rfl rfl impl_CornersOf.ok k (fun j _ => impl_CornersOf.tblok j)
  have e : impl_CornersOf.spec k = ⟨impl_CornersOf.T.ps, impl_CornersOf.T.rs, impl_CornersOf.T.ev tyt impl_CornersOf.tbl k⟩ := congrArg (FnSpec.mk _ _) (funext fun x => ((impl_CornersOf.e k (impl_CornersOf.T.run tyt impl_CornersOf.tbl k) x.1 x.2.1 x.2.2).trans (by rfl)).symm)
  rw [e]
  exact h
/-! ### spec_l2At: function 176 -/
def spec_l2At.m (k : Nat) (a0_0 : Int) (a0_1 : Int) (l0_2 : List Int) (a1 : Int) (a2 : Int) : Option (Int) := ((chk l0_2.length (w64 ((w64 (a1 * a0_0)) + a2))).bind fun i1 => (some (l0_2.getD i1 0)))
def spec_l2At.f (k : Nat) (a0_0 : Int) (a0_1 : Int) (l0_2 : List Int) (a1 : Int) (a2 : Int) : Option (Int) := spec_l2At.m k a0_0 a0_1 l0_2 a1 a2
noncomputable def spec_l2At.spec (k : Nat) : FnSpec := ⟨[.ag [.d (.int .i64) none, .d (.int .i64) none, .d (.sl (.int .i64)) none], .d (.int .i64) none, .d (.int .i64) none], [.d (.int .i64) none], fun x => spec_l2At.f k x.1 x.2.1 x.2.2.1 x.2.2.2.1 x.2.2.2.2⟩
noncomputable def spec_l2At.T : FnText := ⟨(conv [] (bodyOf Go.Proofs.Try.f176) 0).1, Go.Proofs.Try.f176.results.toList, 17, [], [.ag [.d (.int .i64) none, .d (.int .i64) none, .d (.sl (.int .i64)) none], .d (.int .i64) none, .d (.int .i64) none], [.d (.int .i64) none]⟩
noncomputable def spec_l2At.tbl (k : Nat) : Tbl := []
theorem spec_l2At.e (k : Nat) (o : Nat → St → Option (Int)) (a0_0 : Int) (a0_1 : Int) (l0_2 : List Int) (a1 : Int) (a2 : Int) : spec_l2At.T.main tyt (spec_l2At.tbl k) o (a0_0, a0_1, l0_2, a1, a2) = spec_l2At.m k a0_0 a0_1 l0_2 a1 a2 := by kernel_rfl
theorem spec_l2At.ok : spec_l2At.T.ok = true := by kernel_rfl
theorem spec_l2At.tblok (k : Nat) : TblOk Go.Proofs.Try.prog (spec_l2At.tbl k) := TblOk.nil _
theorem spec_l2At.sound (k : Nat) : Sound Go.Proofs.Try.prog 176 (spec_l2At.spec k) := by
  have h := fn_ok (F := spec_l2At.T) (tbl := spec_l2At.tbl) mixed tyok Go.Proofs.Try.func176 (by kernel_rfl) (c0 := bodyOf Go.Proofs.Try.f176) rfl (conv_code _ _ _) rfl rfl spec_l2At.ok k (fun j _ => spec_l2At.tblok j)
  have e : spec_l2At.spec k = ⟨spec_l2At.T.ps, spec_l2At.T.rs, spec_l2At.T.ev tyt spec_l2At.tbl k⟩ := congrArg (FnSpec.mk _ _) (funext fun x => ((spec_l2At.e k (spec_l2At.T.run tyt spec_l2At.tbl k) x.1 x.2.1 x.2.2.1 x.2.2.2.1 x.2.2.2.2).trans (by rfl)).symm)
  rw [e]
  exact h
/-! ### spec_CornersOf: function 77 -/
def spec_CornersOf.m (k : Nat) (a0_0 : Int) (a0_1 : Int) (l0_2 : List Int) : Option (List Int × Bool) := ((spec_l8Good.f k a0_0 a0_1 l0_2).bind fun r1 => (cond (!r1) (some (([] : List (Int)), false)) ((spec_l2At.f k a0_0 a0_1 l0_2 0 0).bind fun r2 => ((spec_l2At.f k a0_0 a0_1 l0_2 0 (w64 (a0_0 - 1))).bind fun r3 => ((spec_l2At.f k a0_0 a0_1 l0_2 (w64 (a0_1 - 1)) (w64 (a0_0 - 1))).bind fun r4 => ((spec_l2At.f k a0_0 a0_1 l0_2 (w64 (a0_1 - 1)) 0).bind fun r5 => (some ([r2, r3, r4, r5], true))))))))
def spec_CornersOf.f (k : Nat) (a0_0 : Int) (a0_1 : Int) (l0_2 : List Int) : Option (List Int × Bool) := spec_CornersOf.m k a0_0 a0_1 l0_2
noncomputable def spec_CornersOf.spec (k : Nat) : FnSpec := ⟨[.ag [.d (.int .i64) none, .d (.int .i64) none, .d (.sl (.int .i64)) none]], [.d (.sl (.int .i64)) (some 3), .d .bool none], fun x => spec_CornersOf.f k x.1 x.2.1 x.2.2⟩
noncomputable def spec_CornersOf.T : FnText := ⟨(conv [] (bodyOf Go.Proofs.Try.f77) 0).1, Go.Proofs.Try.f77.results.toList, 29, [], [.ag [.d (.int .i64) none, .d (.int .i64) none, .d (.sl (.int .i64)) none]], [.d (.sl (.int .i64)) (some 3), .d .bool none]⟩
noncomputable def spec_CornersOf.tbl (k : Nat) : Tbl := [(184, spec_l8Good.spec k), (176, spec_l2At.spec k)]
theorem spec_CornersOf.e (k : Nat) (o : Nat → St → Option (List Int × Bool)) (a0_0 : Int) (a0_1 : Int) (l0_2 : List Int) : spec_CornersOf.T.main tyt (spec_CornersOf.tbl k) o (a0_0, a0_1, l0_2) = spec_CornersOf.m k a0_0 a0_1 l0_2 := by kernel_rfl
theorem spec_CornersOf.ok : spec_CornersOf.T.ok = true := by kernel_rfl
theorem spec_CornersOf.tblok (k : Nat) : TblOk Go.Proofs.Try.prog (spec_CornersOf.tbl k) := TblOk.cons (spec_l8Good.sound k) (TblOk.cons (spec_l2At.sound k) (TblOk.nil _))
theorem spec_CornersOf.sound (k : Nat) : Sound Go.Proofs.Try.prog 77 (spec_CornersOf.spec k) := by
  have h := fn_ok (F := spec_CornersOf.T) (tbl := spec_CornersOf.tbl) mixed tyok Go.Proofs.Try.func77 (by kernel_rfl) (c0 := bodyOf Go.Proofs.Try.f77) rfl (conv_code _ _ _) rfl rfl spec_CornersOf.ok k (fun j _ => spec_CornersOf.tblok j)
  have e : spec_CornersOf.spec k = ⟨spec_CornersOf.T.ps, spec_CornersOf.T.rs, spec_CornersOf.T.ev tyt spec_CornersOf.tbl k⟩ := congrArg (FnSpec.mk _ _) (funext fun x => ((spec_CornersOf.e k (spec_CornersOf.T.run tyt spec_CornersOf.tbl k) x.1 x.2.1 x.2.2).trans (by rfl)).symm)
  rw [e]
  exact h
/-! ### spec_DrawRingLength: function 78 -/
def spec_DrawRingLength.m (k : Nat) (l0 : List Int) : Option (Int × Int) := ((spec_l1Cur_among_2.f k l0 0 0 [2, 3, 5, 8, 1, 9]).bind fun r1 => ((spec_l1Cur_among_2.f k r1.2.1 r1.2.2.1 r1.2.2.2.1 [2, 4, 8, 1, 9]).bind fun r2 => (some (r1.1, r2.1))))
def spec_DrawRingLength.f (k : Nat) (l0 : List Int) : Option (Int × Int) := spec_DrawRingLength.m k l0
noncomputable def spec_DrawRingLength.spec (k : Nat) : FnSpec := ⟨[.d (.sl (.int .u8)) none], [.d (.int .i64) none, .d (.int .i64) none], fun x => spec_DrawRingLength.f k x⟩
noncomputable def spec_DrawRingLength.T : FnText := ⟨(conv [] (bodyOf Go.Proofs.Try.f78) 0).1, Go.Proofs.Try.f78.results.toList, 14, [], [.d (.sl (.int .u8)) none], [.d (.int .i64) none, .d (.int .i64) none]⟩
noncomputable def spec_DrawRingLength.tbl (k : Nat) : Tbl := [(164, spec_l1Cur_among_2.spec k)]
theorem spec_DrawRingLength.e (k : Nat) (o : Nat → St → Option (Int × Int)) (l0 : List Int) : spec_DrawRingLength.T.main tyt (spec_DrawRingLength.tbl k) o l0 = spec_DrawRingLength.m k l0 := by kernel_rfl
theorem spec_DrawRingLength.ok : spec_DrawRingLength.T.ok = true := by kernel_rfl
theorem spec_DrawRingLength.tblok (k : Nat) : TblOk Go.Proofs.Try.prog (spec_DrawRingLength.tbl k) := TblOk.cons (spec_l1Cur_among_2.sound k) (TblOk.nil _)
theorem spec_DrawRingLength.sound (k : Nat) : Sound Go.Proofs.Try.prog 78 (spec_DrawRingLength.spec k) := by
  have h := fn_ok (F := spec_DrawRingLength.T) (tbl := spec_DrawRingLength.tbl) mixed tyok Go.Proofs.Try.func78 (by kernel_rfl) (c0 := bodyOf Go.Proofs.Try.f78) rfl (conv_code _ _ _) rfl rfl spec_DrawRingLength.ok k (fun j _ => spec_DrawRingLength.tblok j)
  have e : spec_DrawRingLength.spec k = ⟨spec_DrawRingLength.T.ps, spec_DrawRingLength.T.rs, spec_DrawRingLength.T.ev tyt spec_DrawRingLength.tbl k⟩ := congrArg (FnSpec.mk _ _) (funext fun x => ((spec_DrawRingLength.e k (spec_DrawRingLength.T.run tyt spec_DrawRingLength.tbl k) x).trans (by rfl)).symm)
  rw [e]
  exact h
/-! ### spec_RingLength: function 79 -/
def spec_RingLength.m (k : Nat) (a0 : Int) (a1 : Int) : Option (Int × Bool) := ((spec_l8Side.f k a0).bind fun r1 => (cond (!r1) (some (0, false)) ((spec_l8Side.f k a1).bind fun r2 => (cond (!r2) (some (0, false)) ((spec_l8Length.f k a0 a1).bind fun r3 => (some (r3, true)))))))
def spec_RingLength.f (k : Nat) (a0 : Int) (a1 : Int) : Option (Int × Bool) := spec_RingLength.m k a0 a1
noncomputable def spec_RingLength.spec (k : Nat) : FnSpec := ⟨[.d (.int .i64) none, .d (.int .i64) none], [.d (.int .i64) none, .d .bool none], fun x => spec_RingLength.f k x.1 x.2⟩
noncomputable def spec_RingLength.T : FnText := ⟨(conv [] (bodyOf Go.Proofs.Try.f79) 0).1, Go.Proofs.Try.f79.results.toList, 17, [], [.d (.int .i64) none, .d (.int .i64) none], [.d (.int .i64) none, .d .bool none]⟩
noncomputable def spec_RingLength.tbl (k : Nat) : Tbl := [(193, spec_l8Side.spec k), (190, spec_l8Length.spec k)]
theorem spec_RingLength.e (k : Nat) (o : Nat → St → Option (Int × Bool)) (a0 : Int) (a1 : Int) : spec_RingLength.T.main tyt (spec_RingLength.tbl k) o (a0, a1) = spec_RingLength.m k a0 a1 := by kernel_rfl
theorem spec_RingLength.ok : spec_RingLength.T.ok = true := by kernel_rfl
theorem spec_RingLength.tblok (k : Nat) : TblOk Go.Proofs.Try.prog (spec_RingLength.tbl k) := TblOk.cons (spec_l8Side.sound k) (TblOk.cons (spec_l8Length.sound k) (TblOk.nil _))
theorem spec_RingLength.sound (k : Nat) : Sound Go.Proofs.Try.prog 79 (spec_RingLength.spec k) := by
  have h := fn_ok (F := spec_RingLength.T) (tbl := spec_RingLength.tbl) mixed tyok Go.Proofs.Try.func79 (by kernel_rfl) (c0 := bodyOf Go.Proofs.Try.f79) rfl (conv_code _ _ _) rfl rfl spec_RingLength.ok k (fun j _ => spec_RingLength.tblok j)
  have e : spec_RingLength.spec k = ⟨spec_RingLength.T.ps, spec_RingLength.T.rs, spec_RingLength.T.ev tyt spec_RingLength.tbl k⟩ := congrArg (FnSpec.mk _ _) (funext fun x => ((spec_RingLength.e k (spec_RingLength.T.run tyt spec_RingLength.tbl k) x.1 x.2).trans (by rfl)).symm)
  rw [e]
  exact h
/-! ### laws_FnRings: function 9 -/
def laws_FnRings.b19 (o19 : List Int → List Int → Int → Int → Option (Bool)) (o31 : List Int → Option (Bool)) (k : Nat) (l0_19 : List Int) (l1_19 : List Int) (x2_19 : Int) (x3_19 : Int) : Option (Bool) := (if x3_19 < (l1_19.length : Int) then ((chk l1_19.length x3_19).bind fun i17 => ((chk l1_19.length (w64 (x3_19 - x2_19))).bind fun i18 => (if ¬ (l1_19.getD i17 0) = (l1_19.getD i18 0) then (some false) else (o19 l0_19 l1_19 x2_19 (w64 (x3_19 + 1)))))) else ((spec_DrawPutRing.f k l0_19).bind fun r19 => ((impl_PutRing.f k r19.1 r19.2.1 r19.2.2.1 r19.2.2.2).bind fun r20 => ((spec_PutRing.f k r19.1 r19.2.1 r19.2.2.1 r19.2.2.2).bind fun r21 => (if ¬ r20.2.2.2 = r21.2.2.2 then (some false) else ((laws_vChart.f k r20.1 r20.2.1 r20.2.2.1 r21.1 r21.2.1 r21.2.2.1).bind fun r22 => (cond (!r22) (some false) (cond r20.2.2.2 ((impl_RingOf.f k r20.1 r20.2.1 r20.2.2.1).bind fun r23 => (cond (!r23.2) (some false) ((laws_vInts.f k r23.1 r19.2.2.2).bind fun r24 => (cond (!r24) (some false) (o31 l0_19))))) (o31 l0_19)))))))))
def laws_FnRings.b31 (k : Nat) (l0_31 : List Int) : Option (Bool) := ((spec_DrawRingPeriod.f k l0_31).bind fun r25 => ((impl_RingPeriod.f k r25.1 r25.2.1 r25.2.2).bind fun r26 => ((spec_RingPeriod.f k r25.1 r25.2.1 r25.2.2).bind fun r27 => (if ¬ r26.1 = r27.1 then (some false) else (if ¬ r26.2 = r27.2 then (some false) else ((spec_DrawCornersOf.f k l0_31).bind fun r28 => ((impl_CornersOf.f k r28.1 r28.2.1 r28.2.2).bind fun r29 => ((spec_CornersOf.f k r28.1 r28.2.1 r28.2.2).bind fun r30 => (if ¬ r29.2 = r30.2 then (some false) else ((laws_vInts.f k r29.1 r30.1).bind fun r31 => (cond (!r31) (some false) ((spec_DrawRingLength.f k l0_31).bind fun r32 => ((impl_RingLength.f k r32.1 r32.2).bind fun r33 => ((spec_RingLength.f k r32.1 r32.2).bind fun r34 => (if r33.1 = r34.1 then (some (decide (r33.2 = r34.2))) else (some false))))))))))))))))
mutual
def laws_FnRings.l19 : Nat → List Int → List Int → Int → Int → Option (Bool)
  | 0, _, _, _, _ => none
  | k + 1, l0_19, l1_19, x2_19, x3_19 => laws_FnRings.b19 (laws_FnRings.l19 k) (laws_FnRings.l31 k) k l0_19 l1_19 x2_19 x3_19
def laws_FnRings.l31 : Nat → List Int → Option (Bool)
  | 0, _ => none
  | k + 1, l0_31 => laws_FnRings.b31 k l0_31
end
def laws_FnRings.m (o19 : List Int → List Int → Int → Int → Option (Bool)) (o31 : List Int → Option (Bool)) (k : Nat) (l0 : List Int) : Option (Bool) := ((laws_vBig.f k l0).bind fun r1 => (cond r1 (some true) ((spec_DrawRingOf.f k l0).bind fun r2 => ((impl_RingOf.f k r2.1 r2.2.1 r2.2.2).bind fun r3 => ((spec_RingOf.f k r2.1 r2.2.1 r2.2.2).bind fun r4 => (if ¬ r3.2 = r4.2 then (some false) else ((laws_vInts.f k r3.1 r4.1).bind fun r5 => (cond (!r5) (some false) (cond r3.2 ((impl_PutRing.f k r2.1 r2.2.1 r2.2.2 r3.1).bind fun r6 => ((impl_RingLength.f k r2.1 r2.2.1).bind fun r7 => ((impl_RingPeriod.f k r2.1 r2.2.1 r2.2.2).bind fun r8 => (cond (!r6.2.2.2) (some false) ((laws_vChart.f k r6.1 r6.2.1 r6.2.2.1 r2.1 r2.2.1 r2.2.2).bind fun r9 => (cond (!r9) (some false) (cond (!r7.2) (some false) (if ¬ r7.1 = (r3.1.length : Int) then (some false) else (cond (!r8.2) (some false) (if r8.1 < 1 then (some false) else ((rem r7.1 r8.1).bind fun q10 => (if ¬ q10 = 0 then (some false) else (o19 l0 r3.1 r8.1 r8.1))))))))))))) ((spec_DrawPutRing.f k l0).bind fun r11 => ((impl_PutRing.f k r11.1 r11.2.1 r11.2.2.1 r11.2.2.2).bind fun r12 => ((spec_PutRing.f k r11.1 r11.2.1 r11.2.2.1 r11.2.2.2).bind fun r13 => (if ¬ r12.2.2.2 = r13.2.2.2 then (some false) else ((laws_vChart.f k r12.1 r12.2.1 r12.2.2.1 r13.1 r13.2.1 r13.2.2.1).bind fun r14 => (cond (!r14) (some false) (cond r12.2.2.2 ((impl_RingOf.f k r12.1 r12.2.1 r12.2.2.1).bind fun r15 => (cond (!r15.2) (some false) ((laws_vInts.f k r15.1 r11.2.2.2).bind fun r16 => (cond (!r16) (some false) (o31 l0))))) (o31 l0)))))))))))))))))
def laws_FnRings.f (k : Nat) (l0 : List Int) : Option (Bool) := laws_FnRings.m (laws_FnRings.l19 k) (laws_FnRings.l31 k) k l0
noncomputable def laws_FnRings.spec (k : Nat) : FnSpec := ⟨[.d (.sl (.int .u8)) none], [.d .bool none], fun x => laws_FnRings.f k x⟩
def laws_FnRings.S19 (l0_19 : List Int) (l1_19 : List Int) (x2_19 : Int) (x3_19 : Int) : St := ⟨[(0, .val (.sl (.int .u8)) l0_19), (4, .ref 100), (12, .val (.int .i64) x2_19), (14, .val (.int .i64) x3_19)], [(100, some (.row 3 (.int .i64) l1_19))], 1000⟩
def laws_FnRings.S31 (l0_31 : List Int) : St := ⟨[(0, .val (.sl (.int .u8)) l0_31)], [], 1000⟩
noncomputable def laws_FnRings.T : FnText := ⟨(conv [31] (bodyOf Go.Proofs.Try.f9) 0).1, Go.Proofs.Try.f9.results.toList, 238, [(19, [(0, .rd (.sl (.int .u8))), (4, .own 3 (.int .i64) 100), (12, .rd (.int .i64)), (14, .rd (.int .i64))]), (31, [(0, .rd (.sl (.int .u8)))])], [.d (.sl (.int .u8)) none], [.d .bool none]⟩
noncomputable def laws_FnRings.tbl (k : Nat) : Tbl := [(25, laws_vBig.spec k), (65, spec_DrawRingOf.spec k), (66, impl_RingOf.spec k), (67, spec_RingOf.spec k), (29, laws_vInts.spec k), (68, impl_PutRing.spec k), (69, impl_RingLength.spec k), (70, impl_RingPeriod.spec k), (36, laws_vChart.spec k), (71, spec_DrawPutRing.spec k), (72, spec_PutRing.spec k), (73, spec_DrawRingPeriod.spec k), (74, spec_RingPeriod.spec k), (75, spec_DrawCornersOf.spec k), (76, impl_CornersOf.spec k), (77, spec_CornersOf.spec k), (78, spec_DrawRingLength.spec k), (79, spec_RingLength.spec k)]
theorem laws_FnRings.e19 (k : Nat) (o : Nat → St → Option (Bool)) (l0_19 : List Int) (l1_19 : List Int) (x2_19 : Int) (x3_19 : Int) : laws_FnRings.T.step tyt (laws_FnRings.tbl k) o 19 (laws_FnRings.S19 l0_19 l1_19 x2_19 x3_19) = laws_FnRings.b19 (fun l0_19 l1_19 x2_19 x3_19 => o 19 (laws_FnRings.S19 l0_19 l1_19 x2_19 x3_19)) (fun l0_31 => o 31 (laws_FnRings.S31 l0_31)) k l0_19 l1_19 x2_19 x3_19 := by kernel_rfl
theorem laws_FnRings.e31 (k : Nat) (o : Nat → St → Option (Bool)) (l0_31 : List Int) : laws_FnRings.T.step tyt (laws_FnRings.tbl k) o 31 (laws_FnRings.S31 l0_31) = laws_FnRings.b31 k l0_31 := by kernel_rfl
theorem laws_FnRings.e (k : Nat) (o : Nat → St → Option (Bool)) (l0 : List Int) : laws_FnRings.T.main tyt (laws_FnRings.tbl k) o l0 = laws_FnRings.m (fun l0_19 l1_19 x2_19 x3_19 => o 19 (laws_FnRings.S19 l0_19 l1_19 x2_19 x3_19)) (fun l0_31 => o 31 (laws_FnRings.S31 l0_31)) k l0 := by kernel_rfl
theorem laws_FnRings.ok : laws_FnRings.T.ok = true := by kernel_rfl
theorem laws_FnRings.run (k : Nat) : (∀ (l0_19 : List Int) (l1_19 : List Int) (x2_19 : Int) (x3_19 : Int), laws_FnRings.T.run tyt laws_FnRings.tbl k 19 (laws_FnRings.S19 l0_19 l1_19 x2_19 x3_19) = laws_FnRings.l19 k l0_19 l1_19 x2_19 x3_19) ∧ (∀ (l0_31 : List Int), laws_FnRings.T.run tyt laws_FnRings.tbl k 31 (laws_FnRings.S31 l0_31) = laws_FnRings.l31 k l0_31) := by
  induction k with
  | zero => exact ⟨fun l0_19 l1_19 x2_19 x3_19 => rfl, fun l0_31 => rfl⟩
  | succ k ih =>
    exact ⟨fun l0_19 l1_19 x2_19 x3_19 => by
      have q19 : (fun l0_19 l1_19 x2_19 x3_19 => laws_FnRings.T.run tyt laws_FnRings.tbl k 19 (laws_FnRings.S19 l0_19 l1_19 x2_19 x3_19)) = laws_FnRings.l19 k := by funext l0_19 l1_19 x2_19 x3_19; exact ih.1 l0_19 l1_19 x2_19 x3_19
      have q31 : (fun l0_31 => laws_FnRings.T.run tyt laws_FnRings.tbl k 31 (laws_FnRings.S31 l0_31)) = laws_FnRings.l31 k := by funext l0_31; exact ih.2 l0_31
      exact (laws_FnRings.e19 k (laws_FnRings.T.run tyt laws_FnRings.tbl k) l0_19 l1_19 x2_19 x3_19).trans (by rw [q19, q31]; rfl), fun l0_31 => by
      exact (laws_FnRings.e31 k (laws_FnRings.T.run tyt laws_FnRings.tbl k) l0_31).trans (by rfl)⟩
theorem laws_FnRings.tblok (k : Nat) : TblOk Go.Proofs.Try.prog (laws_FnRings.tbl k) := TblOk.cons (laws_vBig.sound k) (TblOk.cons (spec_DrawRingOf.sound k) (TblOk.cons (impl_RingOf.sound k) (TblOk.cons (spec_RingOf.sound k) (TblOk.cons (laws_vInts.sound k) (TblOk.cons (impl_PutRing.sound k) (TblOk.cons (impl_RingLength.sound k) (TblOk.cons (impl_RingPeriod.sound k) (TblOk.cons (laws_vChart.sound k) (TblOk.cons (spec_DrawPutRing.sound k) (TblOk.cons (spec_PutRing.sound k) (TblOk.cons (spec_DrawRingPeriod.sound k) (TblOk.cons (spec_RingPeriod.sound k) (TblOk.cons (spec_DrawCornersOf.sound k) (TblOk.cons (impl_CornersOf.sound k) (TblOk.cons (spec_CornersOf.sound k) (TblOk.cons (spec_DrawRingLength.sound k) (TblOk.cons (spec_RingLength.sound k) (TblOk.nil _))))))))))))))))))
theorem laws_FnRings.sound (k : Nat) : Sound Go.Proofs.Try.prog 9 (laws_FnRings.spec k) := by
  have h := fn_ok (F := laws_FnRings.T) (tbl := laws_FnRings.tbl) mixed tyok Go.Proofs.Try.func9 (by kernel_rfl) (c0 := bodyOf Go.Proofs.Try.f9) rfl (conv_code _ _ _) rfl rfl laws_FnRings.ok k (fun j _ => laws_FnRings.tblok j)
  have q19 : (fun l0_19 l1_19 x2_19 x3_19 => laws_FnRings.T.run tyt laws_FnRings.tbl k 19 (laws_FnRings.S19 l0_19 l1_19 x2_19 x3_19)) = laws_FnRings.l19 k := by funext l0_19 l1_19 x2_19 x3_19; exact (laws_FnRings.run k).1 l0_19 l1_19 x2_19 x3_19
  have q31 : (fun l0_31 => laws_FnRings.T.run tyt laws_FnRings.tbl k 31 (laws_FnRings.S31 l0_31)) = laws_FnRings.l31 k := by funext l0_31; exact (laws_FnRings.run k).2 l0_31
  have e : laws_FnRings.spec k = ⟨laws_FnRings.T.ps, laws_FnRings.T.rs, laws_FnRings.T.ev tyt laws_FnRings.tbl k⟩ := congrArg (FnSpec.mk _ _) (funext fun x => ((laws_FnRings.e k (laws_FnRings.T.run tyt laws_FnRings.tbl k) x).trans (by rw [q19, q31]; rfl)).symm)
  rw [e]
  exact h

/-- The pure statement. -/
def Pure : Prop := ∀ (l0 : List Int), (l0.length * 1 ≤ 140737488351232) → (∀ y0 ∈ l0, (Lit.int .u8 y0).wf = true) → ∃ k, laws_FnRings.f k l0 = some true
end Go.Proofs.Ytijmljaemalgmaa.DFnRings
