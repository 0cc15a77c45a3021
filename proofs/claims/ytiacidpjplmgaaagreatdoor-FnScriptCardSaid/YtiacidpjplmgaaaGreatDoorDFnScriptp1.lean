-- Printed by this session's own program (wip/deep/drow.py); Lean checks it.
import Derived.Test.YtiacidpjplmgaaaGreatDoorHd
import Derived.Test.YtiacidpjplmgaaaGreatDoorProg
set_option linter.unusedVariables false
set_option maxRecDepth 100000
namespace Go.Proofs.YtiacidpjplmgaaaGreatDoor.DFnScript
open Go Go.Proofs.YtiacidpjplmgaaaGreatDoorD
def tyt3 : TI := ⟨.int .i64, 1, 8, (.int .i64)⟩
def tyt4 : TI := ⟨.bool, 1, 1, .bool⟩
def tyt5 : TI := ⟨.int .u8, 1, 1, (.int .u8)⟩
def tyt9 : TI := ⟨.string, 1, 16, .str⟩
def tyt27 : TI := ⟨.struct #[⟨ "Durable", 9, 0, false, "", "", 0⟩, ⟨ "Pending", 9, 1, false, "", "", 16⟩, ⟨ "Count", 3, 2, false, "", "", 32⟩], 3, 40, (.pair .str (.pair .str (.int .i64)))⟩
def tyt36 : TI := ⟨.slice 108, 1, 24, (.sl (.pair (.int .i64) (.pair (.int .i64) (.pair (.int .i64) (.pair (.int .i64) (.int .i64))))))⟩
def tyt38 : TI := ⟨.struct #[⟨ "Day", 3, 0, false, "", "", 0⟩, ⟨ "Looms", 3, 1, false, "", "", 8⟩, ⟨ "Carpets", 36, 2, false, "", "", 16⟩, ⟨ "Money", 3, 3, false, "", "", 40⟩], 4, 48, (.pair (.int .i64) (.pair (.int .i64) (.pair (.sl (.pair (.int .i64) (.pair (.int .i64) (.pair (.int .i64) (.pair (.int .i64) (.int .i64)))))) (.int .i64))))⟩
def tyt40 : TI := ⟨.struct #[⟨ "Shop", 38, 0, false, "", "", 0⟩, ⟨ "Log", 27, 4, false, "", "", 48⟩], 7, 88, (.pair (.int .i64) (.pair (.int .i64) (.pair (.sl (.pair (.int .i64) (.pair (.int .i64) (.pair (.int .i64) (.pair (.int .i64) (.int .i64)))))) (.pair (.int .i64) (.pair .str (.pair .str (.int .i64)))))))⟩
def tyt47 : TI := ⟨.slice 5, 1, 24, (.sl (.int .u8))⟩
def tyt51 : TI := ⟨.slice 55, 1, 24, (.sl (.pair .str .str))⟩
def tyt55 : TI := ⟨.struct #[⟨ "Command", 9, 0, false, "", "", 0⟩, ⟨ "Reply", 9, 1, false, "", "", 16⟩], 2, 32, (.pair .str .str)⟩
def tyt56 : TI := ⟨.slice 9, 1, 24, (.sl .str)⟩
def tyt85 : TI := ⟨.int .u64, 1, 8, (.int .u64)⟩
def tyt87 : TI := ⟨.struct #[⟨ "code", 47, 0, false, "", "loop.example/g01023/spec", 0⟩, ⟨ "at", 3, 1, false, "", "loop.example/g01023/spec", 24⟩, ⟨ "seed", 85, 2, false, "", "loop.example/g01023/spec", 32⟩], 3, 40, (.pair (.sl (.int .u8)) (.pair (.int .i64) (.int .u64)))⟩
def tyt108 : TI := ⟨.struct #[⟨ "Rows", 3, 0, false, "", "", 0⟩, ⟨ "Made", 3, 1, false, "", "", 8⟩, ⟨ "State", 3, 2, false, "", "", 16⟩, ⟨ "Loom", 3, 3, false, "", "", 24⟩, ⟨ "Since", 3, 4, false, "", "", 32⟩], 5, 40, (.pair (.int .i64) (.pair (.int .i64) (.pair (.int .i64) (.pair (.int .i64) (.int .i64)))))⟩
def tyt110 : TI := ⟨.slice 3, 1, 24, (.sl (.int .i64))⟩
def tyt135 : TI := ⟨.struct #[⟨ "Kind", 3, 0, false, "", "", 0⟩, ⟨ "Carpet", 3, 1, false, "", "", 8⟩, ⟨ "Value", 3, 2, false, "", "", 16⟩], 3, 24, (.pair (.int .i64) (.pair (.int .i64) (.int .i64)))⟩
def tyt151 : TI := ⟨.array 5 9, 5, 80, (.pair .str (.pair .str (.pair .str (.pair .str .str))))⟩
def tyt168 : TI := ⟨.func #[5] #[4] false, 1, 8, .fn⟩
def tyt : TT := [(3, tyt3), (4, tyt4), (5, tyt5), (9, tyt9), (27, tyt27), (36, tyt36), (38, tyt38), (40, tyt40), (47, tyt47), (51, tyt51), (55, tyt55), (56, tyt56), (85, tyt85), (87, tyt87), (108, tyt108), (110, tyt110), (135, tyt135), (151, tyt151), (168, tyt168)]
theorem mixed : Go.Proofs.Tryz.prog.follows .mixedOrders = true := by kernel_rfl
theorem tok3 : TOk1 Go.Proofs.Tryz.prog 3 (tyt3) := TOk1.of (by kernel_rfl) (by kernel_rfl) (by kernel_rfl) (by kernel_rfl) (by kernel_rfl) (by kernel_rfl) (by kernel_rfl) (fun h => nomatch (show false = true from h)) (fun h => nomatch (show false = true from h))
theorem tok4 : TOk1 Go.Proofs.Tryz.prog 4 (tyt4) := TOk1.of (by kernel_rfl) (by kernel_rfl) (by kernel_rfl) (by kernel_rfl) (by kernel_rfl) (by kernel_rfl) (by kernel_rfl) (fun h => nomatch (show false = true from h)) (fun h => nomatch (show false = true from h))
theorem tok5 : TOk1 Go.Proofs.Tryz.prog 5 (tyt5) := TOk1.of (by kernel_rfl) (by kernel_rfl) (by kernel_rfl) (by kernel_rfl) (by kernel_rfl) (by kernel_rfl) (by kernel_rfl) (fun h => nomatch (show false = true from h)) (fun h => nomatch (show false = true from h))
theorem tok9 : TOk1 Go.Proofs.Tryz.prog 9 (tyt9) := TOk1.of (by kernel_rfl) (by kernel_rfl) (by kernel_rfl) (by kernel_rfl) (by kernel_rfl) (by kernel_rfl) (by kernel_rfl) (fun h => nomatch (show false = true from h)) (fun h => nomatch (show false = true from h))
theorem tok27 : TOk1 Go.Proofs.Tryz.prog 27 (tyt27) := TOk1.of (by kernel_rfl) (by kernel_rfl) (by kernel_rfl) (by kernel_rfl) (by kernel_rfl) (by kernel_rfl) (by kernel_rfl) (fun _ => by kernel_rfl) (fun _ => ⟨by kernel_rfl, by kernel_rfl, by kernel_rfl⟩)
theorem tok36 : TOk1 Go.Proofs.Tryz.prog 36 (tyt36) := TOk1.of (by kernel_rfl) (by kernel_rfl) (by kernel_rfl) (by kernel_rfl) (by kernel_rfl) (by kernel_rfl) (by kernel_rfl) (fun h => nomatch (show false = true from h)) (fun h => nomatch (show false = true from h))
theorem tok38 : TOk1 Go.Proofs.Tryz.prog 38 (tyt38) := TOk1.of (by kernel_rfl) (by kernel_rfl) (by kernel_rfl) (by kernel_rfl) (by kernel_rfl) (by kernel_rfl) (by kernel_rfl) (fun _ => by kernel_rfl) (fun h => nomatch (show false = true from h))
theorem tok40 : TOk1 Go.Proofs.Tryz.prog 40 (tyt40) := TOk1.of (by kernel_rfl) (by kernel_rfl) (by kernel_rfl) (by kernel_rfl) (by kernel_rfl) (by kernel_rfl) (by kernel_rfl) (fun _ => by kernel_rfl) (fun h => nomatch (show false = true from h))
theorem tok47 : TOk1 Go.Proofs.Tryz.prog 47 (tyt47) := TOk1.of (by kernel_rfl) (by kernel_rfl) (by kernel_rfl) (by kernel_rfl) (by kernel_rfl) (by kernel_rfl) (by kernel_rfl) (fun h => nomatch (show false = true from h)) (fun h => nomatch (show false = true from h))
theorem tok51 : TOk1 Go.Proofs.Tryz.prog 51 (tyt51) := TOk1.of (by kernel_rfl) (by kernel_rfl) (by kernel_rfl) (by kernel_rfl) (by kernel_rfl) (by kernel_rfl) (by kernel_rfl) (fun h => nomatch (show false = true from h)) (fun h => nomatch (show false = true from h))
theorem tok55 : TOk1 Go.Proofs.Tryz.prog 55 (tyt55) := TOk1.of (by kernel_rfl) (by kernel_rfl) (by kernel_rfl) (by kernel_rfl) (by kernel_rfl) (by kernel_rfl) (by kernel_rfl) (fun _ => by kernel_rfl) (fun _ => ⟨by kernel_rfl, by kernel_rfl, by kernel_rfl⟩)
theorem tok56 : TOk1 Go.Proofs.Tryz.prog 56 (tyt56) := TOk1.of (by kernel_rfl) (by kernel_rfl) (by kernel_rfl) (by kernel_rfl) (by kernel_rfl) (by kernel_rfl) (by kernel_rfl) (fun h => nomatch (show false = true from h)) (fun h => nomatch (show false = true from h))
theorem tok85 : TOk1 Go.Proofs.Tryz.prog 85 (tyt85) := TOk1.of (by kernel_rfl) (by kernel_rfl) (by kernel_rfl) (by kernel_rfl) (by kernel_rfl) (by kernel_rfl) (by kernel_rfl) (fun h => nomatch (show false = true from h)) (fun h => nomatch (show false = true from h))
theorem tok87 : TOk1 Go.Proofs.Tryz.prog 87 (tyt87) := TOk1.of (by kernel_rfl) (by kernel_rfl) (by kernel_rfl) (by kernel_rfl) (by kernel_rfl) (by kernel_rfl) (by kernel_rfl) (fun _ => by kernel_rfl) (fun h => nomatch (show false = true from h))
theorem tok108 : TOk1 Go.Proofs.Tryz.prog 108 (tyt108) := TOk1.of (by kernel_rfl) (by kernel_rfl) (by kernel_rfl) (by kernel_rfl) (by kernel_rfl) (by kernel_rfl) (by kernel_rfl) (fun _ => by kernel_rfl) (fun _ => ⟨by kernel_rfl, by kernel_rfl, by kernel_rfl⟩)
theorem tok110 : TOk1 Go.Proofs.Tryz.prog 110 (tyt110) := TOk1.of (by kernel_rfl) (by kernel_rfl) (by kernel_rfl) (by kernel_rfl) (by kernel_rfl) (by kernel_rfl) (by kernel_rfl) (fun h => nomatch (show false = true from h)) (fun h => nomatch (show false = true from h))
theorem tok135 : TOk1 Go.Proofs.Tryz.prog 135 (tyt135) := TOk1.of (by kernel_rfl) (by kernel_rfl) (by kernel_rfl) (by kernel_rfl) (by kernel_rfl) (by kernel_rfl) (by kernel_rfl) (fun _ => by kernel_rfl) (fun _ => ⟨by kernel_rfl, by kernel_rfl, by kernel_rfl⟩)
theorem tok151 : TOk1 Go.Proofs.Tryz.prog 151 (tyt151) := TOk1.of (by kernel_rfl) (by kernel_rfl) (by kernel_rfl) (by kernel_rfl) (by kernel_rfl) (by kernel_rfl) (by kernel_rfl) (fun _ => by kernel_rfl) (fun _ => ⟨by kernel_rfl, by kernel_rfl, by kernel_rfl⟩)
theorem tok168 : TOk1 Go.Proofs.Tryz.prog 168 (tyt168) := TOk1.of (by kernel_rfl) (by kernel_rfl) (by kernel_rfl) (by kernel_rfl) (by kernel_rfl) (by kernel_rfl) (by kernel_rfl) (fun h => nomatch (show false = true from h)) (fun h => nomatch (show false = true from h))
theorem tyok : TOk Go.Proofs.Tryz.prog tyt := TOk.cons tok3 (TOk.cons tok4 (TOk.cons tok5 (TOk.cons tok9 (TOk.cons tok27 (TOk.cons tok36 (TOk.cons tok38 (TOk.cons tok40 (TOk.cons tok47 (TOk.cons tok51 (TOk.cons tok55 (TOk.cons tok56 (TOk.cons tok85 (TOk.cons tok87 (TOk.cons tok108 (TOk.cons tok110 (TOk.cons tok135 (TOk.cons tok151 (TOk.cons tok168 (TOk.nil _)))))))))))))))))))
namespace laws_vBig
/-! ### laws_vBig: function 20 -/
def m (k : Nat) (l0 : List Int) : Option (Bool) := (some (decide (65536 < (l0.length : Int))))
def f (k : Nat) (l0 : List Int) : Option (Bool) := m k l0
noncomputable def spec (k : Nat) : FnSpec := ⟨[.d (.sl (.int .u8)) none], [.d .bool none], fun x => f k x⟩
noncomputable def T : FnText := ⟨(conv [] (bodyOf Tryz.f20) 0).1, Tryz.f20.results.toList, 6, [], [.d (.sl (.int .u8)) none], [.d .bool none]⟩
noncomputable def tbl (k : Nat) : Tbl := []
theorem e (k : Nat) (o : Nat → St → Option (Bool)) (l0 : List Int) : T.main tyt (tbl k) o l0 = m k l0 := by kernel_rfl
theorem ok : T.ok = true := by kernel_rfl
theorem tblok (k : Nat) : TblOk Tryz.prog (tbl k) := TblOk.nil _
theorem sound (k : Nat) : Sound Tryz.prog 20 (spec k) := by
  have h := fn_ok (F := T) (tbl := tbl) mixed tyok Tryz.func20 (by kernel_rfl) (c0 := bodyOf Tryz.f20) rfl (conv_code _ _ _) rfl rfl ok k (fun j _ => tblok j)
  have e : spec k = ⟨T.ps, T.rs, T.ev tyt tbl k⟩ := congrArg (FnSpec.mk _ _) (funext fun x => ((e k (T.run tyt tbl k) x).trans (by rfl)).symm)
  rw [e]
  exact h
end laws_vBig

namespace spec_l1Cur_next
/-! ### spec_l1Cur_next: function 107 -/
def b2 (k : Nat) (l0_2 : List Int) (x1_2 x2_2 x3_2 : Int) : Option (Int × List Int × Int × Int) := (if (w64 (x1_2 + 1)) ≤ (l0_2.length : Int) then (some (x3_2, l0_2, (w64 (x1_2 + 1)), (IntKind.u64.wrap ((IntKind.u64.wrap ((IntKind.u64.wrap (x2_2 * 6364136223846793005)) + (IntKind.u64.wrap (x3_2)))) + 102323)))) else ((shr .u64 (IntKind.u64.wrap ((IntKind.u64.wrap ((IntKind.u64.wrap (x2_2 * 6364136223846793005)) + (IntKind.u64.wrap (x3_2)))) + 102323)) 40).bind fun q2 => (some ((w64 ((band .u64 q2 255))), l0_2, (w64 (x1_2 + 1)), (IntKind.u64.wrap ((IntKind.u64.wrap ((IntKind.u64.wrap (x2_2 * 6364136223846793005)) + (IntKind.u64.wrap (x3_2)))) + 102323))))))
def l2 : Nat → List Int → Int → Int → Int → Option (Int × List Int × Int × Int)
  | 0, _, _, _, _ => none
  | k + 1, l0_2, x1_2, x2_2, x3_2 => b2 k l0_2 x1_2 x2_2 x3_2
def m (o2 : List Int → Int → Int → Int → Option (Int × List Int × Int × Int)) (k : Nat) (l0_0 : List Int) (a0_1 a0_2 : Int) : Option (Int × List Int × Int × Int) := (if a0_1 < (l0_0.length : Int) then ((chk l0_0.length a0_1).bind fun i1 => (o2 l0_0 a0_1 a0_2 (w64 ((l0_0.getD i1 0))))) else (o2 l0_0 a0_1 a0_2 0))
def f (k : Nat) (l0_0 : List Int) (a0_1 a0_2 : Int) : Option (Int × List Int × Int × Int) := m (spec_l1Cur_next.l2 k) k l0_0 a0_1 a0_2
noncomputable def spec (k : Nat) : FnSpec := ⟨[.bx [.d (.sl (.int .u8)) none, .d (.int .i64) none, .d (.int .u64) none]], [.d (.int .i64) none], fun x => f k x.1 x.2.1 x.2.2⟩
def S2 (l0_2 : List Int) (x1_2 x2_2 x3_2 : Int) : St := ⟨[(0, .ptr 0 0), (3, .val (.int .i64) x3_2)], [(0, some (.box [.val (.sl (.int .u8)) l0_2, .val (.int .i64) x1_2, .val (.int .u64) x2_2]))], 1000⟩
noncomputable def T : FnText := ⟨(conv [2] (bodyOf Tryz.f107) 0).1, Tryz.f107.results.toList, 62, [(2, [(0, .bx 0 [.rd (.sl (.int .u8)), .rd (.int .i64), .rd (.int .u64)]), (3, .rd (.int .i64))])], [.bx [.d (.sl (.int .u8)) none, .d (.int .i64) none, .d (.int .u64) none]], [.d (.int .i64) none]⟩
noncomputable def tbl (k : Nat) : Tbl := []
theorem e2 (k : Nat) (o : Nat → St → Option (Int × List Int × Int × Int)) (l0_2 : List Int) (x1_2 x2_2 x3_2 : Int) : T.step tyt (tbl k) o 2 (S2 l0_2 x1_2 x2_2 x3_2) = b2 k l0_2 x1_2 x2_2 x3_2 := by kernel_rfl
theorem e (k : Nat) (o : Nat → St → Option (Int × List Int × Int × Int)) (l0_0 : List Int) (a0_1 a0_2 : Int) : T.main tyt (tbl k) o (l0_0, a0_1, a0_2) = m (fun l0_2 x1_2 x2_2 x3_2 => o 2 (S2 l0_2 x1_2 x2_2 x3_2)) k l0_0 a0_1 a0_2 := by kernel_rfl
theorem ok : T.ok = true := by kernel_rfl
theorem run (k : Nat) : (∀ (l0_2 : List Int) (x1_2 x2_2 x3_2 : Int), T.run tyt tbl k 2 (S2 l0_2 x1_2 x2_2 x3_2) = spec_l1Cur_next.l2 k l0_2 x1_2 x2_2 x3_2) := by
  induction k with
  | zero => exact fun l0_2 x1_2 x2_2 x3_2 => rfl
  | succ k ih =>
    exact fun l0_2 x1_2 x2_2 x3_2 => by
      exact (e2 k (T.run tyt tbl k) l0_2 x1_2 x2_2 x3_2).trans (by rfl)
theorem tblok (k : Nat) : TblOk Tryz.prog (tbl k) := TblOk.nil _
theorem sound (k : Nat) : Sound Tryz.prog 107 (spec k) := by
  have h := fn_ok (F := T) (tbl := tbl) mixed tyok Tryz.func107 (by kernel_rfl) (c0 := bodyOf Tryz.f107) rfl (conv_code _ _ _) rfl rfl ok k (fun j _ => tblok j)
  have q2 : (fun l0_2 x1_2 x2_2 x3_2 => T.run tyt tbl k 2 (S2 l0_2 x1_2 x2_2 x3_2)) = spec_l1Cur_next.l2 k := by funext l0_2 x1_2 x2_2 x3_2; exact (run k) l0_2 x1_2 x2_2 x3_2
  have e : spec k = ⟨T.ps, T.rs, T.ev tyt tbl k⟩ := congrArg (FnSpec.mk _ _) (funext fun x => ((e k (T.run tyt tbl k) x.1 x.2.1 x.2.2).trans (by rw [q2]; rfl)).symm)
  rw [e]
  exact h
end spec_l1Cur_next

namespace spec_l1Cur_pick
/-! ### spec_l1Cur_pick: function 59 -/
def m (k : Nat) (l0_0 : List Int) (a0_1 a0_2 a1 : Int) : Option (Int × List Int × Int × Int) := (if a1 ≤ 1 then (some (0, l0_0, a0_1, a0_2)) else ((spec_l1Cur_next.f k l0_0 a0_1 a0_2).bind fun r1 => (if 200 < a1 then ((spec_l1Cur_next.f k r1.2.1 r1.2.2.1 r1.2.2.2).bind fun r2 => ((rem (w64 ((w64 (r1.1 * 256)) + r2.1)) a1).bind fun q3 => (some (q3, r2.2.1, r2.2.2.1, r2.2.2.2)))) else ((rem r1.1 a1).bind fun q4 => (some (q4, r1.2.1, r1.2.2.1, r1.2.2.2))))))
def f (k : Nat) (l0_0 : List Int) (a0_1 a0_2 a1 : Int) : Option (Int × List Int × Int × Int) := m k l0_0 a0_1 a0_2 a1
noncomputable def spec (k : Nat) : FnSpec := ⟨[.bx [.d (.sl (.int .u8)) none, .d (.int .i64) none, .d (.int .u64) none], .d (.int .i64) none], [.d (.int .i64) none], fun x => f k x.1 x.2.1 x.2.2.1 x.2.2.2⟩
noncomputable def T : FnText := ⟨(conv [] (bodyOf Tryz.f59) 0).1, Tryz.f59.results.toList, 20, [], [.bx [.d (.sl (.int .u8)) none, .d (.int .i64) none, .d (.int .u64) none], .d (.int .i64) none], [.d (.int .i64) none]⟩
noncomputable def tbl (k : Nat) : Tbl := [(107, spec_l1Cur_next.spec k)]
theorem e (k : Nat) (o : Nat → St → Option (Int × List Int × Int × Int)) (l0_0 : List Int) (a0_1 a0_2 a1 : Int) : T.main tyt (tbl k) o (l0_0, a0_1, a0_2, a1) = m k l0_0 a0_1 a0_2 a1 := by kernel_rfl
theorem ok : T.ok = true := by kernel_rfl
theorem tblok (k : Nat) : TblOk Tryz.prog (tbl k) := TblOk.cons (spec_l1Cur_next.sound k) (TblOk.nil _)
theorem sound (k : Nat) : Sound Tryz.prog 59 (spec k) := by
  have h := fn_ok (F := T) (tbl := tbl) mixed tyok Tryz.func59 (by kernel_rfl) (c0 := bodyOf Tryz.f59) rfl (conv_code _ _ _) rfl rfl ok k (fun j _ => tblok j)
  have e : spec k = ⟨T.ps, T.rs, T.ev tyt tbl k⟩ := congrArg (FnSpec.mk _ _) (funext fun x => ((e k (T.run tyt tbl k) x.1 x.2.1 x.2.2.1 x.2.2.2).trans (by rfl)).symm)
  rw [e]
  exact h
end spec_l1Cur_pick

namespace spec_l1Cur_among
/-! ### spec_l1Cur_among: function 75 -/
def m (k : Nat) (l0_0 : List Int) (a0_1 a0_2 : Int) (l1 : List Int) : Option (Int × List Int × Int × Int) := ((spec_l1Cur_pick.f k l0_0 a0_1 a0_2 (l1.length : Int)).bind fun r1 => ((chk l1.length r1.1).bind fun i2 => (some ((l1.getD i2 0), r1.2.1, r1.2.2.1, r1.2.2.2))))
def f (k : Nat) (l0_0 : List Int) (a0_1 a0_2 : Int) (l1 : List Int) : Option (Int × List Int × Int × Int) := m k l0_0 a0_1 a0_2 l1
noncomputable def spec (k : Nat) : FnSpec := ⟨[.bx [.d (.sl (.int .u8)) none, .d (.int .i64) none, .d (.int .u64) none], .d (.sl (.int .i64)) none], [.d (.int .i64) none], fun x => f k x.1 x.2.1 x.2.2.1 x.2.2.2⟩
noncomputable def T : FnText := ⟨(conv [] (bodyOf Tryz.f75) 0).1, Tryz.f75.results.toList, 12, [], [.bx [.d (.sl (.int .u8)) none, .d (.int .i64) none, .d (.int .u64) none], .d (.sl (.int .i64)) none], [.d (.int .i64) none]⟩
noncomputable def tbl (k : Nat) : Tbl := [(59, spec_l1Cur_pick.spec k)]
theorem e (k : Nat) (o : Nat → St → Option (Int × List Int × Int × Int)) (l0_0 : List Int) (a0_1 a0_2 : Int) (l1 : List Int) : T.main tyt (tbl k) o (l0_0, a0_1, a0_2, l1) = m k l0_0 a0_1 a0_2 l1 := by kernel_rfl
theorem ok : T.ok = true := by kernel_rfl
theorem tblok (k : Nat) : TblOk Tryz.prog (tbl k) := TblOk.cons (spec_l1Cur_pick.sound k) (TblOk.nil _)
theorem sound (k : Nat) : Sound Tryz.prog 75 (spec k) := by
  have h := fn_ok (F := T) (tbl := tbl) mixed tyok Tryz.func75 (by kernel_rfl) (c0 := bodyOf Tryz.f75) rfl (conv_code _ _ _) rfl rfl ok k (fun j _ => tblok j)
  have e : spec k = ⟨T.ps, T.rs, T.ev tyt tbl k⟩ := congrArg (FnSpec.mk _ _) (funext fun x => ((e k (T.run tyt tbl k) x.1 x.2.1 x.2.2.1 x.2.2.2).trans (by rfl)).symm)
  rw [e]
  exact h
end spec_l1Cur_among

namespace spec_l1Cur_among_2
/-! ### spec_l1Cur_among_2: function 75 -/
def m (k : Nat) (l0_0 : List Int) (a0_1 a0_2 : Int) (l1 : List Int) : Option (Int × List Int × Int × Int × List Int) := ((spec_l1Cur_pick.f k l0_0 a0_1 a0_2 (l1.length : Int)).bind fun r1 => ((chk l1.length r1.1).bind fun i2 => (some ((l1.getD i2 0), r1.2.1, r1.2.2.1, r1.2.2.2, l1))))
def f (k : Nat) (l0_0 : List Int) (a0_1 a0_2 : Int) (l1 : List Int) : Option (Int × List Int × Int × Int × List Int) := m k l0_0 a0_1 a0_2 l1
noncomputable def spec (k : Nat) : FnSpec := ⟨[.bx [.d (.sl (.int .u8)) none, .d (.int .i64) none, .d (.int .u64) none], .io 3 (.int .i64)], [.d (.int .i64) none], fun x => f k x.1 x.2.1 x.2.2.1 x.2.2.2⟩
noncomputable def T : FnText := ⟨(conv [] (bodyOf Tryz.f75) 0).1, Tryz.f75.results.toList, 12, [], [.bx [.d (.sl (.int .u8)) none, .d (.int .i64) none, .d (.int .u64) none], .io 3 (.int .i64)], [.d (.int .i64) none]⟩
noncomputable def tbl (k : Nat) : Tbl := [(59, spec_l1Cur_pick.spec k)]
theorem e (k : Nat) (o : Nat → St → Option (Int × List Int × Int × Int × List Int)) (l0_0 : List Int) (a0_1 a0_2 : Int) (l1 : List Int) : T.main tyt (tbl k) o (l0_0, a0_1, a0_2, l1) = m k l0_0 a0_1 a0_2 l1 := by kernel_rfl
theorem ok : T.ok = true := by kernel_rfl
theorem tblok (k : Nat) : TblOk Tryz.prog (tbl k) := TblOk.cons (spec_l1Cur_pick.sound k) (TblOk.nil _)
theorem sound (k : Nat) : Sound Tryz.prog 75 (spec k) := by
  have h := fn_ok (F := T) (tbl := tbl) mixed tyok Tryz.func75 (by kernel_rfl) (c0 := bodyOf Tryz.f75) rfl (conv_code _ _ _) rfl rfl ok k (fun j _ => tblok j)
  have e : spec k = ⟨T.ps, T.rs, T.ev tyt tbl k⟩ := congrArg (FnSpec.mk _ _) (funext fun x => ((e k (T.run tyt tbl k) x.1 x.2.1 x.2.2.1 x.2.2.2).trans (by rfl)).symm)
  rw [e]
  exact h
end spec_l1Cur_among_2

namespace spec_l1In
/-! ### spec_l1In: function 118 -/
def m (k : Nat) (a0 a1 a2 : Int) : Option (Bool) := (if a1 ≤ a0 then (some (decide (a0 ≤ a2))) else (some false))
def f (k : Nat) (a0 a1 a2 : Int) : Option (Bool) := m k a0 a1 a2
noncomputable def spec (k : Nat) : FnSpec := ⟨[.d (.int .i64) none, .d (.int .i64) none, .d (.int .i64) none], [.d .bool none], fun x => f k x.1 x.2.1 x.2.2⟩
noncomputable def T : FnText := ⟨(conv [] (bodyOf Tryz.f118) 0).1, Tryz.f118.results.toList, 15, [], [.d (.int .i64) none, .d (.int .i64) none, .d (.int .i64) none], [.d .bool none]⟩
noncomputable def tbl (k : Nat) : Tbl := []
theorem e (k : Nat) (o : Nat → St → Option (Bool)) (a0 a1 a2 : Int) : T.main tyt (tbl k) o (a0, a1, a2) = m k a0 a1 a2 := by kernel_rfl
theorem ok : T.ok = true := by kernel_rfl
theorem tblok (k : Nat) : TblOk Tryz.prog (tbl k) := TblOk.nil _
theorem sound (k : Nat) : Sound Tryz.prog 118 (spec k) := by
  have h := fn_ok (F := T) (tbl := tbl) mixed tyok Tryz.func118 (by kernel_rfl) (c0 := bodyOf Tryz.f118) rfl (conv_code _ _ _) rfl rfl ok k (fun j _ => tblok j)
  have e : spec k = ⟨T.ps, T.rs, T.ev tyt tbl k⟩ := congrArg (FnSpec.mk _ _) (funext fun x => ((e k (T.run tyt tbl k) x.1 x.2.1 x.2.2).trans (by rfl)).symm)
  rw [e]
  exact h
end spec_l1In

namespace spec_NewShop
/-! ### spec_NewShop: function 78 -/
def m (k : Nat) (a0 : Int) : Option (Int × Int × List (Int × Int × Int × Int × Int) × Int × Bool) := ((spec_l1In.f k a0 1 4).bind fun r1 => (cond (!r1) (some (0, 0, [], 0, false)) (some (0, a0, ([] : List (Int × Int × Int × Int × Int)), 0, true))))
def f (k : Nat) (a0 : Int) : Option (Int × Int × List (Int × Int × Int × Int × Int) × Int × Bool) := m k a0
noncomputable def spec (k : Nat) : FnSpec := ⟨[.d (.int .i64) none], [.ag [.d (.int .i64) none, .d (.int .i64) none, .d (.sl (.pair (.int .i64) (.pair (.int .i64) (.pair (.int .i64) (.pair (.int .i64) (.int .i64)))))) (some 108), .d (.int .i64) none], .d .bool none], fun x => f k x⟩
noncomputable def T : FnText := ⟨(conv [] (bodyOf Tryz.f78) 0).1, Tryz.f78.results.toList, 11, [], [.d (.int .i64) none], [.ag [.d (.int .i64) none, .d (.int .i64) none, .d (.sl (.pair (.int .i64) (.pair (.int .i64) (.pair (.int .i64) (.pair (.int .i64) (.int .i64)))))) (some 108), .d (.int .i64) none], .d .bool none]⟩
noncomputable def tbl (k : Nat) : Tbl := [(118, spec_l1In.spec k)]
theorem e (k : Nat) (o : Nat → St → Option (Int × Int × List (Int × Int × Int × Int × Int) × Int × Bool)) (a0 : Int) : T.main tyt (tbl k) o a0 = m k a0 := by kernel_rfl
theorem ok : T.ok = true := by kernel_rfl
theorem tblok (k : Nat) : TblOk Tryz.prog (tbl k) := TblOk.cons (spec_l1In.sound k) (TblOk.nil _)
theorem sound (k : Nat) : Sound Tryz.prog 78 (spec k) := by
  have h := fn_ok (F := T) (tbl := tbl) mixed tyok Tryz.func78 (by kernel_rfl) (c0 := bodyOf Tryz.f78) rfl (conv_code _ _ _) rfl rfl ok k (fun j _ => tblok j)
  have e : spec k = ⟨T.ps, T.rs, T.ev tyt tbl k⟩ := congrArg (FnSpec.mk _ _) (funext fun x => ((e k (T.run tyt tbl k) x).trans (by rfl)).symm)
  rw [e]
  exact h
end spec_NewShop

namespace spec_l1Most
/-! ### spec_l1Most: function 109 -/
def m (k : Nat) (a0 a1 : Int) : Option (Int) := (if a1 < a0 then (some a0) else (some a1))
def f (k : Nat) (a0 a1 : Int) : Option (Int) := m k a0 a1
noncomputable def spec (k : Nat) : FnSpec := ⟨[.d (.int .i64) none, .d (.int .i64) none], [.d (.int .i64) none], fun x => f k x.1 x.2⟩
noncomputable def T : FnText := ⟨(conv [] (bodyOf Tryz.f109) 0).1, Tryz.f109.results.toList, 10, [], [.d (.int .i64) none, .d (.int .i64) none], [.d (.int .i64) none]⟩
noncomputable def tbl (k : Nat) : Tbl := []
theorem e (k : Nat) (o : Nat → St → Option (Int)) (a0 a1 : Int) : T.main tyt (tbl k) o (a0, a1) = m k a0 a1 := by kernel_rfl
theorem ok : T.ok = true := by kernel_rfl
theorem tblok (k : Nat) : TblOk Tryz.prog (tbl k) := TblOk.nil _
theorem sound (k : Nat) : Sound Tryz.prog 109 (spec k) := by
  have h := fn_ok (F := T) (tbl := tbl) mixed tyok Tryz.func109 (by kernel_rfl) (c0 := bodyOf Tryz.f109) rfl (conv_code _ _ _) rfl rfl ok k (fun j _ => tblok j)
  have e : spec k = ⟨T.ps, T.rs, T.ev tyt tbl k⟩ := congrArg (FnSpec.mk _ _) (funext fun x => ((e k (T.run tyt tbl k) x.1 x.2).trans (by rfl)).symm)
  rw [e]
  exact h
end spec_l1Most

namespace spec_l1Least
/-! ### spec_l1Least: function 150 -/
def m (k : Nat) (a0 a1 : Int) : Option (Int) := (if a0 < a1 then (some a0) else (some a1))
def f (k : Nat) (a0 a1 : Int) : Option (Int) := m k a0 a1
noncomputable def spec (k : Nat) : FnSpec := ⟨[.d (.int .i64) none, .d (.int .i64) none], [.d (.int .i64) none], fun x => f k x.1 x.2⟩
noncomputable def T : FnText := ⟨(conv [] (bodyOf Tryz.f150) 0).1, Tryz.f150.results.toList, 10, [], [.d (.int .i64) none, .d (.int .i64) none], [.d (.int .i64) none]⟩
noncomputable def tbl (k : Nat) : Tbl := []
theorem e (k : Nat) (o : Nat → St → Option (Int)) (a0 a1 : Int) : T.main tyt (tbl k) o (a0, a1) = m k a0 a1 := by kernel_rfl
theorem ok : T.ok = true := by kernel_rfl
theorem tblok (k : Nat) : TblOk Tryz.prog (tbl k) := TblOk.nil _
theorem sound (k : Nat) : Sound Tryz.prog 150 (spec k) := by
  have h := fn_ok (F := T) (tbl := tbl) mixed tyok Tryz.func150 (by kernel_rfl) (c0 := bodyOf Tryz.f150) rfl (conv_code _ _ _) rfl rfl ok k (fun j _ => tblok j)
  have e : spec k = ⟨T.ps, T.rs, T.ev tyt tbl k⟩ := congrArg (FnSpec.mk _ _) (funext fun x => ((e k (T.run tyt tbl k) x.1 x.2).trans (by rfl)).symm)
  rw [e]
  exact h
end spec_l1Least

namespace spec_l1Cur_one
/-! ### spec_l1Cur_one: function 58 -/
def m (k : Nat) (l0_0 : List Int) (a0_1 a0_2 a1 : Int) : Option (Bool × List Int × Int × Int) := ((spec_l1Cur_pick.f k l0_0 a0_1 a0_2 a1).bind fun r1 => (some ((decide (r1.1 = 0)), r1.2.1, r1.2.2.1, r1.2.2.2)))
def f (k : Nat) (l0_0 : List Int) (a0_1 a0_2 a1 : Int) : Option (Bool × List Int × Int × Int) := m k l0_0 a0_1 a0_2 a1
noncomputable def spec (k : Nat) : FnSpec := ⟨[.bx [.d (.sl (.int .u8)) none, .d (.int .i64) none, .d (.int .u64) none], .d (.int .i64) none], [.d .bool none], fun x => f k x.1 x.2.1 x.2.2.1 x.2.2.2⟩
noncomputable def T : FnText := ⟨(conv [] (bodyOf Tryz.f58) 0).1, Tryz.f58.results.toList, 9, [], [.bx [.d (.sl (.int .u8)) none, .d (.int .i64) none, .d (.int .u64) none], .d (.int .i64) none], [.d .bool none]⟩
noncomputable def tbl (k : Nat) : Tbl := [(59, spec_l1Cur_pick.spec k)]
theorem e (k : Nat) (o : Nat → St → Option (Bool × List Int × Int × Int)) (l0_0 : List Int) (a0_1 a0_2 a1 : Int) : T.main tyt (tbl k) o (l0_0, a0_1, a0_2, a1) = m k l0_0 a0_1 a0_2 a1 := by kernel_rfl
theorem ok : T.ok = true := by kernel_rfl
theorem tblok (k : Nat) : TblOk Tryz.prog (tbl k) := TblOk.cons (spec_l1Cur_pick.sound k) (TblOk.nil _)
theorem sound (k : Nat) : Sound Tryz.prog 58 (spec k) := by
  have h := fn_ok (F := T) (tbl := tbl) mixed tyok Tryz.func58 (by kernel_rfl) (c0 := bodyOf Tryz.f58) rfl (conv_code _ _ _) rfl rfl ok k (fun j _ => tblok j)
  have e : spec k = ⟨T.ps, T.rs, T.ev tyt tbl k⟩ := congrArg (FnSpec.mk _ _) (funext fun x => ((e k (T.run tyt tbl k) x.1 x.2.1 x.2.2.1 x.2.2.2).trans (by rfl)).symm)
  rw [e]
  exact h
end spec_l1Cur_one

namespace spec_l1Cur_shopStep
/-! ### spec_l1Cur_shopStep: function 108 -/
def b4 (k : Nat) (l0_4 : List Int) (x1_4 x2_4 x3_4 x4_4 : Int) (l5_4 : List (Int × Int × Int × Int × Int)) (x6_4 x7_4 x8_4 x9_4 x10_4 x11_4 x12_4 : Int) : Option (Int × Int × Int × List Int × Int × Int) := ((spec_l1Cur_one.f k l0_4 x1_4 x2_4 40).bind fun r10 => (cond r10.1 ((spec_l1Cur_among_2.f k r10.2.1 r10.2.2.1 r10.2.2.2 [0, 8, 5]).bind fun r11 => ((spec_l1Cur_among_2.f k r11.2.1 r11.2.2.1 r11.2.2.2.1 [(-1), 8, x10_4]).bind fun r12 => ((spec_l1Cur_among_2.f k r12.2.1 r12.2.2.1 r12.2.2.2.1 [0, 1]).bind fun r13 => (some (r11.1, r12.1, r13.1, r13.2.1, r13.2.2.1, r13.2.2.2.1))))) (if x11_4 = 1 then ((spec_l1Cur_among_2.f k r10.2.1 r10.2.2.1 r10.2.2.2 [1, 1, 3, 10, 4001, 0]).bind fun r14 => (some (x11_4, 0, r14.1, r14.2.1, r14.2.2.1, r14.2.2.2.1))) else (if x11_4 = 2 then ((spec_l1Cur_among_2.f k r10.2.1 r10.2.2.1 r10.2.2.2 [1, 5, 20, 40, 500, 501]).bind fun r15 => (some (x11_4, 0, r15.1, r15.2.1, r15.2.2.1, r15.2.2.2.1))) else (if x11_4 = 3 then ((spec_l1Most.f k 1 x4_4).bind fun r16 => ((spec_l1Cur_pick.f k r10.2.1 r10.2.2.1 r10.2.2.2 (w64 (r16 + 1))).bind fun r17 => (some (x11_4, x10_4, (w64 (1 + r17.1)), r17.2.1, r17.2.2.1, r17.2.2.2)))) else (if x11_4 = 4 then ((spec_l1Cur_among_2.f k r10.2.1 r10.2.2.1 r10.2.2.2 [x12_4, x12_4, 1, 20, 21]).bind fun r18 => (some (x11_4, x10_4, r18.1, r18.2.1, r18.2.2.1, r18.2.2.2.1))) else (if x11_4 = 7 then ((spec_l1Cur_among_2.f k r10.2.1 r10.2.2.1 r10.2.2.2 [1, 900, 20000, 1000000, 0]).bind fun r19 => (some (x11_4, x10_4, r19.1, r19.2.1, r19.2.2.1, r19.2.2.2.1))) else (some (x11_4, x10_4, 0, r10.2.1, r10.2.2.1, r10.2.2.2)))))))))
def b8 (o4 : List Int → Int → Int → Int → Int → (List (Int × Int × Int × Int × Int)) → Int → Int → Int → Int → Int → Int → Int → Option (Int × Int × Int × List Int × Int × Int)) (k : Nat) (l0_8 : List Int) (x1_8 x2_8 x3_8 x4_8 : Int) (l5_8 : List (Int × Int × Int × Int × Int)) (x6_8 x7_8 x8_8 x9_8 x10_8 x11_8 x12_8 x13_8 x14_8 x15_8 x16_8 x17_8 : Int) (x18_8 : Bool) : Option (Int × Int × Int × List Int × Int × Int) := (cond x18_8 ((chk [3, 4, 6, 7].length x15_8).bind fun i9 => (if x15_8 = 1 then (if x14_8 = x13_8 then (o4 l0_8 x1_8 x2_8 x3_8 x4_8 l5_8 x6_8 x7_8 x8_8 x9_8 x10_8 5 x12_8) else (o4 l0_8 x1_8 x2_8 x3_8 x4_8 l5_8 x6_8 x7_8 x8_8 x9_8 x10_8 ([3, 4, 6, 7].getD i9 0) x12_8)) else (o4 l0_8 x1_8 x2_8 x3_8 x4_8 l5_8 x6_8 x7_8 x8_8 x9_8 x10_8 ([3, 4, 6, 7].getD i9 0) x12_8))) (o4 l0_8 x1_8 x2_8 x3_8 x4_8 l5_8 x6_8 x7_8 x8_8 x9_8 x10_8 x11_8 x12_8))
mutual
def l4 : Nat → List Int → Int → Int → Int → Int → (List (Int × Int × Int × Int × Int)) → Int → Int → Int → Int → Int → Int → Int → Option (Int × Int × Int × List Int × Int × Int)
  | 0, _, _, _, _, _, _, _, _, _, _, _, _, _ => none
  | k + 1, l0_4, x1_4, x2_4, x3_4, x4_4, l5_4, x6_4, x7_4, x8_4, x9_4, x10_4, x11_4, x12_4 => b4 k l0_4 x1_4 x2_4 x3_4 x4_4 l5_4 x6_4 x7_4 x8_4 x9_4 x10_4 x11_4 x12_4
def l8 : Nat → List Int → Int → Int → Int → Int → (List (Int × Int × Int × Int × Int)) → Int → Int → Int → Int → Int → Int → Int → Int → Int → Int → Int → Int → Bool → Option (Int × Int × Int × List Int × Int × Int)
  | 0, _, _, _, _, _, _, _, _, _, _, _, _, _, _, _, _, _, _, _ => none
  | k + 1, l0_8, x1_8, x2_8, x3_8, x4_8, l5_8, x6_8, x7_8, x8_8, x9_8, x10_8, x11_8, x12_8, x13_8, x14_8, x15_8, x16_8, x17_8, x18_8 => b8 (spec_l1Cur_shopStep.l4 k) k l0_8 x1_8 x2_8 x3_8 x4_8 l5_8 x6_8 x7_8 x8_8 x9_8 x10_8 x11_8 x12_8 x13_8 x14_8 x15_8 x16_8 x17_8 x18_8
end
def m (o4 : List Int → Int → Int → Int → Int → (List (Int × Int × Int × Int × Int)) → Int → Int → Int → Int → Int → Int → Int → Option (Int × Int × Int × List Int × Int × Int)) (o8 : List Int → Int → Int → Int → Int → (List (Int × Int × Int × Int × Int)) → Int → Int → Int → Int → Int → Int → Int → Int → Int → Int → Int → Int → Bool → Option (Int × Int × Int × List Int × Int × Int)) (k : Nat) (l0_0 : List Int) (a0_1 a0_2 a1_0 a1_1 : Int) (l1_2 : List (Int × Int × Int × Int × Int)) (a1_3 : Int) : Option (Int × Int × Int × List Int × Int × Int) := ((spec_l1Most.f k 1 (l1_2.length : Int)).bind fun r1 => ((spec_l1Cur_pick.f k l0_0 a0_1 a0_2 r1).bind fun r2 => ((spec_l1Cur_among_2.f k r2.2.1 r2.2.2.1 r2.2.2.2 [1, 1, 2, 2, 3, 4, 5, 6, 7]).bind fun r3 => (if r2.1 < (l1_2.length : Int) then ((chk l1_2.length r2.1).bind fun i4 => ((spec_l1Least.f k 20 (w64 (((l1_2.getD i4 (0, 0, 0, 0, 0)).1) - (((l1_2.getD i4 (0, 0, 0, 0, 0)).2).1)))).bind fun r5 => ((spec_l1Most.f k 1 r5).bind fun r6 => ((spec_l1Cur_one.f k r3.2.1 r3.2.2.1 r3.2.2.2.1 2).bind fun r7 => (cond r7.1 ((spec_l1In.f k ((((l1_2.getD i4 (0, 0, 0, 0, 0)).2).2).1) 0 3).bind fun r8 => (o8 r7.2.1 r7.2.2.1 r7.2.2.2 a1_0 a1_1 l1_2 a1_3 0 0 0 r2.1 r3.1 r6 ((l1_2.getD i4 (0, 0, 0, 0, 0)).1) (((l1_2.getD i4 (0, 0, 0, 0, 0)).2).1) ((((l1_2.getD i4 (0, 0, 0, 0, 0)).2).2).1) (((((l1_2.getD i4 (0, 0, 0, 0, 0)).2).2).2).1) (((((l1_2.getD i4 (0, 0, 0, 0, 0)).2).2).2).2) r8)) (o8 r7.2.1 r7.2.2.1 r7.2.2.2 a1_0 a1_1 l1_2 a1_3 0 0 0 r2.1 r3.1 r6 ((l1_2.getD i4 (0, 0, 0, 0, 0)).1) (((l1_2.getD i4 (0, 0, 0, 0, 0)).2).1) ((((l1_2.getD i4 (0, 0, 0, 0, 0)).2).2).1) (((((l1_2.getD i4 (0, 0, 0, 0, 0)).2).2).2).1) (((((l1_2.getD i4 (0, 0, 0, 0, 0)).2).2).2).2) false)))))) else (o4 r3.2.1 r3.2.2.1 r3.2.2.2.1 a1_0 a1_1 l1_2 a1_3 0 0 0 r2.1 r3.1 5)))))
def f (k : Nat) (l0_0 : List Int) (a0_1 a0_2 a1_0 a1_1 : Int) (l1_2 : List (Int × Int × Int × Int × Int)) (a1_3 : Int) : Option (Int × Int × Int × List Int × Int × Int) := m (spec_l1Cur_shopStep.l4 k) (spec_l1Cur_shopStep.l8 k) k l0_0 a0_1 a0_2 a1_0 a1_1 l1_2 a1_3
noncomputable def spec (k : Nat) : FnSpec := ⟨[.bx [.d (.sl (.int .u8)) none, .d (.int .i64) none, .d (.int .u64) none], .ag [.d (.int .i64) none, .d (.int .i64) none, .d (.sl (.pair (.int .i64) (.pair (.int .i64) (.pair (.int .i64) (.pair (.int .i64) (.int .i64)))))) none, .d (.int .i64) none]], [.ag [.d (.int .i64) none, .d (.int .i64) none, .d (.int .i64) none]], fun x => f k x.1 x.2.1 x.2.2.1 x.2.2.2.1 x.2.2.2.2.1 x.2.2.2.2.2.1 x.2.2.2.2.2.2⟩
def S4 (l0_4 : List Int) (x1_4 x2_4 x3_4 x4_4 : Int) (l5_4 : List (Int × Int × Int × Int × Int)) (x6_4 x7_4 x8_4 x9_4 x10_4 x11_4 x12_4 : Int) : St := ⟨[(0, .ptr 0 0), (3, .ptr 100 0), (4, .ptr 101 0), (5, .val (.int .i64) x10_4), (6, .val (.int .i64) x11_4), (7, .val (.int .i64) x12_4)], [(101, some (.box [.val (.int .i64) x7_4, .val (.int .i64) x8_4, .val (.int .i64) x9_4])), (100, some (.box [.val (.int .i64) x3_4, .val (.int .i64) x4_4, .val (.sl (.pair (.int .i64) (.pair (.int .i64) (.pair (.int .i64) (.pair (.int .i64) (.int .i64)))))) l5_4, .val (.int .i64) x6_4])), (0, some (.box [.val (.sl (.int .u8)) l0_4, .val (.int .i64) x1_4, .val (.int .u64) x2_4]))], 1000⟩
def S8 (l0_8 : List Int) (x1_8 x2_8 x3_8 x4_8 : Int) (l5_8 : List (Int × Int × Int × Int × Int)) (x6_8 x7_8 x8_8 x9_8 x10_8 x11_8 x12_8 x13_8 x14_8 x15_8 x16_8 x17_8 : Int) (x18_8 : Bool) : St := ⟨[(0, .ptr 0 0), (3, .ptr 100 0), (4, .ptr 101 0), (5, .val (.int .i64) x10_8), (6, .val (.int .i64) x11_8), (7, .val (.int .i64) x12_8), (8, .ptr 102 0), (41, .val .bool x18_8)], [(102, some (.box [.val (.int .i64) x13_8, .val (.int .i64) x14_8, .val (.int .i64) x15_8, .val (.int .i64) x16_8, .val (.int .i64) x17_8])), (101, some (.box [.val (.int .i64) x7_8, .val (.int .i64) x8_8, .val (.int .i64) x9_8])), (100, some (.box [.val (.int .i64) x3_8, .val (.int .i64) x4_8, .val (.sl (.pair (.int .i64) (.pair (.int .i64) (.pair (.int .i64) (.pair (.int .i64) (.int .i64)))))) l5_8, .val (.int .i64) x6_8])), (0, some (.box [.val (.sl (.int .u8)) l0_8, .val (.int .i64) x1_8, .val (.int .u64) x2_8]))], 1000⟩
noncomputable def T : FnText := ⟨(conv [4, 8] (bodyOf Tryz.f108) 0).1, Tryz.f108.results.toList, 118, [(4, [(0, .bx 0 [.rd (.sl (.int .u8)), .rd (.int .i64), .rd (.int .u64)]), (3, .bx 100 [.rd (.int .i64), .rd (.int .i64), .rd (.sl (.pair (.int .i64) (.pair (.int .i64) (.pair (.int .i64) (.pair (.int .i64) (.int .i64)))))), .rd (.int .i64)]), (4, .bx 101 [.rd (.int .i64), .rd (.int .i64), .rd (.int .i64)]), (5, .rd (.int .i64)), (6, .rd (.int .i64)), (7, .rd (.int .i64))]), (8, [(0, .bx 0 [.rd (.sl (.int .u8)), .rd (.int .i64), .rd (.int .u64)]), (3, .bx 100 [.rd (.int .i64), .rd (.int .i64), .rd (.sl (.pair (.int .i64) (.pair (.int .i64) (.pair (.int .i64) (.pair (.int .i64) (.int .i64)))))), .rd (.int .i64)]), (4, .bx 101 [.rd (.int .i64), .rd (.int .i64), .rd (.int .i64)]), (5, .rd (.int .i64)), (6, .rd (.int .i64)), (7, .rd (.int .i64)), (8, .bx 102 [.rd (.int .i64), .rd (.int .i64), .rd (.int .i64), .rd (.int .i64), .rd (.int .i64)]), (41, .rd .bool)])], [.bx [.d (.sl (.int .u8)) none, .d (.int .i64) none, .d (.int .u64) none], .ag [.d (.int .i64) none, .d (.int .i64) none, .d (.sl (.pair (.int .i64) (.pair (.int .i64) (.pair (.int .i64) (.pair (.int .i64) (.int .i64)))))) none, .d (.int .i64) none]], [.ag [.d (.int .i64) none, .d (.int .i64) none, .d (.int .i64) none]]⟩
noncomputable def tbl (k : Nat) : Tbl := [(109, spec_l1Most.spec k), (59, spec_l1Cur_pick.spec k), (75, spec_l1Cur_among_2.spec k), (150, spec_l1Least.spec k), (58, spec_l1Cur_one.spec k), (118, spec_l1In.spec k)]
theorem e4 (k : Nat) (o : Nat → St → Option (Int × Int × Int × List Int × Int × Int)) (l0_4 : List Int) (x1_4 x2_4 x3_4 x4_4 : Int) (l5_4 : List (Int × Int × Int × Int × Int)) (x6_4 x7_4 x8_4 x9_4 x10_4 x11_4 x12_4 : Int) : T.step tyt (tbl k) o 4 (S4 l0_4 x1_4 x2_4 x3_4 x4_4 l5_4 x6_4 x7_4 x8_4 x9_4 x10_4 x11_4 x12_4) = b4 k l0_4 x1_4 x2_4 x3_4 x4_4 l5_4 x6_4 x7_4 x8_4 x9_4 x10_4 x11_4 x12_4 := by kernel_rfl
theorem e8 (k : Nat) (o : Nat → St → Option (Int × Int × Int × List Int × Int × Int)) (l0_8 : List Int) (x1_8 x2_8 x3_8 x4_8 : Int) (l5_8 : List (Int × Int × Int × Int × Int)) (x6_8 x7_8 x8_8 x9_8 x10_8 x11_8 x12_8 x13_8 x14_8 x15_8 x16_8 x17_8 : Int) (x18_8 : Bool) : T.step tyt (tbl k) o 8 (S8 l0_8 x1_8 x2_8 x3_8 x4_8 l5_8 x6_8 x7_8 x8_8 x9_8 x10_8 x11_8 x12_8 x13_8 x14_8 x15_8 x16_8 x17_8 x18_8) = b8 (fun l0_4 x1_4 x2_4 x3_4 x4_4 l5_4 x6_4 x7_4 x8_4 x9_4 x10_4 x11_4 x12_4 => o 4 (S4 l0_4 x1_4 x2_4 x3_4 x4_4 l5_4 x6_4 x7_4 x8_4 x9_4 x10_4 x11_4 x12_4)) k l0_8 x1_8 x2_8 x3_8 x4_8 l5_8 x6_8 x7_8 x8_8 x9_8 x10_8 x11_8 x12_8 x13_8 x14_8 x15_8 x16_8 x17_8 x18_8 := by kernel_rfl
theorem e (k : Nat) (o : Nat → St → Option (Int × Int × Int × List Int × Int × Int)) (l0_0 : List Int) (a0_1 a0_2 a1_0 a1_1 : Int) (l1_2 : List (Int × Int × Int × Int × Int)) (a1_3 : Int) : T.main tyt (tbl k) o (l0_0, a0_1, a0_2, a1_0, a1_1, l1_2, a1_3) = m (fun l0_4 x1_4 x2_4 x3_4 x4_4 l5_4 x6_4 x7_4 x8_4 x9_4 x10_4 x11_4 x12_4 => o 4 (S4 l0_4 x1_4 x2_4 x3_4 x4_4 l5_4 x6_4 x7_4 x8_4 x9_4 x10_4 x11_4 x12_4)) (fun l0_8 x1_8 x2_8 x3_8 x4_8 l5_8 x6_8 x7_8 x8_8 x9_8 x10_8 x11_8 x12_8 x13_8 x14_8 x15_8 x16_8 x17_8 x18_8 => o 8 (S8 l0_8 x1_8 x2_8 x3_8 x4_8 l5_8 x6_8 x7_8 x8_8 x9_8 x10_8 x11_8 x12_8 x13_8 x14_8 x15_8 x16_8 x17_8 x18_8)) k l0_0 a0_1 a0_2 a1_0 a1_1 l1_2 a1_3 := by kernel_rfl
theorem ok : T.ok = true := by kernel_rfl
theorem run (k : Nat) : (∀ (l0_4 : List Int) (x1_4 x2_4 x3_4 x4_4 : Int) (l5_4 : List (Int × Int × Int × Int × Int)) (x6_4 x7_4 x8_4 x9_4 x10_4 x11_4 x12_4 : Int), T.run tyt tbl k 4 (S4 l0_4 x1_4 x2_4 x3_4 x4_4 l5_4 x6_4 x7_4 x8_4 x9_4 x10_4 x11_4 x12_4) = spec_l1Cur_shopStep.l4 k l0_4 x1_4 x2_4 x3_4 x4_4 l5_4 x6_4 x7_4 x8_4 x9_4 x10_4 x11_4 x12_4) ∧ (∀ (l0_8 : List Int) (x1_8 x2_8 x3_8 x4_8 : Int) (l5_8 : List (Int × Int × Int × Int × Int)) (x6_8 x7_8 x8_8 x9_8 x10_8 x11_8 x12_8 x13_8 x14_8 x15_8 x16_8 x17_8 : Int) (x18_8 : Bool), T.run tyt tbl k 8 (S8 l0_8 x1_8 x2_8 x3_8 x4_8 l5_8 x6_8 x7_8 x8_8 x9_8 x10_8 x11_8 x12_8 x13_8 x14_8 x15_8 x16_8 x17_8 x18_8) = spec_l1Cur_shopStep.l8 k l0_8 x1_8 x2_8 x3_8 x4_8 l5_8 x6_8 x7_8 x8_8 x9_8 x10_8 x11_8 x12_8 x13_8 x14_8 x15_8 x16_8 x17_8 x18_8) := by
  induction k with
  | zero => exact ⟨fun l0_4 x1_4 x2_4 x3_4 x4_4 l5_4 x6_4 x7_4 x8_4 x9_4 x10_4 x11_4 x12_4 => rfl, fun l0_8 x1_8 x2_8 x3_8 x4_8 l5_8 x6_8 x7_8 x8_8 x9_8 x10_8 x11_8 x12_8 x13_8 x14_8 x15_8 x16_8 x17_8 x18_8 => rfl⟩
  | succ k ih =>
    exact ⟨fun l0_4 x1_4 x2_4 x3_4 x4_4 l5_4 x6_4 x7_4 x8_4 x9_4 x10_4 x11_4 x12_4 => by
      exact (e4 k (T.run tyt tbl k) l0_4 x1_4 x2_4 x3_4 x4_4 l5_4 x6_4 x7_4 x8_4 x9_4 x10_4 x11_4 x12_4).trans (by rfl), fun l0_8 x1_8 x2_8 x3_8 x4_8 l5_8 x6_8 x7_8 x8_8 x9_8 x10_8 x11_8 x12_8 x13_8 x14_8 x15_8 x16_8 x17_8 x18_8 => by
      have q4 : (fun l0_4 x1_4 x2_4 x3_4 x4_4 l5_4 x6_4 x7_4 x8_4 x9_4 x10_4 x11_4 x12_4 => T.run tyt tbl k 4 (S4 l0_4 x1_4 x2_4 x3_4 x4_4 l5_4 x6_4 x7_4 x8_4 x9_4 x10_4 x11_4 x12_4)) = spec_l1Cur_shopStep.l4 k := by funext l0_4 x1_4 x2_4 x3_4 x4_4 l5_4 x6_4 x7_4 x8_4 x9_4 x10_4 x11_4 x12_4; exact ih.1 l0_4 x1_4 x2_4 x3_4 x4_4 l5_4 x6_4 x7_4 x8_4 x9_4 x10_4 x11_4 x12_4
      exact (e8 k (T.run tyt tbl k) l0_8 x1_8 x2_8 x3_8 x4_8 l5_8 x6_8 x7_8 x8_8 x9_8 x10_8 x11_8 x12_8 x13_8 x14_8 x15_8 x16_8 x17_8 x18_8).trans (by rw [q4]; rfl)⟩
theorem tblok (k : Nat) : TblOk Tryz.prog (tbl k) := TblOk.cons (spec_l1Most.sound k) (TblOk.cons (spec_l1Cur_pick.sound k) (TblOk.cons (spec_l1Cur_among_2.sound k) (TblOk.cons (spec_l1Least.sound k) (TblOk.cons (spec_l1Cur_one.sound k) (TblOk.cons (spec_l1In.sound k) (TblOk.nil _))))))
theorem sound (k : Nat) : Sound Tryz.prog 108 (spec k) := by
  have h := fn_ok (F := T) (tbl := tbl) mixed tyok Tryz.func108 (by kernel_rfl) (c0 := bodyOf Tryz.f108) rfl (conv_code _ _ _) rfl rfl ok k (fun j _ => tblok j)
  have q4 : (fun l0_4 x1_4 x2_4 x3_4 x4_4 l5_4 x6_4 x7_4 x8_4 x9_4 x10_4 x11_4 x12_4 => T.run tyt tbl k 4 (S4 l0_4 x1_4 x2_4 x3_4 x4_4 l5_4 x6_4 x7_4 x8_4 x9_4 x10_4 x11_4 x12_4)) = spec_l1Cur_shopStep.l4 k := by funext l0_4 x1_4 x2_4 x3_4 x4_4 l5_4 x6_4 x7_4 x8_4 x9_4 x10_4 x11_4 x12_4; exact (run k).1 l0_4 x1_4 x2_4 x3_4 x4_4 l5_4 x6_4 x7_4 x8_4 x9_4 x10_4 x11_4 x12_4
  have q8 : (fun l0_8 x1_8 x2_8 x3_8 x4_8 l5_8 x6_8 x7_8 x8_8 x9_8 x10_8 x11_8 x12_8 x13_8 x14_8 x15_8 x16_8 x17_8 x18_8 => T.run tyt tbl k 8 (S8 l0_8 x1_8 x2_8 x3_8 x4_8 l5_8 x6_8 x7_8 x8_8 x9_8 x10_8 x11_8 x12_8 x13_8 x14_8 x15_8 x16_8 x17_8 x18_8)) = spec_l1Cur_shopStep.l8 k := by funext l0_8 x1_8 x2_8 x3_8 x4_8 l5_8 x6_8 x7_8 x8_8 x9_8 x10_8 x11_8 x12_8 x13_8 x14_8 x15_8 x16_8 x17_8 x18_8; exact (run k).2 l0_8 x1_8 x2_8 x3_8 x4_8 l5_8 x6_8 x7_8 x8_8 x9_8 x10_8 x11_8 x12_8 x13_8 x14_8 x15_8 x16_8 x17_8 x18_8
  have e : spec k = ⟨T.ps, T.rs, T.ev tyt tbl k⟩ := congrArg (FnSpec.mk _ _) (funext fun x => ((e k (T.run tyt tbl k) x.1 x.2.1 x.2.2.1 x.2.2.2.1 x.2.2.2.2.1 x.2.2.2.2.2.1 x.2.2.2.2.2.2).trans (by rw [q4, q8]; rfl)).symm)
  rw [e]
  exact h
end spec_l1Cur_shopStep

namespace spec_l1Cur_shopStep_2
/-! ### spec_l1Cur_shopStep_2: function 108 -/
def b4 (k : Nat) (l0_4 : List Int) (x1_4 x2_4 x3_4 x4_4 : Int) (l5_4 : List (Int × Int × Int × Int × Int)) (x6_4 x7_4 x8_4 x9_4 x10_4 x11_4 x12_4 x13_4 x14_4 x15_4 : Int) : Option (Int × Int × Int × List Int × Int × Int × List (Int × Int × Int × Int × Int)) := ((spec_l1Cur_one.f k l0_4 x1_4 x2_4 40).bind fun r10 => (cond r10.1 ((spec_l1Cur_among_2.f k r10.2.1 r10.2.2.1 r10.2.2.2 [0, 8, 5]).bind fun r11 => ((spec_l1Cur_among_2.f k r11.2.1 r11.2.2.1 r11.2.2.2.1 [(-1), 8, x13_4]).bind fun r12 => ((spec_l1Cur_among_2.f k r12.2.1 r12.2.2.1 r12.2.2.2.1 [0, 1]).bind fun r13 => (some (r11.1, r12.1, r13.1, r13.2.1, r13.2.2.1, r13.2.2.2.1, l5_4))))) (if x14_4 = 1 then ((spec_l1Cur_among_2.f k r10.2.1 r10.2.2.1 r10.2.2.2 [1, 1, 3, 10, 4001, 0]).bind fun r14 => (some (x14_4, 0, r14.1, r14.2.1, r14.2.2.1, r14.2.2.2.1, l5_4))) else (if x14_4 = 2 then ((spec_l1Cur_among_2.f k r10.2.1 r10.2.2.1 r10.2.2.2 [1, 5, 20, 40, 500, 501]).bind fun r15 => (some (x14_4, 0, r15.1, r15.2.1, r15.2.2.1, r15.2.2.2.1, l5_4))) else (if x14_4 = 3 then ((spec_l1Most.f k 1 x8_4).bind fun r16 => ((spec_l1Cur_pick.f k r10.2.1 r10.2.2.1 r10.2.2.2 (w64 (r16 + 1))).bind fun r17 => (some (x14_4, x13_4, (w64 (1 + r17.1)), r17.2.1, r17.2.2.1, r17.2.2.2, l5_4)))) else (if x14_4 = 4 then ((spec_l1Cur_among_2.f k r10.2.1 r10.2.2.1 r10.2.2.2 [x15_4, x15_4, 1, 20, 21]).bind fun r18 => (some (x14_4, x13_4, r18.1, r18.2.1, r18.2.2.1, r18.2.2.2.1, l5_4))) else (if x14_4 = 7 then ((spec_l1Cur_among_2.f k r10.2.1 r10.2.2.1 r10.2.2.2 [1, 900, 20000, 1000000, 0]).bind fun r19 => (some (x14_4, x13_4, r19.1, r19.2.1, r19.2.2.1, r19.2.2.2.1, l5_4))) else (some (x14_4, x13_4, 0, r10.2.1, r10.2.2.1, r10.2.2.2, l5_4)))))))))
def b8 (o4 : List Int → Int → Int → Int → Int → (List (Int × Int × Int × Int × Int)) → Int → Int → Int → Int → Int → Int → Int → Int → Int → Int → Option (Int × Int × Int × List Int × Int × Int × List (Int × Int × Int × Int × Int))) (k : Nat) (l0_8 : List Int) (x1_8 x2_8 x3_8 x4_8 : Int) (l5_8 : List (Int × Int × Int × Int × Int)) (x6_8 x7_8 x8_8 x9_8 x10_8 x11_8 x12_8 x13_8 x14_8 x15_8 x16_8 x17_8 x18_8 x19_8 x20_8 : Int) (x21_8 : Bool) : Option (Int × Int × Int × List Int × Int × Int × List (Int × Int × Int × Int × Int)) := (cond x21_8 ((chk [3, 4, 6, 7].length x18_8).bind fun i9 => (if x18_8 = 1 then (if x17_8 = x16_8 then (o4 l0_8 x1_8 x2_8 x3_8 x4_8 l5_8 x6_8 x7_8 x8_8 x9_8 x10_8 x11_8 x12_8 x13_8 5 x15_8) else (o4 l0_8 x1_8 x2_8 x3_8 x4_8 l5_8 x6_8 x7_8 x8_8 x9_8 x10_8 x11_8 x12_8 x13_8 ([3, 4, 6, 7].getD i9 0) x15_8)) else (o4 l0_8 x1_8 x2_8 x3_8 x4_8 l5_8 x6_8 x7_8 x8_8 x9_8 x10_8 x11_8 x12_8 x13_8 ([3, 4, 6, 7].getD i9 0) x15_8))) (o4 l0_8 x1_8 x2_8 x3_8 x4_8 l5_8 x6_8 x7_8 x8_8 x9_8 x10_8 x11_8 x12_8 x13_8 x14_8 x15_8))
mutual
def l4 : Nat → List Int → Int → Int → Int → Int → (List (Int × Int × Int × Int × Int)) → Int → Int → Int → Int → Int → Int → Int → Int → Int → Int → Option (Int × Int × Int × List Int × Int × Int × List (Int × Int × Int × Int × Int))
  | 0, _, _, _, _, _, _, _, _, _, _, _, _, _, _, _, _ => none
  | k + 1, l0_4, x1_4, x2_4, x3_4, x4_4, l5_4, x6_4, x7_4, x8_4, x9_4, x10_4, x11_4, x12_4, x13_4, x14_4, x15_4 => b4 k l0_4 x1_4 x2_4 x3_4 x4_4 l5_4 x6_4 x7_4 x8_4 x9_4 x10_4 x11_4 x12_4 x13_4 x14_4 x15_4
def l8 : Nat → List Int → Int → Int → Int → Int → (List (Int × Int × Int × Int × Int)) → Int → Int → Int → Int → Int → Int → Int → Int → Int → Int → Int → Int → Int → Int → Int → Bool → Option (Int × Int × Int × List Int × Int × Int × List (Int × Int × Int × Int × Int))
  | 0, _, _, _, _, _, _, _, _, _, _, _, _, _, _, _, _, _, _, _, _, _, _ => none
  | k + 1, l0_8, x1_8, x2_8, x3_8, x4_8, l5_8, x6_8, x7_8, x8_8, x9_8, x10_8, x11_8, x12_8, x13_8, x14_8, x15_8, x16_8, x17_8, x18_8, x19_8, x20_8, x21_8 => b8 (spec_l1Cur_shopStep_2.l4 k) k l0_8 x1_8 x2_8 x3_8 x4_8 l5_8 x6_8 x7_8 x8_8 x9_8 x10_8 x11_8 x12_8 x13_8 x14_8 x15_8 x16_8 x17_8 x18_8 x19_8 x20_8 x21_8
end
def m (o4 : List Int → Int → Int → Int → Int → (List (Int × Int × Int × Int × Int)) → Int → Int → Int → Int → Int → Int → Int → Int → Int → Int → Option (Int × Int × Int × List Int × Int × Int × List (Int × Int × Int × Int × Int))) (o8 : List Int → Int → Int → Int → Int → (List (Int × Int × Int × Int × Int)) → Int → Int → Int → Int → Int → Int → Int → Int → Int → Int → Int → Int → Int → Int → Int → Bool → Option (Int × Int × Int × List Int × Int × Int × List (Int × Int × Int × Int × Int))) (k : Nat) (l0_0 : List Int) (a0_1 a0_2 a1_0 a1_1 : Int) (l1_2 : List (Int × Int × Int × Int × Int)) (a1_3 : Int) : Option (Int × Int × Int × List Int × Int × Int × List (Int × Int × Int × Int × Int)) := ((spec_l1Most.f k 1 (l1_2.length : Int)).bind fun r1 => ((spec_l1Cur_pick.f k l0_0 a0_1 a0_2 r1).bind fun r2 => ((spec_l1Cur_among_2.f k r2.2.1 r2.2.2.1 r2.2.2.2 [1, 1, 2, 2, 3, 4, 5, 6, 7]).bind fun r3 => (if r2.1 < (l1_2.length : Int) then ((chk l1_2.length r2.1).bind fun i4 => ((spec_l1Least.f k 20 (w64 (((l1_2.getD i4 (0, 0, 0, 0, 0)).1) - (((l1_2.getD i4 (0, 0, 0, 0, 0)).2).1)))).bind fun r5 => ((spec_l1Most.f k 1 r5).bind fun r6 => ((spec_l1Cur_one.f k r3.2.1 r3.2.2.1 r3.2.2.2.1 2).bind fun r7 => (cond r7.1 ((spec_l1In.f k ((((l1_2.getD i4 (0, 0, 0, 0, 0)).2).2).1) 0 3).bind fun r8 => (o8 r7.2.1 r7.2.2.1 r7.2.2.2 a1_0 a1_1 l1_2 a1_3 a1_0 a1_1 a1_3 0 0 0 r2.1 r3.1 r6 ((l1_2.getD i4 (0, 0, 0, 0, 0)).1) (((l1_2.getD i4 (0, 0, 0, 0, 0)).2).1) ((((l1_2.getD i4 (0, 0, 0, 0, 0)).2).2).1) (((((l1_2.getD i4 (0, 0, 0, 0, 0)).2).2).2).1) (((((l1_2.getD i4 (0, 0, 0, 0, 0)).2).2).2).2) r8)) (o8 r7.2.1 r7.2.2.1 r7.2.2.2 a1_0 a1_1 l1_2 a1_3 a1_0 a1_1 a1_3 0 0 0 r2.1 r3.1 r6 ((l1_2.getD i4 (0, 0, 0, 0, 0)).1) (((l1_2.getD i4 (0, 0, 0, 0, 0)).2).1) ((((l1_2.getD i4 (0, 0, 0, 0, 0)).2).2).1) (((((l1_2.getD i4 (0, 0, 0, 0, 0)).2).2).2).1) (((((l1_2.getD i4 (0, 0, 0, 0, 0)).2).2).2).2) false)))))) else (o4 r3.2.1 r3.2.2.1 r3.2.2.2.1 a1_0 a1_1 l1_2 a1_3 a1_0 a1_1 a1_3 0 0 0 r2.1 r3.1 5)))))
def f (k : Nat) (l0_0 : List Int) (a0_1 a0_2 a1_0 a1_1 : Int) (l1_2 : List (Int × Int × Int × Int × Int)) (a1_3 : Int) : Option (Int × Int × Int × List Int × Int × Int × List (Int × Int × Int × Int × Int)) := m (spec_l1Cur_shopStep_2.l4 k) (spec_l1Cur_shopStep_2.l8 k) k l0_0 a0_1 a0_2 a1_0 a1_1 l1_2 a1_3
noncomputable def spec (k : Nat) : FnSpec := ⟨[.bx [.d (.sl (.int .u8)) none, .d (.int .i64) none, .d (.int .u64) none], .ag [.d (.int .i64) none, .d (.int .i64) none, .io 108 (.pair (.int .i64) (.pair (.int .i64) (.pair (.int .i64) (.pair (.int .i64) (.int .i64))))), .d (.int .i64) none]], [.ag [.d (.int .i64) none, .d (.int .i64) none, .d (.int .i64) none]], fun x => f k x.1 x.2.1 x.2.2.1 x.2.2.2.1 x.2.2.2.2.1 x.2.2.2.2.2.1 x.2.2.2.2.2.2⟩
def S4 (l0_4 : List Int) (x1_4 x2_4 x3_4 x4_4 : Int) (l5_4 : List (Int × Int × Int × Int × Int)) (x6_4 x7_4 x8_4 x9_4 x10_4 x11_4 x12_4 x13_4 x14_4 x15_4 : Int) : St := ⟨[(0, .ptr 0 0), (1, .agg [.val (.int .i64) x3_4, .val (.int .i64) x4_4, .ref 1, .val (.int .i64) x6_4]), (3, .ptr 100 0), (4, .ptr 101 0), (5, .val (.int .i64) x13_4), (6, .val (.int .i64) x14_4), (7, .val (.int .i64) x15_4)], [(101, some (.box [.val (.int .i64) x10_4, .val (.int .i64) x11_4, .val (.int .i64) x12_4])), (100, some (.box [.val (.int .i64) x7_4, .val (.int .i64) x8_4, .ref 1, .val (.int .i64) x9_4])), (1, some (.row 108 (.pair (.int .i64) (.pair (.int .i64) (.pair (.int .i64) (.pair (.int .i64) (.int .i64))))) l5_4)), (0, some (.box [.val (.sl (.int .u8)) l0_4, .val (.int .i64) x1_4, .val (.int .u64) x2_4]))], 1000⟩
def S8 (l0_8 : List Int) (x1_8 x2_8 x3_8 x4_8 : Int) (l5_8 : List (Int × Int × Int × Int × Int)) (x6_8 x7_8 x8_8 x9_8 x10_8 x11_8 x12_8 x13_8 x14_8 x15_8 x16_8 x17_8 x18_8 x19_8 x20_8 : Int) (x21_8 : Bool) : St := ⟨[(0, .ptr 0 0), (1, .agg [.val (.int .i64) x3_8, .val (.int .i64) x4_8, .ref 1, .val (.int .i64) x6_8]), (3, .ptr 100 0), (4, .ptr 101 0), (5, .val (.int .i64) x13_8), (6, .val (.int .i64) x14_8), (7, .val (.int .i64) x15_8), (8, .ptr 102 0), (41, .val .bool x21_8)], [(102, some (.box [.val (.int .i64) x16_8, .val (.int .i64) x17_8, .val (.int .i64) x18_8, .val (.int .i64) x19_8, .val (.int .i64) x20_8])), (101, some (.box [.val (.int .i64) x10_8, .val (.int .i64) x11_8, .val (.int .i64) x12_8])), (100, some (.box [.val (.int .i64) x7_8, .val (.int .i64) x8_8, .ref 1, .val (.int .i64) x9_8])), (1, some (.row 108 (.pair (.int .i64) (.pair (.int .i64) (.pair (.int .i64) (.pair (.int .i64) (.int .i64))))) l5_8)), (0, some (.box [.val (.sl (.int .u8)) l0_8, .val (.int .i64) x1_8, .val (.int .u64) x2_8]))], 1000⟩
noncomputable def T : FnText := ⟨(conv [4, 8] (bodyOf Tryz.f108) 0).1, Tryz.f108.results.toList, 118, [(4, [(0, .bx 0 [.rd (.sl (.int .u8)), .rd (.int .i64), .rd (.int .u64)]), (1, .ag [.rd (.int .i64), .rd (.int .i64), .own 108 (.pair (.int .i64) (.pair (.int .i64) (.pair (.int .i64) (.pair (.int .i64) (.int .i64))))) 1, .rd (.int .i64)]), (3, .bx 100 [.rd (.int .i64), .rd (.int .i64), .own 108 (.pair (.int .i64) (.pair (.int .i64) (.pair (.int .i64) (.pair (.int .i64) (.int .i64))))) 1, .rd (.int .i64)]), (4, .bx 101 [.rd (.int .i64), .rd (.int .i64), .rd (.int .i64)]), (5, .rd (.int .i64)), (6, .rd (.int .i64)), (7, .rd (.int .i64))]), (8, [(0, .bx 0 [.rd (.sl (.int .u8)), .rd (.int .i64), .rd (.int .u64)]), (1, .ag [.rd (.int .i64), .rd (.int .i64), .own 108 (.pair (.int .i64) (.pair (.int .i64) (.pair (.int .i64) (.pair (.int .i64) (.int .i64))))) 1, .rd (.int .i64)]), (3, .bx 100 [.rd (.int .i64), .rd (.int .i64), .own 108 (.pair (.int .i64) (.pair (.int .i64) (.pair (.int .i64) (.pair (.int .i64) (.int .i64))))) 1, .rd (.int .i64)]), (4, .bx 101 [.rd (.int .i64), .rd (.int .i64), .rd (.int .i64)]), (5, .rd (.int .i64)), (6, .rd (.int .i64)), (7, .rd (.int .i64)), (8, .bx 102 [.rd (.int .i64), .rd (.int .i64), .rd (.int .i64), .rd (.int .i64), .rd (.int .i64)]), (41, .rd .bool)])], [.bx [.d (.sl (.int .u8)) none, .d (.int .i64) none, .d (.int .u64) none], .ag [.d (.int .i64) none, .d (.int .i64) none, .io 108 (.pair (.int .i64) (.pair (.int .i64) (.pair (.int .i64) (.pair (.int .i64) (.int .i64))))), .d (.int .i64) none]], [.ag [.d (.int .i64) none, .d (.int .i64) none, .d (.int .i64) none]]⟩
noncomputable def tbl (k : Nat) : Tbl := [(109, spec_l1Most.spec k), (59, spec_l1Cur_pick.spec k), (75, spec_l1Cur_among_2.spec k), (150, spec_l1Least.spec k), (58, spec_l1Cur_one.spec k), (118, spec_l1In.spec k)]
theorem e4 (k : Nat) (o : Nat → St → Option (Int × Int × Int × List Int × Int × Int × List (Int × Int × Int × Int × Int))) (l0_4 : List Int) (x1_4 x2_4 x3_4 x4_4 : Int) (l5_4 : List (Int × Int × Int × Int × Int)) (x6_4 x7_4 x8_4 x9_4 x10_4 x11_4 x12_4 x13_4 x14_4 x15_4 : Int) : T.step tyt (tbl k) o 4 (S4 l0_4 x1_4 x2_4 x3_4 x4_4 l5_4 x6_4 x7_4 x8_4 x9_4 x10_4 x11_4 x12_4 x13_4 x14_4 x15_4) = b4 k l0_4 x1_4 x2_4 x3_4 x4_4 l5_4 x6_4 x7_4 x8_4 x9_4 x10_4 x11_4 x12_4 x13_4 x14_4 x15_4 := by kernel_rfl
theorem e8 (k : Nat) (o : Nat → St → Option (Int × Int × Int × List Int × Int × Int × List (Int × Int × Int × Int × Int))) (l0_8 : List Int) (x1_8 x2_8 x3_8 x4_8 : Int) (l5_8 : List (Int × Int × Int × Int × Int)) (x6_8 x7_8 x8_8 x9_8 x10_8 x11_8 x12_8 x13_8 x14_8 x15_8 x16_8 x17_8 x18_8 x19_8 x20_8 : Int) (x21_8 : Bool) : T.step tyt (tbl k) o 8 (S8 l0_8 x1_8 x2_8 x3_8 x4_8 l5_8 x6_8 x7_8 x8_8 x9_8 x10_8 x11_8 x12_8 x13_8 x14_8 x15_8 x16_8 x17_8 x18_8 x19_8 x20_8 x21_8) = b8 (fun l0_4 x1_4 x2_4 x3_4 x4_4 l5_4 x6_4 x7_4 x8_4 x9_4 x10_4 x11_4 x12_4 x13_4 x14_4 x15_4 => o 4 (S4 l0_4 x1_4 x2_4 x3_4 x4_4 l5_4 x6_4 x7_4 x8_4 x9_4 x10_4 x11_4 x12_4 x13_4 x14_4 x15_4)) k l0_8 x1_8 x2_8 x3_8 x4_8 l5_8 x6_8 x7_8 x8_8 x9_8 x10_8 x11_8 x12_8 x13_8 x14_8 x15_8 x16_8 x17_8 x18_8 x19_8 x20_8 x21_8 := by kernel_rfl
theorem e (k : Nat) (o : Nat → St → Option (Int × Int × Int × List Int × Int × Int × List (Int × Int × Int × Int × Int))) (l0_0 : List Int) (a0_1 a0_2 a1_0 a1_1 : Int) (l1_2 : List (Int × Int × Int × Int × Int)) (a1_3 : Int) : T.main tyt (tbl k) o (l0_0, a0_1, a0_2, a1_0, a1_1, l1_2, a1_3) = m (fun l0_4 x1_4 x2_4 x3_4 x4_4 l5_4 x6_4 x7_4 x8_4 x9_4 x10_4 x11_4 x12_4 x13_4 x14_4 x15_4 => o 4 (S4 l0_4 x1_4 x2_4 x3_4 x4_4 l5_4 x6_4 x7_4 x8_4 x9_4 x10_4 x11_4 x12_4 x13_4 x14_4 x15_4)) (fun l0_8 x1_8 x2_8 x3_8 x4_8 l5_8 x6_8 x7_8 x8_8 x9_8 x10_8 x11_8 x12_8 x13_8 x14_8 x15_8 x16_8 x17_8 x18_8 x19_8 x20_8 x21_8 => o 8 (S8 l0_8 x1_8 x2_8 x3_8 x4_8 l5_8 x6_8 x7_8 x8_8 x9_8 x10_8 x11_8 x12_8 x13_8 x14_8 x15_8 x16_8 x17_8 x18_8 x19_8 x20_8 x21_8)) k l0_0 a0_1 a0_2 a1_0 a1_1 l1_2 a1_3 := by kernel_rfl
theorem ok : T.ok = true := by kernel_rfl
theorem run (k : Nat) : (∀ (l0_4 : List Int) (x1_4 x2_4 x3_4 x4_4 : Int) (l5_4 : List (Int × Int × Int × Int × Int)) (x6_4 x7_4 x8_4 x9_4 x10_4 x11_4 x12_4 x13_4 x14_4 x15_4 : Int), T.run tyt tbl k 4 (S4 l0_4 x1_4 x2_4 x3_4 x4_4 l5_4 x6_4 x7_4 x8_4 x9_4 x10_4 x11_4 x12_4 x13_4 x14_4 x15_4) = spec_l1Cur_shopStep_2.l4 k l0_4 x1_4 x2_4 x3_4 x4_4 l5_4 x6_4 x7_4 x8_4 x9_4 x10_4 x11_4 x12_4 x13_4 x14_4 x15_4) ∧ (∀ (l0_8 : List Int) (x1_8 x2_8 x3_8 x4_8 : Int) (l5_8 : List (Int × Int × Int × Int × Int)) (x6_8 x7_8 x8_8 x9_8 x10_8 x11_8 x12_8 x13_8 x14_8 x15_8 x16_8 x17_8 x18_8 x19_8 x20_8 : Int) (x21_8 : Bool), T.run tyt tbl k 8 (S8 l0_8 x1_8 x2_8 x3_8 x4_8 l5_8 x6_8 x7_8 x8_8 x9_8 x10_8 x11_8 x12_8 x13_8 x14_8 x15_8 x16_8 x17_8 x18_8 x19_8 x20_8 x21_8) = spec_l1Cur_shopStep_2.l8 k l0_8 x1_8 x2_8 x3_8 x4_8 l5_8 x6_8 x7_8 x8_8 x9_8 x10_8 x11_8 x12_8 x13_8 x14_8 x15_8 x16_8 x17_8 x18_8 x19_8 x20_8 x21_8) := by
  induction k with
  | zero => exact ⟨fun l0_4 x1_4 x2_4 x3_4 x4_4 l5_4 x6_4 x7_4 x8_4 x9_4 x10_4 x11_4 x12_4 x13_4 x14_4 x15_4 => rfl, fun l0_8 x1_8 x2_8 x3_8 x4_8 l5_8 x6_8 x7_8 x8_8 x9_8 x10_8 x11_8 x12_8 x13_8 x14_8 x15_8 x16_8 x17_8 x18_8 x19_8 x20_8 x21_8 => rfl⟩
  | succ k ih =>
    exact ⟨fun l0_4 x1_4 x2_4 x3_4 x4_4 l5_4 x6_4 x7_4 x8_4 x9_4 x10_4 x11_4 x12_4 x13_4 x14_4 x15_4 => by
      exact (e4 k (T.run tyt tbl k) l0_4 x1_4 x2_4 x3_4 x4_4 l5_4 x6_4 x7_4 x8_4 x9_4 x10_4 x11_4 x12_4 x13_4 x14_4 x15_4).trans (by rfl), fun l0_8 x1_8 x2_8 x3_8 x4_8 l5_8 x6_8 x7_8 x8_8 x9_8 x10_8 x11_8 x12_8 x13_8 x14_8 x15_8 x16_8 x17_8 x18_8 x19_8 x20_8 x21_8 => by
      have q4 : (fun l0_4 x1_4 x2_4 x3_4 x4_4 l5_4 x6_4 x7_4 x8_4 x9_4 x10_4 x11_4 x12_4 x13_4 x14_4 x15_4 => T.run tyt tbl k 4 (S4 l0_4 x1_4 x2_4 x3_4 x4_4 l5_4 x6_4 x7_4 x8_4 x9_4 x10_4 x11_4 x12_4 x13_4 x14_4 x15_4)) = spec_l1Cur_shopStep_2.l4 k := by funext l0_4 x1_4 x2_4 x3_4 x4_4 l5_4 x6_4 x7_4 x8_4 x9_4 x10_4 x11_4 x12_4 x13_4 x14_4 x15_4; exact ih.1 l0_4 x1_4 x2_4 x3_4 x4_4 l5_4 x6_4 x7_4 x8_4 x9_4 x10_4 x11_4 x12_4 x13_4 x14_4 x15_4
      exact (e8 k (T.run tyt tbl k) l0_8 x1_8 x2_8 x3_8 x4_8 l5_8 x6_8 x7_8 x8_8 x9_8 x10_8 x11_8 x12_8 x13_8 x14_8 x15_8 x16_8 x17_8 x18_8 x19_8 x20_8 x21_8).trans (by rw [q4]; rfl)⟩
theorem tblok (k : Nat) : TblOk Tryz.prog (tbl k) := TblOk.cons (spec_l1Most.sound k) (TblOk.cons (spec_l1Cur_pick.sound k) (TblOk.cons (spec_l1Cur_among_2.sound k) (TblOk.cons (spec_l1Least.sound k) (TblOk.cons (spec_l1Cur_one.sound k) (TblOk.cons (spec_l1In.sound k) (TblOk.nil _))))))
theorem sound (k : Nat) : Sound Tryz.prog 108 (spec k) := by
  have h := fn_ok (F := T) (tbl := tbl) mixed tyok Tryz.func108 (by kernel_rfl) (c0 := bodyOf Tryz.f108) rfl (conv_code _ _ _) rfl rfl ok k (fun j _ => tblok j)
  have q4 : (fun l0_4 x1_4 x2_4 x3_4 x4_4 l5_4 x6_4 x7_4 x8_4 x9_4 x10_4 x11_4 x12_4 x13_4 x14_4 x15_4 => T.run tyt tbl k 4 (S4 l0_4 x1_4 x2_4 x3_4 x4_4 l5_4 x6_4 x7_4 x8_4 x9_4 x10_4 x11_4 x12_4 x13_4 x14_4 x15_4)) = spec_l1Cur_shopStep_2.l4 k := by funext l0_4 x1_4 x2_4 x3_4 x4_4 l5_4 x6_4 x7_4 x8_4 x9_4 x10_4 x11_4 x12_4 x13_4 x14_4 x15_4; exact (run k).1 l0_4 x1_4 x2_4 x3_4 x4_4 l5_4 x6_4 x7_4 x8_4 x9_4 x10_4 x11_4 x12_4 x13_4 x14_4 x15_4
  have q8 : (fun l0_8 x1_8 x2_8 x3_8 x4_8 l5_8 x6_8 x7_8 x8_8 x9_8 x10_8 x11_8 x12_8 x13_8 x14_8 x15_8 x16_8 x17_8 x18_8 x19_8 x20_8 x21_8 => T.run tyt tbl k 8 (S8 l0_8 x1_8 x2_8 x3_8 x4_8 l5_8 x6_8 x7_8 x8_8 x9_8 x10_8 x11_8 x12_8 x13_8 x14_8 x15_8 x16_8 x17_8 x18_8 x19_8 x20_8 x21_8)) = spec_l1Cur_shopStep_2.l8 k := by funext l0_8 x1_8 x2_8 x3_8 x4_8 l5_8 x6_8 x7_8 x8_8 x9_8 x10_8 x11_8 x12_8 x13_8 x14_8 x15_8 x16_8 x17_8 x18_8 x19_8 x20_8 x21_8; exact (run k).2 l0_8 x1_8 x2_8 x3_8 x4_8 l5_8 x6_8 x7_8 x8_8 x9_8 x10_8 x11_8 x12_8 x13_8 x14_8 x15_8 x16_8 x17_8 x18_8 x19_8 x20_8 x21_8
  have e : spec k = ⟨T.ps, T.rs, T.ev tyt tbl k⟩ := congrArg (FnSpec.mk _ _) (funext fun x => ((e k (T.run tyt tbl k) x.1 x.2.1 x.2.2.1 x.2.2.2.1 x.2.2.2.2.1 x.2.2.2.2.2.1 x.2.2.2.2.2.2).trans (by rw [q4, q8]; rfl)).symm)
  rw [e]
  exact h
end spec_l1Cur_shopStep_2

namespace spec_l2Day
/-! ### spec_l2Day: function 121 -/
def m (k : Nat) (a0 : Int) : Option (Bool) := ((spec_l1In.f k a0 0 4000).bind fun r1 => (some r1))
def f (k : Nat) (a0 : Int) : Option (Bool) := m k a0
noncomputable def spec (k : Nat) : FnSpec := ⟨[.d (.int .i64) none], [.d .bool none], fun x => f k x⟩
noncomputable def T : FnText := ⟨(conv [] (bodyOf Tryz.f121) 0).1, Tryz.f121.results.toList, 5, [], [.d (.int .i64) none], [.d .bool none]⟩
noncomputable def tbl (k : Nat) : Tbl := [(118, spec_l1In.spec k)]
theorem e (k : Nat) (o : Nat → St → Option (Bool)) (a0 : Int) : T.main tyt (tbl k) o a0 = m k a0 := by kernel_rfl
theorem ok : T.ok = true := by kernel_rfl
theorem tblok (k : Nat) : TblOk Tryz.prog (tbl k) := TblOk.cons (spec_l1In.sound k) (TblOk.nil _)
theorem sound (k : Nat) : Sound Tryz.prog 121 (spec k) := by
  have h := fn_ok (F := T) (tbl := tbl) mixed tyok Tryz.func121 (by kernel_rfl) (c0 := bodyOf Tryz.f121) rfl (conv_code _ _ _) rfl rfl ok k (fun j _ => tblok j)
  have e : spec k = ⟨T.ps, T.rs, T.ev tyt tbl k⟩ := congrArg (FnSpec.mk _ _) (funext fun x => ((e k (T.run tyt tbl k) x).trans (by rfl)).symm)
  rw [e]
  exact h
end spec_l2Day

namespace spec_l25Carpet
/-! ### spec_l25Carpet: function 122 -/
def m (k : Nat) (a0_0 a0_1 : Int) (l0_2 : List (Int × Int × Int × Int × Int)) (a0_3 a1_0 a1_1 a1_2 a1_3 a1_4 : Int) : Option (Bool) := ((spec_l1In.f k a1_0 1 500).bind fun r1 => (cond (!r1) (some false) ((spec_l1In.f k a1_1 0 a1_0).bind fun r2 => (cond (!r2) (some false) ((spec_l1In.f k a1_2 0 4).bind fun r3 => (cond (!r3) (some false) ((spec_l1In.f k a1_4 0 a0_0).bind fun r4 => (cond (!r4) (some false) (if a1_2 = 1 then ((spec_l1In.f k a1_3 1 a0_1).bind fun r5 => (some r5)) else (if a1_2 = 0 then (if a1_3 = 0 then (some (decide (a1_1 = 0))) else (some false)) else (if a1_3 = 0 then (some (decide (a1_1 = a1_0))) else (some false))))))))))))
def f (k : Nat) (a0_0 a0_1 : Int) (l0_2 : List (Int × Int × Int × Int × Int)) (a0_3 a1_0 a1_1 a1_2 a1_3 a1_4 : Int) : Option (Bool) := m k a0_0 a0_1 l0_2 a0_3 a1_0 a1_1 a1_2 a1_3 a1_4
noncomputable def spec (k : Nat) : FnSpec := ⟨[.ag [.d (.int .i64) none, .d (.int .i64) none, .d (.sl (.pair (.int .i64) (.pair (.int .i64) (.pair (.int .i64) (.pair (.int .i64) (.int .i64)))))) none, .d (.int .i64) none], .ag [.d (.int .i64) none, .d (.int .i64) none, .d (.int .i64) none, .d (.int .i64) none, .d (.int .i64) none]], [.d .bool none], fun x => f k x.1 x.2.1 x.2.2.1 x.2.2.2.1 x.2.2.2.2.1 x.2.2.2.2.2.1 x.2.2.2.2.2.2.1 x.2.2.2.2.2.2.2.1 x.2.2.2.2.2.2.2.2⟩
noncomputable def T : FnText := ⟨(conv [] (bodyOf Tryz.f122) 0).1, Tryz.f122.results.toList, 60, [], [.ag [.d (.int .i64) none, .d (.int .i64) none, .d (.sl (.pair (.int .i64) (.pair (.int .i64) (.pair (.int .i64) (.pair (.int .i64) (.int .i64)))))) none, .d (.int .i64) none], .ag [.d (.int .i64) none, .d (.int .i64) none, .d (.int .i64) none, .d (.int .i64) none, .d (.int .i64) none]], [.d .bool none]⟩
noncomputable def tbl (k : Nat) : Tbl := [(118, spec_l1In.spec k)]
theorem e (k : Nat) (o : Nat → St → Option (Bool)) (a0_0 a0_1 : Int) (l0_2 : List (Int × Int × Int × Int × Int)) (a0_3 a1_0 a1_1 a1_2 a1_3 a1_4 : Int) : T.main tyt (tbl k) o (a0_0, a0_1, l0_2, a0_3, a1_0, a1_1, a1_2, a1_3, a1_4) = m k a0_0 a0_1 l0_2 a0_3 a1_0 a1_1 a1_2 a1_3 a1_4 := by kernel_rfl
theorem ok : T.ok = true := by kernel_rfl
theorem tblok (k : Nat) : TblOk Tryz.prog (tbl k) := TblOk.cons (spec_l1In.sound k) (TblOk.nil _)
theorem sound (k : Nat) : Sound Tryz.prog 122 (spec k) := by
  have h := fn_ok (F := T) (tbl := tbl) mixed tyok Tryz.func122 (by kernel_rfl) (c0 := bodyOf Tryz.f122) rfl (conv_code _ _ _) rfl rfl ok k (fun j _ => tblok j)
  have e : spec k = ⟨T.ps, T.rs, T.ev tyt tbl k⟩ := congrArg (FnSpec.mk _ _) (funext fun x => ((e k (T.run tyt tbl k) x.1 x.2.1 x.2.2.1 x.2.2.2.1 x.2.2.2.2.1 x.2.2.2.2.2.1 x.2.2.2.2.2.2.1 x.2.2.2.2.2.2.2.1 x.2.2.2.2.2.2.2.2).trans (by rfl)).symm)
  rw [e]
  exact h
end spec_l25Carpet

namespace spec_l25Good
/-! ### spec_l25Good: function 84 -/
def b6 (o14 : Int → Int → (List (Int × Int × Int × Int × Int)) → Int → Int → Int → Option (Bool)) (k : Nat) (x0_6 x1_6 : Int) (l2_6 : List (Int × Int × Int × Int × Int)) (x3_6 x4_6 : Int) : Option (Bool) := (if x4_6 < (l2_6.length : Int) then ((chk l2_6.length x4_6).bind fun i4 => ((spec_l25Carpet.f k x0_6 x1_6 l2_6 x3_6 ((l2_6.getD i4 (0, 0, 0, 0, 0)).1) (((l2_6.getD i4 (0, 0, 0, 0, 0)).2).1) ((((l2_6.getD i4 (0, 0, 0, 0, 0)).2).2).1) (((((l2_6.getD i4 (0, 0, 0, 0, 0)).2).2).2).1) (((((l2_6.getD i4 (0, 0, 0, 0, 0)).2).2).2).2)).bind fun r5 => (cond (!r5) (some false) (o14 x0_6 x1_6 l2_6 x3_6 x4_6 0)))) else (some true))
def b14 (o6 : Int → Int → (List (Int × Int × Int × Int × Int)) → Int → Int → Option (Bool)) (o14 : Int → Int → (List (Int × Int × Int × Int × Int)) → Int → Int → Int → Option (Bool)) (k : Nat) (x0_14 x1_14 : Int) (l2_14 : List (Int × Int × Int × Int × Int)) (x3_14 x4_14 x5_14 : Int) : Option (Bool) := (if x5_14 < x4_14 then ((chk l2_14.length x4_14).bind fun i6 => (if 0 < (((((l2_14.getD i6 (0, 0, 0, 0, 0)).2).2).2).1) then ((chk l2_14.length x5_14).bind fun i7 => ((chk l2_14.length x4_14).bind fun i8 => (if (((((l2_14.getD i7 (0, 0, 0, 0, 0)).2).2).2).1) = (((((l2_14.getD i8 (0, 0, 0, 0, 0)).2).2).2).1) then (some false) else (o14 x0_14 x1_14 l2_14 x3_14 x4_14 (w64 (x5_14 + 1)))))) else (o14 x0_14 x1_14 l2_14 x3_14 x4_14 (w64 (x5_14 + 1))))) else (o6 x0_14 x1_14 l2_14 x3_14 (w64 (x4_14 + 1))))
mutual
def l6 : Nat → Int → Int → (List (Int × Int × Int × Int × Int)) → Int → Int → Option (Bool)
  | 0, _, _, _, _, _ => none
  | k + 1, x0_6, x1_6, l2_6, x3_6, x4_6 => b6 (spec_l25Good.l14 k) k x0_6 x1_6 l2_6 x3_6 x4_6
def l14 : Nat → Int → Int → (List (Int × Int × Int × Int × Int)) → Int → Int → Int → Option (Bool)
  | 0, _, _, _, _, _, _ => none
  | k + 1, x0_14, x1_14, l2_14, x3_14, x4_14, x5_14 => b14 (spec_l25Good.l6 k) (spec_l25Good.l14 k) k x0_14 x1_14 l2_14 x3_14 x4_14 x5_14
end
def m (o6 : Int → Int → (List (Int × Int × Int × Int × Int)) → Int → Int → Option (Bool)) (k : Nat) (a0_0 a0_1 : Int) (l0_2 : List (Int × Int × Int × Int × Int)) (a0_3 : Int) : Option (Bool) := ((spec_l2Day.f k a0_0).bind fun r1 => (cond (!r1) (some false) ((spec_l1In.f k a0_1 1 4).bind fun r2 => (cond (!r2) (some false) ((spec_l1In.f k a0_3 0 1000000).bind fun r3 => (cond (!r3) (some false) (if 8 < (l0_2.length : Int) then (some false) else (o6 a0_0 a0_1 l0_2 a0_3 0))))))))
def f (k : Nat) (a0_0 a0_1 : Int) (l0_2 : List (Int × Int × Int × Int × Int)) (a0_3 : Int) : Option (Bool) := m (spec_l25Good.l6 k) k a0_0 a0_1 l0_2 a0_3
noncomputable def spec (k : Nat) : FnSpec := ⟨[.ag [.d (.int .i64) none, .d (.int .i64) none, .d (.sl (.pair (.int .i64) (.pair (.int .i64) (.pair (.int .i64) (.pair (.int .i64) (.int .i64)))))) none, .d (.int .i64) none]], [.d .bool none], fun x => f k x.1 x.2.1 x.2.2.1 x.2.2.2⟩
def S6 (x0_6 x1_6 : Int) (l2_6 : List (Int × Int × Int × Int × Int)) (x3_6 x4_6 : Int) : St := ⟨[(1, .ptr 100 0), (3, .val (.int .i64) x4_6)], [(100, some (.box [.val (.int .i64) x0_6, .val (.int .i64) x1_6, .val (.sl (.pair (.int .i64) (.pair (.int .i64) (.pair (.int .i64) (.pair (.int .i64) (.int .i64)))))) l2_6, .val (.int .i64) x3_6]))], 1000⟩
def S14 (x0_14 x1_14 : Int) (l2_14 : List (Int × Int × Int × Int × Int)) (x3_14 x4_14 x5_14 : Int) : St := ⟨[(1, .ptr 100 0), (3, .val (.int .i64) x4_14), (4, .val (.int .i64) x5_14)], [(100, some (.box [.val (.int .i64) x0_14, .val (.int .i64) x1_14, .val (.sl (.pair (.int .i64) (.pair (.int .i64) (.pair (.int .i64) (.pair (.int .i64) (.int .i64)))))) l2_14, .val (.int .i64) x3_14]))], 1000⟩
noncomputable def T : FnText := ⟨(conv [] (bodyOf Tryz.f84) 0).1, Tryz.f84.results.toList, 69, [(6, [(1, .bx 100 [.rd (.int .i64), .rd (.int .i64), .rd (.sl (.pair (.int .i64) (.pair (.int .i64) (.pair (.int .i64) (.pair (.int .i64) (.int .i64)))))), .rd (.int .i64)]), (3, .rd (.int .i64))]), (14, [(1, .bx 100 [.rd (.int .i64), .rd (.int .i64), .rd (.sl (.pair (.int .i64) (.pair (.int .i64) (.pair (.int .i64) (.pair (.int .i64) (.int .i64)))))), .rd (.int .i64)]), (3, .rd (.int .i64)), (4, .rd (.int .i64))])], [.ag [.d (.int .i64) none, .d (.int .i64) none, .d (.sl (.pair (.int .i64) (.pair (.int .i64) (.pair (.int .i64) (.pair (.int .i64) (.int .i64)))))) none, .d (.int .i64) none]], [.d .bool none]⟩
noncomputable def tbl (k : Nat) : Tbl := [(121, spec_l2Day.spec k), (118, spec_l1In.spec k), (122, spec_l25Carpet.spec k)]
theorem e6 (k : Nat) (o : Nat → St → Option (Bool)) (x0_6 x1_6 : Int) (l2_6 : List (Int × Int × Int × Int × Int)) (x3_6 x4_6 : Int) : T.step tyt (tbl k) o 6 (S6 x0_6 x1_6 l2_6 x3_6 x4_6) = b6 (fun x0_14 x1_14 l2_14 x3_14 x4_14 x5_14 => o 14 (S14 x0_14 x1_14 l2_14 x3_14 x4_14 x5_14)) k x0_6 x1_6 l2_6 x3_6 x4_6 := by kernel_rfl
theorem e14 (k : Nat) (o : Nat → St → Option (Bool)) (x0_14 x1_14 : Int) (l2_14 : List (Int × Int × Int × Int × Int)) (x3_14 x4_14 x5_14 : Int) : T.step tyt (tbl k) o 14 (S14 x0_14 x1_14 l2_14 x3_14 x4_14 x5_14) = b14 (fun x0_6 x1_6 l2_6 x3_6 x4_6 => o 6 (S6 x0_6 x1_6 l2_6 x3_6 x4_6)) (fun x0_14 x1_14 l2_14 x3_14 x4_14 x5_14 => o 14 (S14 x0_14 x1_14 l2_14 x3_14 x4_14 x5_14)) k x0_14 x1_14 l2_14 x3_14 x4_14 x5_14 := by kernel_rfl
theorem e (k : Nat) (o : Nat → St → Option (Bool)) (a0_0 a0_1 : Int) (l0_2 : List (Int × Int × Int × Int × Int)) (a0_3 : Int) : T.main tyt (tbl k) o (a0_0, a0_1, l0_2, a0_3) = m (fun x0_6 x1_6 l2_6 x3_6 x4_6 => o 6 (S6 x0_6 x1_6 l2_6 x3_6 x4_6)) k a0_0 a0_1 l0_2 a0_3 := by kernel_rfl
theorem ok : T.ok = true := by kernel_rfl
theorem run (k : Nat) : (∀ (x0_6 x1_6 : Int) (l2_6 : List (Int × Int × Int × Int × Int)) (x3_6 x4_6 : Int), T.run tyt tbl k 6 (S6 x0_6 x1_6 l2_6 x3_6 x4_6) = spec_l25Good.l6 k x0_6 x1_6 l2_6 x3_6 x4_6) ∧ (∀ (x0_14 x1_14 : Int) (l2_14 : List (Int × Int × Int × Int × Int)) (x3_14 x4_14 x5_14 : Int), T.run tyt tbl k 14 (S14 x0_14 x1_14 l2_14 x3_14 x4_14 x5_14) = spec_l25Good.l14 k x0_14 x1_14 l2_14 x3_14 x4_14 x5_14) := by
  induction k with
  | zero => exact ⟨fun x0_6 x1_6 l2_6 x3_6 x4_6 => rfl, fun x0_14 x1_14 l2_14 x3_14 x4_14 x5_14 => rfl⟩
  | succ k ih =>
    exact ⟨fun x0_6 x1_6 l2_6 x3_6 x4_6 => by
      have q14 : (fun x0_14 x1_14 l2_14 x3_14 x4_14 x5_14 => T.run tyt tbl k 14 (S14 x0_14 x1_14 l2_14 x3_14 x4_14 x5_14)) = spec_l25Good.l14 k := by funext x0_14 x1_14 l2_14 x3_14 x4_14 x5_14; exact ih.2 x0_14 x1_14 l2_14 x3_14 x4_14 x5_14
      exact (e6 k (T.run tyt tbl k) x0_6 x1_6 l2_6 x3_6 x4_6).trans (by rw [q14]; rfl), fun x0_14 x1_14 l2_14 x3_14 x4_14 x5_14 => by
      have q6 : (fun x0_6 x1_6 l2_6 x3_6 x4_6 => T.run tyt tbl k 6 (S6 x0_6 x1_6 l2_6 x3_6 x4_6)) = spec_l25Good.l6 k := by funext x0_6 x1_6 l2_6 x3_6 x4_6; exact ih.1 x0_6 x1_6 l2_6 x3_6 x4_6
      have q14 : (fun x0_14 x1_14 l2_14 x3_14 x4_14 x5_14 => T.run tyt tbl k 14 (S14 x0_14 x1_14 l2_14 x3_14 x4_14 x5_14)) = spec_l25Good.l14 k := by funext x0_14 x1_14 l2_14 x3_14 x4_14 x5_14; exact ih.2 x0_14 x1_14 l2_14 x3_14 x4_14 x5_14
      exact (e14 k (T.run tyt tbl k) x0_14 x1_14 l2_14 x3_14 x4_14 x5_14).trans (by rw [q6, q14]; rfl)⟩
theorem tblok (k : Nat) : TblOk Tryz.prog (tbl k) := TblOk.cons (spec_l2Day.sound k) (TblOk.cons (spec_l1In.sound k) (TblOk.cons (spec_l25Carpet.sound k) (TblOk.nil _)))
theorem sound (k : Nat) : Sound Tryz.prog 84 (spec k) := by
  have h := fn_ok (F := T) (tbl := tbl) mixed tyok Tryz.func84 (by kernel_rfl) (c0 := bodyOf Tryz.f84) rfl (conv_code _ _ _) rfl rfl ok k (fun j _ => tblok j)
  have q6 : (fun x0_6 x1_6 l2_6 x3_6 x4_6 => T.run tyt tbl k 6 (S6 x0_6 x1_6 l2_6 x3_6 x4_6)) = spec_l25Good.l6 k := by funext x0_6 x1_6 l2_6 x3_6 x4_6; exact (run k).1 x0_6 x1_6 l2_6 x3_6 x4_6
  have e : spec k = ⟨T.ps, T.rs, T.ev tyt tbl k⟩ := congrArg (FnSpec.mk _ _) (funext fun x => ((e k (T.run tyt tbl k) x.1 x.2.1 x.2.2.1 x.2.2.2).trans (by rw [q6]; rfl)).symm)
  rw [e]
  exact h
end spec_l25Good

namespace spec_l25Step
/-! ### spec_l25Step: function 168 -/
def m (k : Nat) (a0_0 a0_1 : Int) (l0_2 : List (Int × Int × Int × Int × Int)) (a0_3 a1_0 a1_1 a1_2 : Int) : Option (Bool) := (if a1_0 = 1 then (if a1_1 = 0 then (some (decide (1 ≤ a1_2))) else (some false)) else (if a1_0 = 2 then (if a1_1 = 0 then ((spec_l1In.f k a1_2 1 500).bind fun r1 => (some r1)) else (some false)) else ((spec_l1In.f k a1_1 0 (w64 ((l0_2.length : Int) - 1))).bind fun r2 => (cond (!r2) (some false) (if a1_0 = 3 then ((spec_l1In.f k a1_2 1 a0_1).bind fun r3 => (some r3)) else (if a1_0 = 4 then ((spec_l1In.f k a1_2 1 20).bind fun r4 => (some r4)) else (if a1_0 = 7 then (some (decide (1 ≤ a1_2))) else (if a1_0 = 5 then (some (decide (a1_2 = 0))) else (if a1_0 = 6 then (some (decide (a1_2 = 0))) else (some false))))))))))
def f (k : Nat) (a0_0 a0_1 : Int) (l0_2 : List (Int × Int × Int × Int × Int)) (a0_3 a1_0 a1_1 a1_2 : Int) : Option (Bool) := m k a0_0 a0_1 l0_2 a0_3 a1_0 a1_1 a1_2
noncomputable def spec (k : Nat) : FnSpec := ⟨[.ag [.d (.int .i64) none, .d (.int .i64) none, .d (.sl (.pair (.int .i64) (.pair (.int .i64) (.pair (.int .i64) (.pair (.int .i64) (.int .i64)))))) none, .d (.int .i64) none], .ag [.d (.int .i64) none, .d (.int .i64) none, .d (.int .i64) none]], [.d .bool none], fun x => f k x.1 x.2.1 x.2.2.1 x.2.2.2.1 x.2.2.2.2.1 x.2.2.2.2.2.1 x.2.2.2.2.2.2⟩
noncomputable def T : FnText := ⟨(conv [] (bodyOf Tryz.f168) 0).1, Tryz.f168.results.toList, 67, [], [.ag [.d (.int .i64) none, .d (.int .i64) none, .d (.sl (.pair (.int .i64) (.pair (.int .i64) (.pair (.int .i64) (.pair (.int .i64) (.int .i64)))))) none, .d (.int .i64) none], .ag [.d (.int .i64) none, .d (.int .i64) none, .d (.int .i64) none]], [.d .bool none]⟩
noncomputable def tbl (k : Nat) : Tbl := [(118, spec_l1In.spec k)]
theorem e (k : Nat) (o : Nat → St → Option (Bool)) (a0_0 a0_1 : Int) (l0_2 : List (Int × Int × Int × Int × Int)) (a0_3 a1_0 a1_1 a1_2 : Int) : T.main tyt (tbl k) o (a0_0, a0_1, l0_2, a0_3, a1_0, a1_1, a1_2) = m k a0_0 a0_1 l0_2 a0_3 a1_0 a1_1 a1_2 := by kernel_rfl
theorem ok : T.ok = true := by kernel_rfl
theorem tblok (k : Nat) : TblOk Tryz.prog (tbl k) := TblOk.cons (spec_l1In.sound k) (TblOk.nil _)
theorem sound (k : Nat) : Sound Tryz.prog 168 (spec k) := by
  have h := fn_ok (F := T) (tbl := tbl) mixed tyok Tryz.func168 (by kernel_rfl) (c0 := bodyOf Tryz.f168) rfl (conv_code _ _ _) rfl rfl ok k (fun j _ => tblok j)
  have e : spec k = ⟨T.ps, T.rs, T.ev tyt tbl k⟩ := congrArg (FnSpec.mk _ _) (funext fun x => ((e k (T.run tyt tbl k) x.1 x.2.1 x.2.2.1 x.2.2.2.1 x.2.2.2.2.1 x.2.2.2.2.2.1 x.2.2.2.2.2.2).trans (by rfl)).symm)
  rw [e]
  exact h
end spec_l25Step

namespace spec_l25Own
/-! ### spec_l25Own: function 83 -/
def m (k : Nat) (a0_0 a0_1 : Int) (l0_2 : List (Int × Int × Int × Int × Int)) (a0_3 : Int) : Option (Int × Int × List (Int × Int × Int × Int × Int) × Int) := ((app 3518437208883 ([] : List (Int × Int × Int × Int × Int)) l0_2).bind fun l1 => (some (a0_0, a0_1, l1, a0_3)))
def f (k : Nat) (a0_0 a0_1 : Int) (l0_2 : List (Int × Int × Int × Int × Int)) (a0_3 : Int) : Option (Int × Int × List (Int × Int × Int × Int × Int) × Int) := m k a0_0 a0_1 l0_2 a0_3
noncomputable def spec (k : Nat) : FnSpec := ⟨[.ag [.d (.int .i64) none, .d (.int .i64) none, .d (.sl (.pair (.int .i64) (.pair (.int .i64) (.pair (.int .i64) (.pair (.int .i64) (.int .i64)))))) none, .d (.int .i64) none]], [.ag [.d (.int .i64) none, .d (.int .i64) none, .d (.sl (.pair (.int .i64) (.pair (.int .i64) (.pair (.int .i64) (.pair (.int .i64) (.int .i64)))))) (some 108), .d (.int .i64) none]], fun x => f k x.1 x.2.1 x.2.2.1 x.2.2.2⟩
noncomputable def T : FnText := ⟨(conv [] (bodyOf Tryz.f83) 0).1, Tryz.f83.results.toList, 14, [], [.ag [.d (.int .i64) none, .d (.int .i64) none, .d (.sl (.pair (.int .i64) (.pair (.int .i64) (.pair (.int .i64) (.pair (.int .i64) (.int .i64)))))) none, .d (.int .i64) none]], [.ag [.d (.int .i64) none, .d (.int .i64) none, .d (.sl (.pair (.int .i64) (.pair (.int .i64) (.pair (.int .i64) (.pair (.int .i64) (.int .i64)))))) (some 108), .d (.int .i64) none]]⟩
noncomputable def tbl (k : Nat) : Tbl := []
theorem e (k : Nat) (o : Nat → St → Option (Int × Int × List (Int × Int × Int × Int × Int) × Int)) (a0_0 a0_1 : Int) (l0_2 : List (Int × Int × Int × Int × Int)) (a0_3 : Int) : T.main tyt (tbl k) o (a0_0, a0_1, l0_2, a0_3) = m k a0_0 a0_1 l0_2 a0_3 := by kernel_rfl
theorem ok : T.ok = true := by kernel_rfl
theorem tblok (k : Nat) : TblOk Tryz.prog (tbl k) := TblOk.nil _
theorem sound (k : Nat) : Sound Tryz.prog 83 (spec k) := by
  have h := fn_ok (F := T) (tbl := tbl) mixed tyok Tryz.func83 (by kernel_rfl) (c0 := bodyOf Tryz.f83) rfl (conv_code _ _ _) rfl rfl ok k (fun j _ => tblok j)
  have e : spec k = ⟨T.ps, T.rs, T.ev tyt tbl k⟩ := congrArg (FnSpec.mk _ _) (funext fun x => ((e k (T.run tyt tbl k) x.1 x.2.1 x.2.2.1 x.2.2.2).trans (by rfl)).symm)
  rw [e]
  exact h
end spec_l25Own

namespace spec_l25Change
/-! ### spec_l25Change: function 185 -/
def m (k : Nat) (a0_0 a0_1 a0_2 a0_3 a0_4 a1_0 a1_1 a1_2 a2 : Int) : Option (Int × Int × Int × Int × Int × Bool) := (if a1_0 = 3 then (some (a0_0, a0_1, 1, a1_2, a2, (decide (a0_2 = 0)))) else (if a1_0 = 4 then (if a0_2 = 1 then (some (a0_0, (w64 (a0_1 + a1_2)), a0_2, a0_3, a2, (decide (1 ≤ (w64 (a2 - a0_4)))))) else (some (a0_0, (w64 (a0_1 + a1_2)), a0_2, a0_3, a2, false))) else (if a1_0 = 5 then (some (a0_0, a0_1, 2, 0, a2, (decide (a0_2 = 1)))) else (if a1_0 = 6 then (some (a0_0, a0_1, 3, a0_3, a2, (decide (a0_2 = 2)))) else (if a0_2 = 3 then (some (a0_0, a0_1, 4, a0_3, a2, (decide (3 ≤ (w64 (a2 - a0_4)))))) else (some (a0_0, a0_1, 4, a0_3, a2, false)))))))
def f (k : Nat) (a0_0 a0_1 a0_2 a0_3 a0_4 a1_0 a1_1 a1_2 a2 : Int) : Option (Int × Int × Int × Int × Int × Bool) := m k a0_0 a0_1 a0_2 a0_3 a0_4 a1_0 a1_1 a1_2 a2
noncomputable def spec (k : Nat) : FnSpec := ⟨[.ag [.d (.int .i64) none, .d (.int .i64) none, .d (.int .i64) none, .d (.int .i64) none, .d (.int .i64) none], .ag [.d (.int .i64) none, .d (.int .i64) none, .d (.int .i64) none], .d (.int .i64) none], [.ag [.d (.int .i64) none, .d (.int .i64) none, .d (.int .i64) none, .d (.int .i64) none, .d (.int .i64) none], .d .bool none], fun x => f k x.1 x.2.1 x.2.2.1 x.2.2.2.1 x.2.2.2.2.1 x.2.2.2.2.2.1 x.2.2.2.2.2.2.1 x.2.2.2.2.2.2.2.1 x.2.2.2.2.2.2.2.2⟩
noncomputable def T : FnText := ⟨(conv [] (bodyOf Tryz.f185) 0).1, Tryz.f185.results.toList, 68, [], [.ag [.d (.int .i64) none, .d (.int .i64) none, .d (.int .i64) none, .d (.int .i64) none, .d (.int .i64) none], .ag [.d (.int .i64) none, .d (.int .i64) none, .d (.int .i64) none], .d (.int .i64) none], [.ag [.d (.int .i64) none, .d (.int .i64) none, .d (.int .i64) none, .d (.int .i64) none, .d (.int .i64) none], .d .bool none]⟩
noncomputable def tbl (k : Nat) : Tbl := []
theorem e (k : Nat) (o : Nat → St → Option (Int × Int × Int × Int × Int × Bool)) (a0_0 a0_1 a0_2 a0_3 a0_4 a1_0 a1_1 a1_2 a2 : Int) : T.main tyt (tbl k) o (a0_0, a0_1, a0_2, a0_3, a0_4, a1_0, a1_1, a1_2, a2) = m k a0_0 a0_1 a0_2 a0_3 a0_4 a1_0 a1_1 a1_2 a2 := by kernel_rfl
theorem ok : T.ok = true := by kernel_rfl
theorem tblok (k : Nat) : TblOk Tryz.prog (tbl k) := TblOk.nil _
theorem sound (k : Nat) : Sound Tryz.prog 185 (spec k) := by
  have h := fn_ok (F := T) (tbl := tbl) mixed tyok Tryz.func185 (by kernel_rfl) (c0 := bodyOf Tryz.f185) rfl (conv_code _ _ _) rfl rfl ok k (fun j _ => tblok j)
  have e : spec k = ⟨T.ps, T.rs, T.ev tyt tbl k⟩ := congrArg (FnSpec.mk _ _) (funext fun x => ((e k (T.run tyt tbl k) x.1 x.2.1 x.2.2.1 x.2.2.2.1 x.2.2.2.2.1 x.2.2.2.2.2.1 x.2.2.2.2.2.2.1 x.2.2.2.2.2.2.2.1 x.2.2.2.2.2.2.2.2).trans (by rfl)).symm)
  rw [e]
  exact h
end spec_l25Change

namespace spec_l25Make
/-! ### spec_l25Make: function 169 -/
def b2 (k : Nat) (x0_2 x1_2 : Int) (l2_2 : List (Int × Int × Int × Int × Int)) (x3_2 x4_2 x5_2 x6_2 x7_2 x8_2 : Int) (l9_2 : List (Int × Int × Int × Int × Int)) (x10_2 x11_2 x12_2 : Int) (l13_2 : List (Int × Int × Int × Int × Int)) (x14_2 : Int) : Option (Int × Int × List (Int × Int × Int × Int × Int) × Int × Bool) := ((chk l2_2.length x5_2).bind fun i4 => ((spec_l25Change.f k ((l2_2.getD i4 (0, 0, 0, 0, 0)).1) (((l2_2.getD i4 (0, 0, 0, 0, 0)).2).1) ((((l2_2.getD i4 (0, 0, 0, 0, 0)).2).2).1) (((((l2_2.getD i4 (0, 0, 0, 0, 0)).2).2).2).1) (((((l2_2.getD i4 (0, 0, 0, 0, 0)).2).2).2).2) x4_2 x5_2 x6_2 x0_2).bind fun r5 => ((chk l13_2.length x5_2).bind fun i6 => (cond r5.2.2.2.2.2 ((spec_l25Good.f k x11_2 x12_2 (upd l13_2 i6 (0, 0, 0, 0, 0) fun e7 => (r5.1, r5.2.1, r5.2.2.1, r5.2.2.2.1, r5.2.2.2.2.1)) x14_2).bind fun r8 => (some (x11_2, x12_2, (upd l13_2 i6 (0, 0, 0, 0, 0) fun e7 => (r5.1, r5.2.1, r5.2.2.1, r5.2.2.2.1, r5.2.2.2.2.1)), x14_2, r8))) (some (x11_2, x12_2, (upd l13_2 i6 (0, 0, 0, 0, 0) fun e7 => (r5.1, r5.2.1, r5.2.2.1, r5.2.2.2.1, r5.2.2.2.2.1)), x14_2, false))))))
def l2 : Nat → Int → Int → (List (Int × Int × Int × Int × Int)) → Int → Int → Int → Int → Int → Int → (List (Int × Int × Int × Int × Int)) → Int → Int → Int → (List (Int × Int × Int × Int × Int)) → Int → Option (Int × Int × List (Int × Int × Int × Int × Int) × Int × Bool)
  | 0, _, _, _, _, _, _, _, _, _, _, _, _, _, _, _ => none
  | k + 1, x0_2, x1_2, l2_2, x3_2, x4_2, x5_2, x6_2, x7_2, x8_2, l9_2, x10_2, x11_2, x12_2, l13_2, x14_2 => b2 k x0_2 x1_2 l2_2 x3_2 x4_2 x5_2 x6_2 x7_2 x8_2 l9_2 x10_2 x11_2 x12_2 l13_2 x14_2
def m (o2 : Int → Int → (List (Int × Int × Int × Int × Int)) → Int → Int → Int → Int → Int → Int → (List (Int × Int × Int × Int × Int)) → Int → Int → Int → (List (Int × Int × Int × Int × Int)) → Int → Option (Int × Int × List (Int × Int × Int × Int × Int) × Int × Bool)) (k : Nat) (a0_0 a0_1 : Int) (l0_2 : List (Int × Int × Int × Int × Int)) (a0_3 a1_0 a1_1 a1_2 : Int) : Option (Int × Int × List (Int × Int × Int × Int × Int) × Int × Bool) := ((spec_l25Own.f k a0_0 a0_1 l0_2 a0_3).bind fun r1 => (if a1_0 = 1 then (if (w64 (4000 - a0_0)) < a1_2 then (some (r1.1, r1.2.1, r1.2.2.1, r1.2.2.2, false)) else (some ((w64 (a0_0 + a1_2)), r1.2.1, r1.2.2.1, r1.2.2.2, true))) else (if a1_0 = 2 then ((app 3518437208883 r1.2.2.1 [(a1_2, 0, 0, 0, a0_0)]).bind fun l2 => ((spec_l25Good.f k r1.1 r1.2.1 l2 r1.2.2.2).bind fun r3 => (some (r1.1, r1.2.1, l2, r1.2.2.2, r3)))) else (if a1_0 = 7 then (if (w64 (1000000 - a0_3)) < a1_2 then (some (r1.1, r1.2.1, r1.2.2.1, r1.2.2.2, false)) else (o2 a0_0 a0_1 l0_2 a0_3 a1_0 a1_1 a1_2 0 0 [] 0 r1.1 r1.2.1 r1.2.2.1 (w64 (a0_3 + a1_2)))) else (o2 a0_0 a0_1 l0_2 a0_3 a1_0 a1_1 a1_2 0 0 [] 0 r1.1 r1.2.1 r1.2.2.1 r1.2.2.2)))))
def f (k : Nat) (a0_0 a0_1 : Int) (l0_2 : List (Int × Int × Int × Int × Int)) (a0_3 a1_0 a1_1 a1_2 : Int) : Option (Int × Int × List (Int × Int × Int × Int × Int) × Int × Bool) := m (spec_l25Make.l2 k) k a0_0 a0_1 l0_2 a0_3 a1_0 a1_1 a1_2
noncomputable def spec (k : Nat) : FnSpec := ⟨[.ag [.d (.int .i64) none, .d (.int .i64) none, .d (.sl (.pair (.int .i64) (.pair (.int .i64) (.pair (.int .i64) (.pair (.int .i64) (.int .i64)))))) none, .d (.int .i64) none], .ag [.d (.int .i64) none, .d (.int .i64) none, .d (.int .i64) none]], [.ag [.d (.int .i64) none, .d (.int .i64) none, .d (.sl (.pair (.int .i64) (.pair (.int .i64) (.pair (.int .i64) (.pair (.int .i64) (.int .i64)))))) (some 108), .d (.int .i64) none], .d .bool none], fun x => f k x.1 x.2.1 x.2.2.1 x.2.2.2.1 x.2.2.2.2.1 x.2.2.2.2.2.1 x.2.2.2.2.2.2⟩
def S2 (x0_2 x1_2 : Int) (l2_2 : List (Int × Int × Int × Int × Int)) (x3_2 x4_2 x5_2 x6_2 x7_2 x8_2 : Int) (l9_2 : List (Int × Int × Int × Int × Int)) (x10_2 x11_2 x12_2 : Int) (l13_2 : List (Int × Int × Int × Int × Int)) (x14_2 : Int) : St := ⟨[(2, .ptr 100 0), (3, .ptr 101 0), (4, .ptr 102 0), (6, .ptr 103 0)], [(103, some (.box [.val (.int .i64) x11_2, .val (.int .i64) x12_2, .ref 104, .val (.int .i64) x14_2])), (104, some (.row 108 (.pair (.int .i64) (.pair (.int .i64) (.pair (.int .i64) (.pair (.int .i64) (.int .i64))))) l13_2)), (102, some (.box [.val (.int .i64) x7_2, .val (.int .i64) x8_2, .val (.sl (.pair (.int .i64) (.pair (.int .i64) (.pair (.int .i64) (.pair (.int .i64) (.int .i64)))))) l9_2, .val (.int .i64) x10_2])), (101, some (.box [.val (.int .i64) x4_2, .val (.int .i64) x5_2, .val (.int .i64) x6_2])), (100, some (.box [.val (.int .i64) x0_2, .val (.int .i64) x1_2, .val (.sl (.pair (.int .i64) (.pair (.int .i64) (.pair (.int .i64) (.pair (.int .i64) (.int .i64)))))) l2_2, .val (.int .i64) x3_2]))], 1000⟩
noncomputable def T : FnText := ⟨(conv [2] (bodyOf Tryz.f169) 0).1, Tryz.f169.results.toList, 84, [(2, [(2, .bx 100 [.rd (.int .i64), .rd (.int .i64), .rd (.sl (.pair (.int .i64) (.pair (.int .i64) (.pair (.int .i64) (.pair (.int .i64) (.int .i64)))))), .rd (.int .i64)]), (3, .bx 101 [.rd (.int .i64), .rd (.int .i64), .rd (.int .i64)]), (4, .bx 102 [.rd (.int .i64), .rd (.int .i64), .rd (.sl (.pair (.int .i64) (.pair (.int .i64) (.pair (.int .i64) (.pair (.int .i64) (.int .i64)))))), .rd (.int .i64)]), (6, .bx 103 [.rd (.int .i64), .rd (.int .i64), .own 108 (.pair (.int .i64) (.pair (.int .i64) (.pair (.int .i64) (.pair (.int .i64) (.int .i64))))) 104, .rd (.int .i64)])])], [.ag [.d (.int .i64) none, .d (.int .i64) none, .d (.sl (.pair (.int .i64) (.pair (.int .i64) (.pair (.int .i64) (.pair (.int .i64) (.int .i64)))))) none, .d (.int .i64) none], .ag [.d (.int .i64) none, .d (.int .i64) none, .d (.int .i64) none]], [.ag [.d (.int .i64) none, .d (.int .i64) none, .d (.sl (.pair (.int .i64) (.pair (.int .i64) (.pair (.int .i64) (.pair (.int .i64) (.int .i64)))))) (some 108), .d (.int .i64) none], .d .bool none]⟩
noncomputable def tbl (k : Nat) : Tbl := [(83, spec_l25Own.spec k), (84, spec_l25Good.spec k), (185, spec_l25Change.spec k)]
theorem e2 (k : Nat) (o : Nat → St → Option (Int × Int × List (Int × Int × Int × Int × Int) × Int × Bool)) (x0_2 x1_2 : Int) (l2_2 : List (Int × Int × Int × Int × Int)) (x3_2 x4_2 x5_2 x6_2 x7_2 x8_2 : Int) (l9_2 : List (Int × Int × Int × Int × Int)) (x10_2 x11_2 x12_2 : Int) (l13_2 : List (Int × Int × Int × Int × Int)) (x14_2 : Int) : T.step tyt (tbl k) o 2 (S2 x0_2 x1_2 l2_2 x3_2 x4_2 x5_2 x6_2 x7_2 x8_2 l9_2 x10_2 x11_2 x12_2 l13_2 x14_2) = b2 k x0_2 x1_2 l2_2 x3_2 x4_2 x5_2 x6_2 x7_2 x8_2 l9_2 x10_2 x11_2 x12_2 l13_2 x14_2 := by kernel_rfl
theorem e (k : Nat) (o : Nat → St → Option (Int × Int × List (Int × Int × Int × Int × Int) × Int × Bool)) (a0_0 a0_1 : Int) (l0_2 : List (Int × Int × Int × Int × Int)) (a0_3 a1_0 a1_1 a1_2 : Int) : T.main tyt (tbl k) o (a0_0, a0_1, l0_2, a0_3, a1_0, a1_1, a1_2) = m (fun x0_2 x1_2 l2_2 x3_2 x4_2 x5_2 x6_2 x7_2 x8_2 l9_2 x10_2 x11_2 x12_2 l13_2 x14_2 => o 2 (S2 x0_2 x1_2 l2_2 x3_2 x4_2 x5_2 x6_2 x7_2 x8_2 l9_2 x10_2 x11_2 x12_2 l13_2 x14_2)) k a0_0 a0_1 l0_2 a0_3 a1_0 a1_1 a1_2 := by kernel_rfl
theorem ok : T.ok = true := by kernel_rfl
theorem run (k : Nat) : (∀ (x0_2 x1_2 : Int) (l2_2 : List (Int × Int × Int × Int × Int)) (x3_2 x4_2 x5_2 x6_2 x7_2 x8_2 : Int) (l9_2 : List (Int × Int × Int × Int × Int)) (x10_2 x11_2 x12_2 : Int) (l13_2 : List (Int × Int × Int × Int × Int)) (x14_2 : Int), T.run tyt tbl k 2 (S2 x0_2 x1_2 l2_2 x3_2 x4_2 x5_2 x6_2 x7_2 x8_2 l9_2 x10_2 x11_2 x12_2 l13_2 x14_2) = spec_l25Make.l2 k x0_2 x1_2 l2_2 x3_2 x4_2 x5_2 x6_2 x7_2 x8_2 l9_2 x10_2 x11_2 x12_2 l13_2 x14_2) := by
  induction k with
  | zero => exact fun x0_2 x1_2 l2_2 x3_2 x4_2 x5_2 x6_2 x7_2 x8_2 l9_2 x10_2 x11_2 x12_2 l13_2 x14_2 => rfl
  | succ k ih =>
    exact fun x0_2 x1_2 l2_2 x3_2 x4_2 x5_2 x6_2 x7_2 x8_2 l9_2 x10_2 x11_2 x12_2 l13_2 x14_2 => by
      exact (e2 k (T.run tyt tbl k) x0_2 x1_2 l2_2 x3_2 x4_2 x5_2 x6_2 x7_2 x8_2 l9_2 x10_2 x11_2 x12_2 l13_2 x14_2).trans (by rfl)
theorem tblok (k : Nat) : TblOk Tryz.prog (tbl k) := TblOk.cons (spec_l25Own.sound k) (TblOk.cons (spec_l25Good.sound k) (TblOk.cons (spec_l25Change.sound k) (TblOk.nil _)))
theorem sound (k : Nat) : Sound Tryz.prog 169 (spec k) := by
  have h := fn_ok (F := T) (tbl := tbl) mixed tyok Tryz.func169 (by kernel_rfl) (c0 := bodyOf Tryz.f169) rfl (conv_code _ _ _) rfl rfl ok k (fun j _ => tblok j)
  have q2 : (fun x0_2 x1_2 l2_2 x3_2 x4_2 x5_2 x6_2 x7_2 x8_2 l9_2 x10_2 x11_2 x12_2 l13_2 x14_2 => T.run tyt tbl k 2 (S2 x0_2 x1_2 l2_2 x3_2 x4_2 x5_2 x6_2 x7_2 x8_2 l9_2 x10_2 x11_2 x12_2 l13_2 x14_2)) = spec_l25Make.l2 k := by funext x0_2 x1_2 l2_2 x3_2 x4_2 x5_2 x6_2 x7_2 x8_2 l9_2 x10_2 x11_2 x12_2 l13_2 x14_2; exact (run k) x0_2 x1_2 l2_2 x3_2 x4_2 x5_2 x6_2 x7_2 x8_2 l9_2 x10_2 x11_2 x12_2 l13_2 x14_2
  have e : spec k = ⟨T.ps, T.rs, T.ev tyt tbl k⟩ := congrArg (FnSpec.mk _ _) (funext fun x => ((e k (T.run tyt tbl k) x.1 x.2.1 x.2.2.1 x.2.2.2.1 x.2.2.2.2.1 x.2.2.2.2.2.1 x.2.2.2.2.2.2).trans (by rw [q2]; rfl)).symm)
  rw [e]
  exact h
end spec_l25Make

namespace spec_StepShop
/-! ### spec_StepShop: function 148 -/
def m (k : Nat) (a0_0 a0_1 : Int) (l0_2 : List (Int × Int × Int × Int × Int)) (a0_3 a1_0 a1_1 a1_2 : Int) : Option (Int × Int × List (Int × Int × Int × Int × Int) × Int × Bool) := ((spec_l25Good.f k a0_0 a0_1 l0_2 a0_3).bind fun r1 => (cond (!r1) (some (0, 0, [], 0, false)) ((spec_l25Step.f k a0_0 a0_1 l0_2 a0_3 a1_0 a1_1 a1_2).bind fun r2 => (cond (!r2) (some (0, 0, [], 0, false)) ((spec_l25Make.f k a0_0 a0_1 l0_2 a0_3 a1_0 a1_1 a1_2).bind fun r3 => (cond (!r3.2.2.2.2) (some (0, 0, [], 0, false)) (some (r3.1, r3.2.1, r3.2.2.1, r3.2.2.2.1, true))))))))
def f (k : Nat) (a0_0 a0_1 : Int) (l0_2 : List (Int × Int × Int × Int × Int)) (a0_3 a1_0 a1_1 a1_2 : Int) : Option (Int × Int × List (Int × Int × Int × Int × Int) × Int × Bool) := m k a0_0 a0_1 l0_2 a0_3 a1_0 a1_1 a1_2
noncomputable def spec (k : Nat) : FnSpec := ⟨[.ag [.d (.int .i64) none, .d (.int .i64) none, .d (.sl (.pair (.int .i64) (.pair (.int .i64) (.pair (.int .i64) (.pair (.int .i64) (.int .i64)))))) none, .d (.int .i64) none], .ag [.d (.int .i64) none, .d (.int .i64) none, .d (.int .i64) none]], [.ag [.d (.int .i64) none, .d (.int .i64) none, .d (.sl (.pair (.int .i64) (.pair (.int .i64) (.pair (.int .i64) (.pair (.int .i64) (.int .i64)))))) (some 108), .d (.int .i64) none], .d .bool none], fun x => f k x.1 x.2.1 x.2.2.1 x.2.2.2.1 x.2.2.2.2.1 x.2.2.2.2.2.1 x.2.2.2.2.2.2⟩
noncomputable def T : FnText := ⟨(conv [] (bodyOf Tryz.f148) 0).1, Tryz.f148.results.toList, 28, [], [.ag [.d (.int .i64) none, .d (.int .i64) none, .d (.sl (.pair (.int .i64) (.pair (.int .i64) (.pair (.int .i64) (.pair (.int .i64) (.int .i64)))))) none, .d (.int .i64) none], .ag [.d (.int .i64) none, .d (.int .i64) none, .d (.int .i64) none]], [.ag [.d (.int .i64) none, .d (.int .i64) none, .d (.sl (.pair (.int .i64) (.pair (.int .i64) (.pair (.int .i64) (.pair (.int .i64) (.int .i64)))))) (some 108), .d (.int .i64) none], .d .bool none]⟩
noncomputable def tbl (k : Nat) : Tbl := [(84, spec_l25Good.spec k), (168, spec_l25Step.spec k), (169, spec_l25Make.spec k)]
theorem e (k : Nat) (o : Nat → St → Option (Int × Int × List (Int × Int × Int × Int × Int) × Int × Bool)) (a0_0 a0_1 : Int) (l0_2 : List (Int × Int × Int × Int × Int)) (a0_3 a1_0 a1_1 a1_2 : Int) : T.main tyt (tbl k) o (a0_0, a0_1, l0_2, a0_3, a1_0, a1_1, a1_2) = m k a0_0 a0_1 l0_2 a0_3 a1_0 a1_1 a1_2 := by kernel_rfl
theorem ok : T.ok = true := by kernel_rfl
theorem tblok (k : Nat) : TblOk Tryz.prog (tbl k) := TblOk.cons (spec_l25Good.sound k) (TblOk.cons (spec_l25Step.sound k) (TblOk.cons (spec_l25Make.sound k) (TblOk.nil _)))
theorem sound (k : Nat) : Sound Tryz.prog 148 (spec k) := by
  have h := fn_ok (F := T) (tbl := tbl) mixed tyok Tryz.func148 (by kernel_rfl) (c0 := bodyOf Tryz.f148) rfl (conv_code _ _ _) rfl rfl ok k (fun j _ => tblok j)
  have e : spec k = ⟨T.ps, T.rs, T.ev tyt tbl k⟩ := congrArg (FnSpec.mk _ _) (funext fun x => ((e k (T.run tyt tbl k) x.1 x.2.1 x.2.2.1 x.2.2.2.1 x.2.2.2.2.1 x.2.2.2.2.2.1 x.2.2.2.2.2.2).trans (by rfl)).symm)
  rw [e]
  exact h
end spec_StepShop

namespace spec_l1Cur_shop
/-! ### spec_l1Cur_shop: function 105 -/
def b4 (o4 : List Int → Int → Int → Int → Int → (List (Int × Int × Int × Int × Int)) → Int → Int → Int → (List (Int × Int × Int × Int × Int)) → Int → Int → Option (Int × Int × List (Int × Int × Int × Int × Int) × Int × List Int × Int × Int)) (k : Nat) (l0_4 : List Int) (x1_4 x2_4 x3_4 x4_4 : Int) (l5_4 : List (Int × Int × Int × Int × Int)) (x6_4 x7_4 x8_4 : Int) (l9_4 : List (Int × Int × Int × Int × Int)) (x10_4 x11_4 : Int) : Option (Int × Int × List (Int × Int × Int × Int × Int) × Int × List Int × Int × Int) := (if 0 < x11_4 then ((spec_l1Cur_shopStep_2.f k l0_4 x1_4 x2_4 x7_4 x8_4 l9_4 x10_4).bind fun r4 => ((spec_StepShop.f k x7_4 x8_4 r4.2.2.2.2.2.2 x10_4 r4.1 r4.2.1 r4.2.2.1).bind fun r5 => (cond r5.2.2.2.2 (o4 r4.2.2.2.1 r4.2.2.2.2.1 r4.2.2.2.2.2.1 x3_4 x4_4 l5_4 x6_4 r5.1 r5.2.1 r5.2.2.1 r5.2.2.2.1 (w64 (x11_4 - 1))) (o4 r4.2.2.2.1 r4.2.2.2.2.1 r4.2.2.2.2.2.1 x3_4 x4_4 l5_4 x6_4 x7_4 x8_4 r4.2.2.2.2.2.2 x10_4 (w64 (x11_4 - 1)))))) else ((spec_l1Cur_pick.f k l0_4 x1_4 x2_4 32).bind fun r6 => (if r6.1 = 0 then ((spec_l1Cur_among_2.f k r6.2.1 r6.2.2.1 r6.2.2.2 [(-1), 0, 4001]).bind fun r7 => (some (r7.1, x8_4, l9_4, x10_4, r7.2.1, r7.2.2.1, r7.2.2.2.1))) else (if r6.1 = 1 then ((spec_l1Cur_among_2.f k r6.2.1 r6.2.2.1 r6.2.2.2 [0, 1, 5]).bind fun r8 => (some (x7_4, r8.1, l9_4, x10_4, r8.2.1, r8.2.2.1, r8.2.2.2.1))) else (if r6.1 = 2 then ((spec_l1Cur_among_2.f k r6.2.1 r6.2.2.1 r6.2.2.2 [0, 5, 501]).bind fun r9 => ((spec_l1Cur_among_2.f k r9.2.1 r9.2.2.1 r9.2.2.2.1 [0, 5]).bind fun r10 => ((spec_l1Cur_among_2.f k r10.2.1 r10.2.2.1 r10.2.2.2.1 [(-1), 0, 1, 3, 5]).bind fun r11 => ((spec_l1Cur_among_2.f k r11.2.1 r11.2.2.1 r11.2.2.2.1 [0, 1]).bind fun r12 => ((app 3518437208883 l9_4 [(r9.1, r10.1, r11.1, r12.1, 0)]).bind fun l13 => (some (x7_4, x8_4, l13, x10_4, r12.2.1, r12.2.2.1, r12.2.2.2.1))))))) else (if r6.1 = 3 then ((spec_l1Cur_among_2.f k r6.2.1 r6.2.2.1 r6.2.2.2 [(-1), 1000001]).bind fun r14 => (some (x7_4, x8_4, l9_4, r14.1, r14.2.1, r14.2.2.1, r14.2.2.2.1))) else (some (x7_4, x8_4, l9_4, x10_4, r6.2.1, r6.2.2.1, r6.2.2.2))))))))
def l4 : Nat → List Int → Int → Int → Int → Int → (List (Int × Int × Int × Int × Int)) → Int → Int → Int → (List (Int × Int × Int × Int × Int)) → Int → Int → Option (Int × Int × List (Int × Int × Int × Int × Int) × Int × List Int × Int × Int)
  | 0, _, _, _, _, _, _, _, _, _, _, _, _ => none
  | k + 1, l0_4, x1_4, x2_4, x3_4, x4_4, l5_4, x6_4, x7_4, x8_4, l9_4, x10_4, x11_4 => b4 (spec_l1Cur_shop.l4 k) k l0_4 x1_4 x2_4 x3_4 x4_4 l5_4 x6_4 x7_4 x8_4 l9_4 x10_4 x11_4
def m (o4 : List Int → Int → Int → Int → Int → (List (Int × Int × Int × Int × Int)) → Int → Int → Int → (List (Int × Int × Int × Int × Int)) → Int → Int → Option (Int × Int × List (Int × Int × Int × Int × Int) × Int × List Int × Int × Int)) (k : Nat) (l0_0 : List Int) (a0_1 a0_2 : Int) : Option (Int × Int × List (Int × Int × Int × Int × Int) × Int × List Int × Int × Int) := ((spec_l1Cur_among_2.f k l0_0 a0_1 a0_2 [1, 2, 2, 4]).bind fun r1 => ((spec_NewShop.f k r1.1).bind fun r2 => ((spec_l1Cur_pick.f k r1.2.1 r1.2.2.1 r1.2.2.2.1 32).bind fun r3 => (o4 r3.2.1 r3.2.2.1 r3.2.2.2 0 0 [] 0 r2.1 r2.2.1 r2.2.2.1 r2.2.2.2.1 r3.1))))
def f (k : Nat) (l0_0 : List Int) (a0_1 a0_2 : Int) : Option (Int × Int × List (Int × Int × Int × Int × Int) × Int × List Int × Int × Int) := m (spec_l1Cur_shop.l4 k) k l0_0 a0_1 a0_2
noncomputable def spec (k : Nat) : FnSpec := ⟨[.bx [.d (.sl (.int .u8)) none, .d (.int .i64) none, .d (.int .u64) none]], [.ag [.d (.int .i64) none, .d (.int .i64) none, .d (.sl (.pair (.int .i64) (.pair (.int .i64) (.pair (.int .i64) (.pair (.int .i64) (.int .i64)))))) (some 108), .d (.int .i64) none]], fun x => f k x.1 x.2.1 x.2.2⟩
def S4 (l0_4 : List Int) (x1_4 x2_4 x3_4 x4_4 : Int) (l5_4 : List (Int × Int × Int × Int × Int)) (x6_4 x7_4 x8_4 : Int) (l9_4 : List (Int × Int × Int × Int × Int)) (x10_4 x11_4 : Int) : St := ⟨[(0, .ptr 0 0), (2, .ptr 100 0), (3, .ptr 101 0), (5, .val (.int .i64) x11_4)], [(101, some (.box [.val (.int .i64) x7_4, .val (.int .i64) x8_4, .ref 102, .val (.int .i64) x10_4])), (102, some (.row 108 (.pair (.int .i64) (.pair (.int .i64) (.pair (.int .i64) (.pair (.int .i64) (.int .i64))))) l9_4)), (100, some (.box [.val (.int .i64) x3_4, .val (.int .i64) x4_4, .val (.sl (.pair (.int .i64) (.pair (.int .i64) (.pair (.int .i64) (.pair (.int .i64) (.int .i64)))))) l5_4, .val (.int .i64) x6_4])), (0, some (.box [.val (.sl (.int .u8)) l0_4, .val (.int .i64) x1_4, .val (.int .u64) x2_4]))], 1000⟩
noncomputable def T : FnText := ⟨(conv [] (bodyOf Tryz.f105) 0).1, Tryz.f105.results.toList, 72, [(4, [(0, .bx 0 [.rd (.sl (.int .u8)), .rd (.int .i64), .rd (.int .u64)]), (2, .bx 100 [.rd (.int .i64), .rd (.int .i64), .rd (.sl (.pair (.int .i64) (.pair (.int .i64) (.pair (.int .i64) (.pair (.int .i64) (.int .i64)))))), .rd (.int .i64)]), (3, .bx 101 [.rd (.int .i64), .rd (.int .i64), .own 108 (.pair (.int .i64) (.pair (.int .i64) (.pair (.int .i64) (.pair (.int .i64) (.int .i64))))) 102, .rd (.int .i64)]), (5, .rd (.int .i64))])], [.bx [.d (.sl (.int .u8)) none, .d (.int .i64) none, .d (.int .u64) none]], [.ag [.d (.int .i64) none, .d (.int .i64) none, .d (.sl (.pair (.int .i64) (.pair (.int .i64) (.pair (.int .i64) (.pair (.int .i64) (.int .i64)))))) (some 108), .d (.int .i64) none]]⟩
noncomputable def tbl (k : Nat) : Tbl := [(75, spec_l1Cur_among_2.spec k), (78, spec_NewShop.spec k), (59, spec_l1Cur_pick.spec k), (108, spec_l1Cur_shopStep_2.spec k), (148, spec_StepShop.spec k)]
theorem e4 (k : Nat) (o : Nat → St → Option (Int × Int × List (Int × Int × Int × Int × Int) × Int × List Int × Int × Int)) (l0_4 : List Int) (x1_4 x2_4 x3_4 x4_4 : Int) (l5_4 : List (Int × Int × Int × Int × Int)) (x6_4 x7_4 x8_4 : Int) (l9_4 : List (Int × Int × Int × Int × Int)) (x10_4 x11_4 : Int) : T.step tyt (tbl k) o 4 (S4 l0_4 x1_4 x2_4 x3_4 x4_4 l5_4 x6_4 x7_4 x8_4 l9_4 x10_4 x11_4) = b4 (fun l0_4 x1_4 x2_4 x3_4 x4_4 l5_4 x6_4 x7_4 x8_4 l9_4 x10_4 x11_4 => o 4 (S4 l0_4 x1_4 x2_4 x3_4 x4_4 l5_4 x6_4 x7_4 x8_4 l9_4 x10_4 x11_4)) k l0_4 x1_4 x2_4 x3_4 x4_4 l5_4 x6_4 x7_4 x8_4 l9_4 x10_4 x11_4 := by kernel_rfl
theorem e (k : Nat) (o : Nat → St → Option (Int × Int × List (Int × Int × Int × Int × Int) × Int × List Int × Int × Int)) (l0_0 : List Int) (a0_1 a0_2 : Int) : T.main tyt (tbl k) o (l0_0, a0_1, a0_2) = m (fun l0_4 x1_4 x2_4 x3_4 x4_4 l5_4 x6_4 x7_4 x8_4 l9_4 x10_4 x11_4 => o 4 (S4 l0_4 x1_4 x2_4 x3_4 x4_4 l5_4 x6_4 x7_4 x8_4 l9_4 x10_4 x11_4)) k l0_0 a0_1 a0_2 := by kernel_rfl
theorem ok : T.ok = true := by kernel_rfl
theorem run (k : Nat) : (∀ (l0_4 : List Int) (x1_4 x2_4 x3_4 x4_4 : Int) (l5_4 : List (Int × Int × Int × Int × Int)) (x6_4 x7_4 x8_4 : Int) (l9_4 : List (Int × Int × Int × Int × Int)) (x10_4 x11_4 : Int), T.run tyt tbl k 4 (S4 l0_4 x1_4 x2_4 x3_4 x4_4 l5_4 x6_4 x7_4 x8_4 l9_4 x10_4 x11_4) = spec_l1Cur_shop.l4 k l0_4 x1_4 x2_4 x3_4 x4_4 l5_4 x6_4 x7_4 x8_4 l9_4 x10_4 x11_4) := by
  induction k with
  | zero => exact fun l0_4 x1_4 x2_4 x3_4 x4_4 l5_4 x6_4 x7_4 x8_4 l9_4 x10_4 x11_4 => rfl
  | succ k ih =>
    exact fun l0_4 x1_4 x2_4 x3_4 x4_4 l5_4 x6_4 x7_4 x8_4 l9_4 x10_4 x11_4 => by
      have q4 : (fun l0_4 x1_4 x2_4 x3_4 x4_4 l5_4 x6_4 x7_4 x8_4 l9_4 x10_4 x11_4 => T.run tyt tbl k 4 (S4 l0_4 x1_4 x2_4 x3_4 x4_4 l5_4 x6_4 x7_4 x8_4 l9_4 x10_4 x11_4)) = spec_l1Cur_shop.l4 k := by funext l0_4 x1_4 x2_4 x3_4 x4_4 l5_4 x6_4 x7_4 x8_4 l9_4 x10_4 x11_4; exact ih l0_4 x1_4 x2_4 x3_4 x4_4 l5_4 x6_4 x7_4 x8_4 l9_4 x10_4 x11_4
      exact (e4 k (T.run tyt tbl k) l0_4 x1_4 x2_4 x3_4 x4_4 l5_4 x6_4 x7_4 x8_4 l9_4 x10_4 x11_4).trans (by rw [q4]; rfl)
theorem tblok (k : Nat) : TblOk Tryz.prog (tbl k) := TblOk.cons (spec_l1Cur_among_2.sound k) (TblOk.cons (spec_NewShop.sound k) (TblOk.cons (spec_l1Cur_pick.sound k) (TblOk.cons (spec_l1Cur_shopStep_2.sound k) (TblOk.cons (spec_StepShop.sound k) (TblOk.nil _)))))
theorem sound (k : Nat) : Sound Tryz.prog 105 (spec k) := by
  have h := fn_ok (F := T) (tbl := tbl) mixed tyok Tryz.func105 (by kernel_rfl) (c0 := bodyOf Tryz.f105) rfl (conv_code _ _ _) rfl rfl ok k (fun j _ => tblok j)
  have q4 : (fun l0_4 x1_4 x2_4 x3_4 x4_4 l5_4 x6_4 x7_4 x8_4 l9_4 x10_4 x11_4 => T.run tyt tbl k 4 (S4 l0_4 x1_4 x2_4 x3_4 x4_4 l5_4 x6_4 x7_4 x8_4 l9_4 x10_4 x11_4)) = spec_l1Cur_shop.l4 k := by funext l0_4 x1_4 x2_4 x3_4 x4_4 l5_4 x6_4 x7_4 x8_4 l9_4 x10_4 x11_4; exact (run k) l0_4 x1_4 x2_4 x3_4 x4_4 l5_4 x6_4 x7_4 x8_4 l9_4 x10_4 x11_4
  have e : spec k = ⟨T.ps, T.rs, T.ev tyt tbl k⟩ := congrArg (FnSpec.mk _ _) (funext fun x => ((e k (T.run tyt tbl k) x.1 x.2.1 x.2.2).trans (by rw [q4]; rfl)).symm)
  rw [e]
  exact h
end spec_l1Cur_shop

namespace spec_l1Split
/-! ### spec_l1Split: function 66 -/
def b5 (o5 : ByteArray → Int → List ByteArray → Int → Int → Option (List ByteArray)) (k : Nat) (x0_5 : ByteArray) (x1_5 : Int) (l2_5 : List ByteArray) (x3_5 x4_5 : Int) : Option (List ByteArray) := (if x4_5 < (x0_5.size : Int) then ((chk x0_5.size x4_5).bind fun i1 => (if (byteAt x0_5 i1) = x1_5 then ((cut x0_5.size x3_5 x4_5).bind fun c2 => ((app 8796093022208 l2_5 [(x0_5.extract c2.1 (c2.1 + c2.2))]).bind fun l3 => (o5 x0_5 x1_5 l3 (w64 (x4_5 + 1)) (w64 (x4_5 + 1))))) else (o5 x0_5 x1_5 l2_5 x3_5 (w64 (x4_5 + 1))))) else ((cut x0_5.size x3_5 (x0_5.size : Int)).bind fun c4 => ((app 8796093022208 l2_5 [(x0_5.extract c4.1 (c4.1 + c4.2))]).bind fun l5 => (some l5))))
def l5 : Nat → ByteArray → Int → List ByteArray → Int → Int → Option (List ByteArray)
  | 0, _, _, _, _, _ => none
  | k + 1, x0_5, x1_5, l2_5, x3_5, x4_5 => b5 (spec_l1Split.l5 k) k x0_5 x1_5 l2_5 x3_5 x4_5
def m (o5 : ByteArray → Int → List ByteArray → Int → Int → Option (List ByteArray)) (k : Nat) (a0 : ByteArray) (a1 : Int) : Option (List ByteArray) := (o5 a0 a1 ([] : List (ByteArray)) 0 0)
def f (k : Nat) (a0 : ByteArray) (a1 : Int) : Option (List ByteArray) := m (spec_l1Split.l5 k) k a0 a1
noncomputable def spec (k : Nat) : FnSpec := ⟨[.d .str none, .d (.int .u8) none], [.d (.sl .str) (some 9)], fun x => f k x.1 x.2⟩
def S5 (x0_5 : ByteArray) (x1_5 : Int) (l2_5 : List ByteArray) (x3_5 x4_5 : Int) : St := ⟨[(0, .val .str x0_5), (1, .val (.int .u8) x1_5), (5, .ref 100), (6, .val (.int .i64) x3_5), (7, .val (.int .i64) x4_5)], [(100, some (.row 9 .str l2_5))], 1000⟩
noncomputable def T : FnText := ⟨(conv [] (bodyOf Tryz.f66) 0).1, Tryz.f66.results.toList, 35, [(5, [(0, .rd .str), (1, .rd (.int .u8)), (5, .own 9 .str 100), (6, .rd (.int .i64)), (7, .rd (.int .i64))])], [.d .str none, .d (.int .u8) none], [.d (.sl .str) (some 9)]⟩
noncomputable def tbl (k : Nat) : Tbl := []
theorem e5 (k : Nat) (o : Nat → St → Option (List ByteArray)) (x0_5 : ByteArray) (x1_5 : Int) (l2_5 : List ByteArray) (x3_5 x4_5 : Int) : T.step tyt (tbl k) o 5 (S5 x0_5 x1_5 l2_5 x3_5 x4_5) = b5 (fun x0_5 x1_5 l2_5 x3_5 x4_5 => o 5 (S5 x0_5 x1_5 l2_5 x3_5 x4_5)) k x0_5 x1_5 l2_5 x3_5 x4_5 := by kernel_rfl
theorem e (k : Nat) (o : Nat → St → Option (List ByteArray)) (a0 : ByteArray) (a1 : Int) : T.main tyt (tbl k) o (a0, a1) = m (fun x0_5 x1_5 l2_5 x3_5 x4_5 => o 5 (S5 x0_5 x1_5 l2_5 x3_5 x4_5)) k a0 a1 := by kernel_rfl
theorem ok : T.ok = true := by kernel_rfl
theorem run (k : Nat) : (∀ (x0_5 : ByteArray) (x1_5 : Int) (l2_5 : List ByteArray) (x3_5 x4_5 : Int), T.run tyt tbl k 5 (S5 x0_5 x1_5 l2_5 x3_5 x4_5) = spec_l1Split.l5 k x0_5 x1_5 l2_5 x3_5 x4_5) := by
  induction k with
  | zero => exact fun x0_5 x1_5 l2_5 x3_5 x4_5 => rfl
  | succ k ih =>
    exact fun x0_5 x1_5 l2_5 x3_5 x4_5 => by
      have q5 : (fun x0_5 x1_5 l2_5 x3_5 x4_5 => T.run tyt tbl k 5 (S5 x0_5 x1_5 l2_5 x3_5 x4_5)) = spec_l1Split.l5 k := by funext x0_5 x1_5 l2_5 x3_5 x4_5; exact ih x0_5 x1_5 l2_5 x3_5 x4_5
      exact (e5 k (T.run tyt tbl k) x0_5 x1_5 l2_5 x3_5 x4_5).trans (by rw [q5]; rfl)
theorem tblok (k : Nat) : TblOk Tryz.prog (tbl k) := TblOk.nil _
theorem sound (k : Nat) : Sound Tryz.prog 66 (spec k) := by
  have h := fn_ok (F := T) (tbl := tbl) mixed tyok Tryz.func66 (by kernel_rfl) (c0 := bodyOf Tryz.f66) rfl (conv_code _ _ _) rfl rfl ok k (fun j _ => tblok j)
  have q5 : (fun x0_5 x1_5 l2_5 x3_5 x4_5 => T.run tyt tbl k 5 (S5 x0_5 x1_5 l2_5 x3_5 x4_5)) = spec_l1Split.l5 k := by funext x0_5 x1_5 l2_5 x3_5 x4_5; exact (run k) x0_5 x1_5 l2_5 x3_5 x4_5
  have e : spec k = ⟨T.ps, T.rs, T.ev tyt tbl k⟩ := congrArg (FnSpec.mk _ _) (funext fun x => ((e k (T.run tyt tbl k) x.1 x.2).trans (by rw [q5]; rfl)).symm)
  rw [e]
  exact h
end spec_l1Split

namespace spec_l1Num
/-! ### spec_l1Num: function 73, that calls itself -/
def m (self : Int → Option (ByteArray)) (k : Nat) (a0 : Int) : Option (ByteArray) := (if a0 < 0 then ((self (w64 (0 - a0))).bind fun r1 => ((catS (⟨#[45]⟩ : ByteArray) r1).bind fun s2 => (some s2))) else (if a0 < 10 then ((cut ((⟨#[48, 49, 50, 51, 52, 53, 54, 55, 56, 57]⟩ : ByteArray).size) a0 (w64 (a0 + 1))).bind fun c3 => (some ((⟨#[48, 49, 50, 51, 52, 53, 54, 55, 56, 57]⟩ : ByteArray).extract c3.1 (c3.1 + c3.2)))) else ((quo .i64 a0 10).bind fun q4 => ((self q4).bind fun r5 => ((rem a0 10).bind fun q6 => ((rem a0 10).bind fun q7 => ((cut ((⟨#[48, 49, 50, 51, 52, 53, 54, 55, 56, 57]⟩ : ByteArray).size) q6 (w64 (q7 + 1))).bind fun c8 => ((catS r5 ((⟨#[48, 49, 50, 51, 52, 53, 54, 55, 56, 57]⟩ : ByteArray).extract c8.1 (c8.1 + c8.2))).bind fun s9 => (some s9)))))))))
def f : Nat → Int → Option (ByteArray)
  | 0, _ => none
  | k + 1, a0 => m (f k) (k + 1) a0
noncomputable def spec (k : Nat) : FnSpec := ⟨[.d (.int .i64) none], [.d .str none], fun x => f k x⟩
noncomputable def T : FnText := ⟨(conv [] (bodyOf Tryz.f73) 0).1, Tryz.f73.results.toList, 25, [], [.d (.int .i64) none], [.d .str none]⟩
noncomputable def tbl (k0 k : Nat) : Tbl := [(73, spec k0)]
theorem e (k0 k : Nat) (o : Nat → St → Option (ByteArray)) (a0 : Int) : T.main tyt (tbl k0 k) o a0 = m (f k0) k a0 := by kernel_rfl
theorem ok : T.ok = true := by kernel_rfl
theorem tblok (k0 k : Nat) (hs : Sound Tryz.prog 73 (spec k0)) : TblOk Tryz.prog (tbl k0 k) := TblOk.cons hs (TblOk.nil _)
theorem sound (k : Nat) : Sound Tryz.prog 73 (spec k) := by
  induction k with
  | zero => exact ⟨fun args w => enters_fn Tryz.func73 (by kernel_rfl) rfl args w, fun x r hx => nomatch (show none = some r from hx)⟩
  | succ k0 ih =>
  have h := fn_ok (F := T) (tbl := tbl k0) mixed tyok Tryz.func73 (by kernel_rfl) (c0 := bodyOf Tryz.f73) rfl (conv_code _ _ _) rfl rfl ok (k0 + 1) (fun j _ => tblok k0 j ih)
  have e : spec (k0 + 1) = ⟨T.ps, T.rs, T.ev tyt (tbl k0) (k0 + 1)⟩ := congrArg (FnSpec.mk _ _) (funext fun x => ((e k0 (k0 + 1) (T.run tyt (tbl k0) (k0 + 1)) x).trans (by rfl)).symm)
  rw [e]
  exact h
end spec_l1Num

namespace spec_l27Plain
/-! ### spec_l27Plain: function 85 -/
def b3 (o3 : ByteArray → Int → Int → Option (Bool)) (k : Nat) (x0_3 : ByteArray) (x1_3 x2_3 : Int) : Option (Bool) := (if x2_3 < (x0_3.size : Int) then ((chk x0_3.size x2_3).bind fun i1 => ((spec_l1In.f k (w64 ((byteAt x0_3 i1))) 32 126).bind fun r2 => (cond (!r2) (some false) ((chk x0_3.size x2_3).bind fun i3 => (if (byteAt x0_3 i3) = 35 then (some false) else (o3 x0_3 x1_3 (w64 (x2_3 + 1)))))))) else (some (decide ((x0_3.size : Int) ≤ x1_3))))
def l3 : Nat → ByteArray → Int → Int → Option (Bool)
  | 0, _, _, _ => none
  | k + 1, x0_3, x1_3, x2_3 => b3 (spec_l27Plain.l3 k) k x0_3 x1_3 x2_3
def m (o3 : ByteArray → Int → Int → Option (Bool)) (k : Nat) (a0 : ByteArray) (a1 : Int) : Option (Bool) := (o3 a0 a1 0)
def f (k : Nat) (a0 : ByteArray) (a1 : Int) : Option (Bool) := m (spec_l27Plain.l3 k) k a0 a1
noncomputable def spec (k : Nat) : FnSpec := ⟨[.d .str none, .d (.int .i64) none], [.d .bool none], fun x => f k x.1 x.2⟩
def S3 (x0_3 : ByteArray) (x1_3 x2_3 : Int) : St := ⟨[(0, .val .str x0_3), (1, .val (.int .i64) x1_3), (5, .val (.int .i64) x2_3)], [], 1000⟩
noncomputable def T : FnText := ⟨(conv [] (bodyOf Tryz.f85) 0).1, Tryz.f85.results.toList, 28, [(3, [(0, .rd .str), (1, .rd (.int .i64)), (5, .rd (.int .i64))])], [.d .str none, .d (.int .i64) none], [.d .bool none]⟩
noncomputable def tbl (k : Nat) : Tbl := [(118, spec_l1In.spec k)]
theorem e3 (k : Nat) (o : Nat → St → Option (Bool)) (x0_3 : ByteArray) (x1_3 x2_3 : Int) : T.step tyt (tbl k) o 3 (S3 x0_3 x1_3 x2_3) = b3 (fun x0_3 x1_3 x2_3 => o 3 (S3 x0_3 x1_3 x2_3)) k x0_3 x1_3 x2_3 := by kernel_rfl
theorem e (k : Nat) (o : Nat → St → Option (Bool)) (a0 : ByteArray) (a1 : Int) : T.main tyt (tbl k) o (a0, a1) = m (fun x0_3 x1_3 x2_3 => o 3 (S3 x0_3 x1_3 x2_3)) k a0 a1 := by kernel_rfl
theorem ok : T.ok = true := by kernel_rfl
theorem run (k : Nat) : (∀ (x0_3 : ByteArray) (x1_3 x2_3 : Int), T.run tyt tbl k 3 (S3 x0_3 x1_3 x2_3) = spec_l27Plain.l3 k x0_3 x1_3 x2_3) := by
  induction k with
  | zero => exact fun x0_3 x1_3 x2_3 => rfl
  | succ k ih =>
    exact fun x0_3 x1_3 x2_3 => by
      have q3 : (fun x0_3 x1_3 x2_3 => T.run tyt tbl k 3 (S3 x0_3 x1_3 x2_3)) = spec_l27Plain.l3 k := by funext x0_3 x1_3 x2_3; exact ih x0_3 x1_3 x2_3
      exact (e3 k (T.run tyt tbl k) x0_3 x1_3 x2_3).trans (by rw [q3]; rfl)
theorem tblok (k : Nat) : TblOk Tryz.prog (tbl k) := TblOk.cons (spec_l1In.sound k) (TblOk.nil _)
theorem sound (k : Nat) : Sound Tryz.prog 85 (spec k) := by
  have h := fn_ok (F := T) (tbl := tbl) mixed tyok Tryz.func85 (by kernel_rfl) (c0 := bodyOf Tryz.f85) rfl (conv_code _ _ _) rfl rfl ok k (fun j _ => tblok j)
  have q3 : (fun x0_3 x1_3 x2_3 => T.run tyt tbl k 3 (S3 x0_3 x1_3 x2_3)) = spec_l27Plain.l3 k := by funext x0_3 x1_3 x2_3; exact (run k) x0_3 x1_3 x2_3
  have e : spec k = ⟨T.ps, T.rs, T.ev tyt tbl k⟩ := congrArg (FnSpec.mk _ _) (funext fun x => ((e k (T.run tyt tbl k) x.1 x.2).trans (by rw [q3]; rfl)).symm)
  rw [e]
  exact h
end spec_l27Plain

namespace spec_l1Stands
/-! ### spec_l1Stands: function 86 -/
def b3 (o3 : ByteArray → Int → Int → Option (Bool)) (k : Nat) (x0_3 : ByteArray) (x1_3 x2_3 : Int) : Option (Bool) := (if x2_3 < (x0_3.size : Int) then ((chk x0_3.size x2_3).bind fun i1 => (if (byteAt x0_3 i1) = x1_3 then (some true) else (o3 x0_3 x1_3 (w64 (x2_3 + 1))))) else (some false))
def l3 : Nat → ByteArray → Int → Int → Option (Bool)
  | 0, _, _, _ => none
  | k + 1, x0_3, x1_3, x2_3 => b3 (spec_l1Stands.l3 k) k x0_3 x1_3 x2_3
def m (o3 : ByteArray → Int → Int → Option (Bool)) (k : Nat) (a0 : ByteArray) (a1 : Int) : Option (Bool) := (o3 a0 a1 0)
def f (k : Nat) (a0 : ByteArray) (a1 : Int) : Option (Bool) := m (spec_l1Stands.l3 k) k a0 a1
noncomputable def spec (k : Nat) : FnSpec := ⟨[.d .str none, .d (.int .u8) none], [.d .bool none], fun x => f k x.1 x.2⟩
def S3 (x0_3 : ByteArray) (x1_3 x2_3 : Int) : St := ⟨[(0, .val .str x0_3), (1, .val (.int .u8) x1_3), (5, .val (.int .i64) x2_3)], [], 1000⟩
noncomputable def T : FnText := ⟨(conv [] (bodyOf Tryz.f86) 0).1, Tryz.f86.results.toList, 17, [(3, [(0, .rd .str), (1, .rd (.int .u8)), (5, .rd (.int .i64))])], [.d .str none, .d (.int .u8) none], [.d .bool none]⟩
noncomputable def tbl (k : Nat) : Tbl := []
theorem e3 (k : Nat) (o : Nat → St → Option (Bool)) (x0_3 : ByteArray) (x1_3 x2_3 : Int) : T.step tyt (tbl k) o 3 (S3 x0_3 x1_3 x2_3) = b3 (fun x0_3 x1_3 x2_3 => o 3 (S3 x0_3 x1_3 x2_3)) k x0_3 x1_3 x2_3 := by kernel_rfl
theorem e (k : Nat) (o : Nat → St → Option (Bool)) (a0 : ByteArray) (a1 : Int) : T.main tyt (tbl k) o (a0, a1) = m (fun x0_3 x1_3 x2_3 => o 3 (S3 x0_3 x1_3 x2_3)) k a0 a1 := by kernel_rfl
theorem ok : T.ok = true := by kernel_rfl
theorem run (k : Nat) : (∀ (x0_3 : ByteArray) (x1_3 x2_3 : Int), T.run tyt tbl k 3 (S3 x0_3 x1_3 x2_3) = spec_l1Stands.l3 k x0_3 x1_3 x2_3) := by
  induction k with
  | zero => exact fun x0_3 x1_3 x2_3 => rfl
  | succ k ih =>
    exact fun x0_3 x1_3 x2_3 => by
      have q3 : (fun x0_3 x1_3 x2_3 => T.run tyt tbl k 3 (S3 x0_3 x1_3 x2_3)) = spec_l1Stands.l3 k := by funext x0_3 x1_3 x2_3; exact ih x0_3 x1_3 x2_3
      exact (e3 k (T.run tyt tbl k) x0_3 x1_3 x2_3).trans (by rw [q3]; rfl)
theorem tblok (k : Nat) : TblOk Tryz.prog (tbl k) := TblOk.nil _
theorem sound (k : Nat) : Sound Tryz.prog 86 (spec k) := by
  have h := fn_ok (F := T) (tbl := tbl) mixed tyok Tryz.func86 (by kernel_rfl) (c0 := bodyOf Tryz.f86) rfl (conv_code _ _ _) rfl rfl ok k (fun j _ => tblok j)
  have q3 : (fun x0_3 x1_3 x2_3 => T.run tyt tbl k 3 (S3 x0_3 x1_3 x2_3)) = spec_l1Stands.l3 k := by funext x0_3 x1_3 x2_3; exact (run k) x0_3 x1_3 x2_3
  have e : spec k = ⟨T.ps, T.rs, T.ev tyt tbl k⟩ := congrArg (FnSpec.mk _ _) (funext fun x => ((e k (T.run tyt tbl k) x.1 x.2).trans (by rw [q3]; rfl)).symm)
  rw [e]
  exact h
end spec_l1Stands

namespace spec_l27Good
/-! ### spec_l27Good: function 45 -/
def m (k : Nat) (a0_0 a0_1 : ByteArray) : Option (Bool) := (if ¬ a0_0 = (⟨#[]⟩ : ByteArray) then ((spec_l27Plain.f k a0_0 160).bind fun r1 => (cond r1 ((spec_l1Stands.f k a0_0 64).bind fun r2 => (cond (!r2) ((spec_l27Plain.f k a0_1 200).bind fun r3 => (some r3)) (some false))) (some false))) else (some false))
def f (k : Nat) (a0_0 a0_1 : ByteArray) : Option (Bool) := m k a0_0 a0_1
noncomputable def spec (k : Nat) : FnSpec := ⟨[.ag [.d .str none, .d .str none]], [.d .bool none], fun x => f k x.1 x.2⟩
noncomputable def T : FnText := ⟨(conv [] (bodyOf Tryz.f45) 0).1, Tryz.f45.results.toList, 22, [], [.ag [.d .str none, .d .str none]], [.d .bool none]⟩
noncomputable def tbl (k : Nat) : Tbl := [(85, spec_l27Plain.spec k), (86, spec_l1Stands.spec k)]
theorem e (k : Nat) (o : Nat → St → Option (Bool)) (a0_0 a0_1 : ByteArray) : T.main tyt (tbl k) o (a0_0, a0_1) = m k a0_0 a0_1 := by kernel_rfl
theorem ok : T.ok = true := by kernel_rfl
theorem tblok (k : Nat) : TblOk Tryz.prog (tbl k) := TblOk.cons (spec_l27Plain.sound k) (TblOk.cons (spec_l1Stands.sound k) (TblOk.nil _))
theorem sound (k : Nat) : Sound Tryz.prog 45 (spec k) := by
  have h := fn_ok (F := T) (tbl := tbl) mixed tyok Tryz.func45 (by kernel_rfl) (c0 := bodyOf Tryz.f45) rfl (conv_code _ _ _) rfl rfl ok k (fun j _ => tblok j)
  have e : spec k = ⟨T.ps, T.rs, T.ev tyt tbl k⟩ := congrArg (FnSpec.mk _ _) (funext fun x => ((e k (T.run tyt tbl k) x.1 x.2).trans (by rfl)).symm)
  rw [e]
  exact h
end spec_l27Good

namespace spec_l1Sum
/-! ### spec_l1Sum: function 161 -/
def b4 (o4 : ByteArray → Int → Int → Option (Int)) (k : Nat) (x0_4 : ByteArray) (x1_4 x2_4 : Int) : Option (Int) := (if x2_4 < (x0_4.size : Int) then ((chk x0_4.size x2_4).bind fun i1 => ((rem (w64 ((w64 ((w64 (41 * x1_4)) + (w64 ((byteAt x0_4 i1))))) + 1)) 999979).bind fun q2 => (o4 x0_4 q2 (w64 (x2_4 + 1))))) else (some x1_4))
def l4 : Nat → ByteArray → Int → Int → Option (Int)
  | 0, _, _, _ => none
  | k + 1, x0_4, x1_4, x2_4 => b4 (spec_l1Sum.l4 k) k x0_4 x1_4 x2_4
def m (o4 : ByteArray → Int → Int → Option (Int)) (k : Nat) (a0 : ByteArray) : Option (Int) := (o4 a0 7 0)
def f (k : Nat) (a0 : ByteArray) : Option (Int) := m (spec_l1Sum.l4 k) k a0
noncomputable def spec (k : Nat) : FnSpec := ⟨[.d .str none], [.d (.int .i64) none], fun x => f k x⟩
def S4 (x0_4 : ByteArray) (x1_4 x2_4 : Int) : St := ⟨[(0, .val .str x0_4), (3, .val (.int .i64) x1_4), (4, .val (.int .i64) x2_4)], [], 1000⟩
noncomputable def T : FnText := ⟨(conv [] (bodyOf Tryz.f161) 0).1, Tryz.f161.results.toList, 21, [(4, [(0, .rd .str), (3, .rd (.int .i64)), (4, .rd (.int .i64))])], [.d .str none], [.d (.int .i64) none]⟩
noncomputable def tbl (k : Nat) : Tbl := []
theorem e4 (k : Nat) (o : Nat → St → Option (Int)) (x0_4 : ByteArray) (x1_4 x2_4 : Int) : T.step tyt (tbl k) o 4 (S4 x0_4 x1_4 x2_4) = b4 (fun x0_4 x1_4 x2_4 => o 4 (S4 x0_4 x1_4 x2_4)) k x0_4 x1_4 x2_4 := by kernel_rfl
theorem e (k : Nat) (o : Nat → St → Option (Int)) (a0 : ByteArray) : T.main tyt (tbl k) o a0 = m (fun x0_4 x1_4 x2_4 => o 4 (S4 x0_4 x1_4 x2_4)) k a0 := by kernel_rfl
theorem ok : T.ok = true := by kernel_rfl
theorem run (k : Nat) : (∀ (x0_4 : ByteArray) (x1_4 x2_4 : Int), T.run tyt tbl k 4 (S4 x0_4 x1_4 x2_4) = spec_l1Sum.l4 k x0_4 x1_4 x2_4) := by
  induction k with
  | zero => exact fun x0_4 x1_4 x2_4 => rfl
  | succ k ih =>
    exact fun x0_4 x1_4 x2_4 => by
      have q4 : (fun x0_4 x1_4 x2_4 => T.run tyt tbl k 4 (S4 x0_4 x1_4 x2_4)) = spec_l1Sum.l4 k := by funext x0_4 x1_4 x2_4; exact ih x0_4 x1_4 x2_4
      exact (e4 k (T.run tyt tbl k) x0_4 x1_4 x2_4).trans (by rw [q4]; rfl)
theorem tblok (k : Nat) : TblOk Tryz.prog (tbl k) := TblOk.nil _
theorem sound (k : Nat) : Sound Tryz.prog 161 (spec k) := by
  have h := fn_ok (F := T) (tbl := tbl) mixed tyok Tryz.func161 (by kernel_rfl) (c0 := bodyOf Tryz.f161) rfl (conv_code _ _ _) rfl rfl ok k (fun j _ => tblok j)
  have q4 : (fun x0_4 x1_4 x2_4 => T.run tyt tbl k 4 (S4 x0_4 x1_4 x2_4)) = spec_l1Sum.l4 k := by funext x0_4 x1_4 x2_4; exact (run k) x0_4 x1_4 x2_4
  have e : spec k = ⟨T.ps, T.rs, T.ev tyt tbl k⟩ := congrArg (FnSpec.mk _ _) (funext fun x => ((e k (T.run tyt tbl k) x).trans (by rw [q4]; rfl)).symm)
  rw [e]
  exact h
end spec_l1Sum

namespace spec_l1Seal
/-! ### spec_l1Seal: function 131 -/
def m (k : Nat) (a0 : ByteArray) : Option (ByteArray) := ((catS a0 (⟨#[35]⟩ : ByteArray)).bind fun s1 => ((spec_l1Sum.f k a0).bind fun r2 => ((spec_l1Num.f k r2).bind fun r3 => ((catS s1 r3).bind fun s4 => (some s4)))))
def f (k : Nat) (a0 : ByteArray) : Option (ByteArray) := m k a0
noncomputable def spec (k : Nat) : FnSpec := ⟨[.d .str none], [.d .str none], fun x => f k x⟩
noncomputable def T : FnText := ⟨(conv [] (bodyOf Tryz.f131) 0).1, Tryz.f131.results.toList, 9, [], [.d .str none], [.d .str none]⟩
noncomputable def tbl (k : Nat) : Tbl := [(161, spec_l1Sum.spec k), (73, spec_l1Num.spec k)]
theorem e (k : Nat) (o : Nat → St → Option (ByteArray)) (a0 : ByteArray) : T.main tyt (tbl k) o a0 = m k a0 := by kernel_rfl
theorem ok : T.ok = true := by kernel_rfl
theorem tblok (k : Nat) : TblOk Tryz.prog (tbl k) := TblOk.cons (spec_l1Sum.sound k) (TblOk.cons (spec_l1Num.sound k) (TblOk.nil _))
theorem sound (k : Nat) : Sound Tryz.prog 131 (spec k) := by
  have h := fn_ok (F := T) (tbl := tbl) mixed tyok Tryz.func131 (by kernel_rfl) (c0 := bodyOf Tryz.f131) rfl (conv_code _ _ _) rfl rfl ok k (fun j _ => tblok j)
  have e : spec k = ⟨T.ps, T.rs, T.ev tyt tbl k⟩ := congrArg (FnSpec.mk _ _) (funext fun x => ((e k (T.run tyt tbl k) x).trans (by rfl)).symm)
  rw [e]
  exact h
end spec_l1Seal

namespace spec_l27Line
/-! ### spec_l27Line: function 91 -/
def m (k : Nat) (a0 : Int) (a1_0 a1_1 : ByteArray) : Option (ByteArray) := ((spec_l1Num.f k a0).bind fun r1 => ((catS r1 (⟨#[32]⟩ : ByteArray)).bind fun s2 => ((catS s2 a1_0).bind fun s3 => ((catS s3 (⟨#[64]⟩ : ByteArray)).bind fun s4 => ((catS s4 a1_1).bind fun s5 => ((spec_l1Seal.f k s5).bind fun r6 => ((catS r6 (⟨#[10]⟩ : ByteArray)).bind fun s7 => (some s7))))))))
def f (k : Nat) (a0 : Int) (a1_0 a1_1 : ByteArray) : Option (ByteArray) := m k a0 a1_0 a1_1
noncomputable def spec (k : Nat) : FnSpec := ⟨[.d (.int .i64) none, .ag [.d .str none, .d .str none]], [.d .str none], fun x => f k x.1 x.2.1 x.2.2⟩
noncomputable def T : FnText := ⟨(conv [] (bodyOf Tryz.f91) 0).1, Tryz.f91.results.toList, 17, [], [.d (.int .i64) none, .ag [.d .str none, .d .str none]], [.d .str none]⟩
noncomputable def tbl (k : Nat) : Tbl := [(73, spec_l1Num.spec k), (131, spec_l1Seal.spec k)]
theorem e (k : Nat) (o : Nat → St → Option (ByteArray)) (a0 : Int) (a1_0 a1_1 : ByteArray) : T.main tyt (tbl k) o (a0, a1_0, a1_1) = m k a0 a1_0 a1_1 := by kernel_rfl
theorem ok : T.ok = true := by kernel_rfl
theorem tblok (k : Nat) : TblOk Tryz.prog (tbl k) := TblOk.cons (spec_l1Num.sound k) (TblOk.cons (spec_l1Seal.sound k) (TblOk.nil _))
theorem sound (k : Nat) : Sound Tryz.prog 91 (spec k) := by
  have h := fn_ok (F := T) (tbl := tbl) mixed tyok Tryz.func91 (by kernel_rfl) (c0 := bodyOf Tryz.f91) rfl (conv_code _ _ _) rfl rfl ok k (fun j _ => tblok j)
  have e : spec k = ⟨T.ps, T.rs, T.ev tyt tbl k⟩ := congrArg (FnSpec.mk _ _) (funext fun x => ((e k (T.run tyt tbl k) x.1 x.2.1 x.2.2).trans (by rfl)).symm)
  rw [e]
  exact h
end spec_l27Line

namespace spec_l27Read
/-! ### spec_l27Read: function 120 -/
def m (k : Nat) (a0 : ByteArray) (a1 : Int) : Option (ByteArray × ByteArray × Bool) := ((spec_l1Num.f k a1).bind fun r1 => ((catS r1 (⟨#[32]⟩ : ByteArray)).bind fun s2 => ((spec_l1Split.f k a0 35).bind fun r3 => ((chk r3.length 0).bind fun i4 => (if ((r3.getD i4 ByteArray.empty).size : Int) < (s2.size : Int) then (some (ByteArray.empty, ByteArray.empty, false)) else ((cutTo ((r3.getD i4 ByteArray.empty).size) (s2.size : Int)).bind fun m6 => (if ¬ ((r3.getD i4 ByteArray.empty).extract 0 m6) = s2 then (some (ByteArray.empty, ByteArray.empty, false)) else ((cut ((r3.getD i4 ByteArray.empty).size) (s2.size : Int) ((r3.getD i4 ByteArray.empty).size : Int)).bind fun c7 => ((spec_l1Split.f k ((r3.getD i4 ByteArray.empty).extract c7.1 (c7.1 + c7.2)) 64).bind fun r8 => ((chk r8.length 0).bind fun i9 => (if ((r8.getD i9 ByteArray.empty).size : Int) = (((r3.getD i4 ByteArray.empty).extract c7.1 (c7.1 + c7.2)).size : Int) then (some (ByteArray.empty, ByteArray.empty, false)) else ((cut (((r3.getD i4 ByteArray.empty).extract c7.1 (c7.1 + c7.2)).size) (w64 (((r8.getD i9 ByteArray.empty).size : Int) + 1)) (((r3.getD i4 ByteArray.empty).extract c7.1 (c7.1 + c7.2)).size : Int)).bind fun c10 => ((spec_l27Good.f k (r8.getD i9 ByteArray.empty) (((r3.getD i4 ByteArray.empty).extract c7.1 (c7.1 + c7.2)).extract c10.1 (c10.1 + c10.2))).bind fun r11 => (cond r11 ((spec_l27Line.f k a1 (r8.getD i9 ByteArray.empty) (((r3.getD i4 ByteArray.empty).extract c7.1 (c7.1 + c7.2)).extract c10.1 (c10.1 + c10.2))).bind fun r12 => ((catS a0 (⟨#[10]⟩ : ByteArray)).bind fun s13 => (some ((r8.getD i9 ByteArray.empty), (((r3.getD i4 ByteArray.empty).extract c7.1 (c7.1 + c7.2)).extract c10.1 (c10.1 + c10.2)), (decide (r12 = s13)))))) (some ((r8.getD i9 ByteArray.empty), (((r3.getD i4 ByteArray.empty).extract c7.1 (c7.1 + c7.2)).extract c10.1 (c10.1 + c10.2)), false))))))))))))))))
def f (k : Nat) (a0 : ByteArray) (a1 : Int) : Option (ByteArray × ByteArray × Bool) := m k a0 a1
noncomputable def spec (k : Nat) : FnSpec := ⟨[.d .str none, .d (.int .i64) none], [.ag [.d .str none, .d .str none], .d .bool none], fun x => f k x.1 x.2⟩
noncomputable def T : FnText := ⟨(conv [] (bodyOf Tryz.f120) 0).1, Tryz.f120.results.toList, 64, [], [.d .str none, .d (.int .i64) none], [.ag [.d .str none, .d .str none], .d .bool none]⟩
noncomputable def tbl (k : Nat) : Tbl := [(73, spec_l1Num.spec k), (66, spec_l1Split.spec k), (45, spec_l27Good.spec k), (91, spec_l27Line.spec k)]
theorem e (k : Nat) (o : Nat → St → Option (ByteArray × ByteArray × Bool)) (a0 : ByteArray) (a1 : Int) : T.main tyt (tbl k) o (a0, a1) = m k a0 a1 := by kernel_rfl
theorem ok : T.ok = true := by kernel_rfl
theorem tblok (k : Nat) : TblOk Tryz.prog (tbl k) := TblOk.cons (spec_l1Num.sound k) (TblOk.cons (spec_l1Split.sound k) (TblOk.cons (spec_l27Good.sound k) (TblOk.cons (spec_l27Line.sound k) (TblOk.nil _))))
theorem sound (k : Nat) : Sound Tryz.prog 120 (spec k) := by
  have h := fn_ok (F := T) (tbl := tbl) mixed tyok Tryz.func120 (by kernel_rfl) (c0 := bodyOf Tryz.f120) rfl (conv_code _ _ _) rfl rfl ok k (fun j _ => tblok j)
  have e : spec k = ⟨T.ps, T.rs, T.ev tyt tbl k⟩ := congrArg (FnSpec.mk _ _) (funext fun x => ((e k (T.run tyt tbl k) x.1 x.2).trans (by rfl)).symm)
  rw [e]
  exact h
end spec_l27Read

namespace spec_l27Open
/-! ### spec_l27Open: function 81 -/
def b4 (o4 : ByteArray → (List (ByteArray × ByteArray)) → Int → Option (List (ByteArray × ByteArray) × Int)) (k : Nat) (x0_4 : ByteArray) (l1_4 : List (ByteArray × ByteArray)) (x2_4 : Int) : Option (List (ByteArray × ByteArray) × Int) := (if x2_4 < (x0_4.size : Int) then (if (l1_4.length : Int) < 60 then ((cut x0_4.size x2_4 (x0_4.size : Int)).bind fun c1 => ((spec_l1Split.f k (x0_4.extract c1.1 (c1.1 + c1.2)) 10).bind fun r2 => ((chk r2.length 0).bind fun i3 => ((spec_l27Read.f k (r2.getD i3 ByteArray.empty) (l1_4.length : Int)).bind fun r4 => (if (r2.length : Int) < 2 then (some (l1_4, x2_4)) else (cond (!r4.2.2) (some (l1_4, x2_4)) ((app 4398046511104 l1_4 [(r4.1, r4.2.1)]).bind fun l5 => ((chk r2.length 0).bind fun i6 => (o4 x0_4 l5 (w64 ((w64 (x2_4 + ((r2.getD i6 ByteArray.empty).size : Int))) + 1))))))))))) else (some (l1_4, x2_4))) else (some (l1_4, x2_4)))
def l4 : Nat → ByteArray → (List (ByteArray × ByteArray)) → Int → Option (List (ByteArray × ByteArray) × Int)
  | 0, _, _, _ => none
  | k + 1, x0_4, l1_4, x2_4 => b4 (spec_l27Open.l4 k) k x0_4 l1_4 x2_4
def m (o4 : ByteArray → (List (ByteArray × ByteArray)) → Int → Option (List (ByteArray × ByteArray) × Int)) (k : Nat) (a0 : ByteArray) : Option (List (ByteArray × ByteArray) × Int) := (o4 a0 ([] : List (ByteArray × ByteArray)) 0)
def f (k : Nat) (a0 : ByteArray) : Option (List (ByteArray × ByteArray) × Int) := m (spec_l27Open.l4 k) k a0
noncomputable def spec (k : Nat) : FnSpec := ⟨[.d .str none], [.d (.sl (.pair .str .str)) (some 55), .d (.int .i64) none], fun x => f k x⟩
def S4 (x0_4 : ByteArray) (l1_4 : List (ByteArray × ByteArray)) (x2_4 : Int) : St := ⟨[(0, .val .str x0_4), (4, .ref 100), (5, .val (.int .i64) x2_4)], [(100, some (.row 55 (.pair .str .str) l1_4))], 1000⟩
noncomputable def T : FnText := ⟨(conv [] (bodyOf Tryz.f81) 0).1, Tryz.f81.results.toList, 52, [(4, [(0, .rd .str), (4, .own 55 (.pair .str .str) 100), (5, .rd (.int .i64))])], [.d .str none], [.d (.sl (.pair .str .str)) (some 55), .d (.int .i64) none]⟩
noncomputable def tbl (k : Nat) : Tbl := [(66, spec_l1Split.spec k), (120, spec_l27Read.spec k)]
theorem e4 (k : Nat) (o : Nat → St → Option (List (ByteArray × ByteArray) × Int)) (x0_4 : ByteArray) (l1_4 : List (ByteArray × ByteArray)) (x2_4 : Int) : T.step tyt (tbl k) o 4 (S4 x0_4 l1_4 x2_4) = b4 (fun x0_4 l1_4 x2_4 => o 4 (S4 x0_4 l1_4 x2_4)) k x0_4 l1_4 x2_4 := by kernel_rfl
theorem e (k : Nat) (o : Nat → St → Option (List (ByteArray × ByteArray) × Int)) (a0 : ByteArray) : T.main tyt (tbl k) o a0 = m (fun x0_4 l1_4 x2_4 => o 4 (S4 x0_4 l1_4 x2_4)) k a0 := by kernel_rfl
theorem ok : T.ok = true := by kernel_rfl
theorem run (k : Nat) : (∀ (x0_4 : ByteArray) (l1_4 : List (ByteArray × ByteArray)) (x2_4 : Int), T.run tyt tbl k 4 (S4 x0_4 l1_4 x2_4) = spec_l27Open.l4 k x0_4 l1_4 x2_4) := by
  induction k with
  | zero => exact fun x0_4 l1_4 x2_4 => rfl
  | succ k ih =>
    exact fun x0_4 l1_4 x2_4 => by
      have q4 : (fun x0_4 l1_4 x2_4 => T.run tyt tbl k 4 (S4 x0_4 l1_4 x2_4)) = spec_l27Open.l4 k := by funext x0_4 l1_4 x2_4; exact ih x0_4 l1_4 x2_4
      exact (e4 k (T.run tyt tbl k) x0_4 l1_4 x2_4).trans (by rw [q4]; rfl)
theorem tblok (k : Nat) : TblOk Tryz.prog (tbl k) := TblOk.cons (spec_l1Split.sound k) (TblOk.cons (spec_l27Read.sound k) (TblOk.nil _))
theorem sound (k : Nat) : Sound Tryz.prog 81 (spec k) := by
  have h := fn_ok (F := T) (tbl := tbl) mixed tyok Tryz.func81 (by kernel_rfl) (c0 := bodyOf Tryz.f81) rfl (conv_code _ _ _) rfl rfl ok k (fun j _ => tblok j)
  have q4 : (fun x0_4 l1_4 x2_4 => T.run tyt tbl k 4 (S4 x0_4 l1_4 x2_4)) = spec_l27Open.l4 k := by funext x0_4 l1_4 x2_4; exact (run k) x0_4 l1_4 x2_4
  have e : spec k = ⟨T.ps, T.rs, T.ev tyt tbl k⟩ := congrArg (FnSpec.mk _ _) (funext fun x => ((e k (T.run tyt tbl k) x).trans (by rw [q4]; rfl)).symm)
  rw [e]
  exact h
end spec_l27Open

namespace spec_l27Log
/-! ### spec_l27Log: function 40 -/
def m (k : Nat) (a0_0 a0_1 : ByteArray) (a0_2 : Int) : Option (Bool) := (if 30000 < (w64 ((a0_0.size : Int) + (a0_1.size : Int))) then (some false) else ((catS a0_0 a0_1).bind fun s1 => ((spec_l27Open.f k s1).bind fun r2 => ((spec_l27Open.f k a0_0).bind fun r3 => (if r2.2 = (w64 ((a0_0.size : Int) + (a0_1.size : Int))) then (if r3.2 = (a0_0.size : Int) then (some (decide ((r2.1.length : Int) = a0_2))) else (some false)) else (some false))))))
def f (k : Nat) (a0_0 a0_1 : ByteArray) (a0_2 : Int) : Option (Bool) := m k a0_0 a0_1 a0_2
noncomputable def spec (k : Nat) : FnSpec := ⟨[.ag [.d .str none, .d .str none, .d (.int .i64) none]], [.d .bool none], fun x => f k x.1 x.2.1 x.2.2⟩
noncomputable def T : FnText := ⟨(conv [] (bodyOf Tryz.f40) 0).1, Tryz.f40.results.toList, 53, [], [.ag [.d .str none, .d .str none, .d (.int .i64) none]], [.d .bool none]⟩
noncomputable def tbl (k : Nat) : Tbl := [(81, spec_l27Open.spec k)]
theorem e (k : Nat) (o : Nat → St → Option (Bool)) (a0_0 a0_1 : ByteArray) (a0_2 : Int) : T.main tyt (tbl k) o (a0_0, a0_1, a0_2) = m k a0_0 a0_1 a0_2 := by kernel_rfl
theorem ok : T.ok = true := by kernel_rfl
theorem tblok (k : Nat) : TblOk Tryz.prog (tbl k) := TblOk.cons (spec_l27Open.sound k) (TblOk.nil _)
theorem sound (k : Nat) : Sound Tryz.prog 40 (spec k) := by
  have h := fn_ok (F := T) (tbl := tbl) mixed tyok Tryz.func40 (by kernel_rfl) (c0 := bodyOf Tryz.f40) rfl (conv_code _ _ _) rfl rfl ok k (fun j _ => tblok j)
  have e : spec k = ⟨T.ps, T.rs, T.ev tyt tbl k⟩ := congrArg (FnSpec.mk _ _) (funext fun x => ((e k (T.run tyt tbl k) x.1 x.2.1 x.2.2).trans (by rfl)).symm)
  rw [e]
  exact h
end spec_l27Log

namespace spec_l28Good
/-! ### spec_l28Good: function 44 -/
def m (k : Nat) (a0_0 a0_1 : Int) (l0_2 : List (Int × Int × Int × Int × Int)) (a0_3 : Int) (a0_4 a0_5 : ByteArray) (a0_6 : Int) : Option (Bool) := ((spec_l25Good.f k a0_0 a0_1 l0_2 a0_3).bind fun r1 => (cond r1 ((spec_l27Log.f k a0_4 a0_5 a0_6).bind fun r2 => (some r2)) (some false)))
def f (k : Nat) (a0_0 a0_1 : Int) (l0_2 : List (Int × Int × Int × Int × Int)) (a0_3 : Int) (a0_4 a0_5 : ByteArray) (a0_6 : Int) : Option (Bool) := m k a0_0 a0_1 l0_2 a0_3 a0_4 a0_5 a0_6
noncomputable def spec (k : Nat) : FnSpec := ⟨[.ag [.d (.int .i64) none, .d (.int .i64) none, .d (.sl (.pair (.int .i64) (.pair (.int .i64) (.pair (.int .i64) (.pair (.int .i64) (.int .i64)))))) none, .d (.int .i64) none, .d .str none, .d .str none, .d (.int .i64) none]], [.d .bool none], fun x => f k x.1 x.2.1 x.2.2.1 x.2.2.2.1 x.2.2.2.2.1 x.2.2.2.2.2.1 x.2.2.2.2.2.2⟩
noncomputable def T : FnText := ⟨(conv [] (bodyOf Tryz.f44) 0).1, Tryz.f44.results.toList, 11, [], [.ag [.d (.int .i64) none, .d (.int .i64) none, .d (.sl (.pair (.int .i64) (.pair (.int .i64) (.pair (.int .i64) (.pair (.int .i64) (.int .i64)))))) none, .d (.int .i64) none, .d .str none, .d .str none, .d (.int .i64) none]], [.d .bool none]⟩
noncomputable def tbl (k : Nat) : Tbl := [(84, spec_l25Good.spec k), (40, spec_l27Log.spec k)]
theorem e (k : Nat) (o : Nat → St → Option (Bool)) (a0_0 a0_1 : Int) (l0_2 : List (Int × Int × Int × Int × Int)) (a0_3 : Int) (a0_4 a0_5 : ByteArray) (a0_6 : Int) : T.main tyt (tbl k) o (a0_0, a0_1, l0_2, a0_3, a0_4, a0_5, a0_6) = m k a0_0 a0_1 l0_2 a0_3 a0_4 a0_5 a0_6 := by kernel_rfl
theorem ok : T.ok = true := by kernel_rfl
theorem tblok (k : Nat) : TblOk Tryz.prog (tbl k) := TblOk.cons (spec_l25Good.sound k) (TblOk.cons (spec_l27Log.sound k) (TblOk.nil _))
theorem sound (k : Nat) : Sound Tryz.prog 44 (spec k) := by
  have h := fn_ok (F := T) (tbl := tbl) mixed tyok Tryz.func44 (by kernel_rfl) (c0 := bodyOf Tryz.f44) rfl (conv_code _ _ _) rfl rfl ok k (fun j _ => tblok j)
  have e : spec k = ⟨T.ps, T.rs, T.ev tyt tbl k⟩ := congrArg (FnSpec.mk _ _) (funext fun x => ((e k (T.run tyt tbl k) x.1 x.2.1 x.2.2.1 x.2.2.2.1 x.2.2.2.2.1 x.2.2.2.2.2.1 x.2.2.2.2.2.2).trans (by rfl)).symm)
  rw [e]
  exact h
end spec_l28Good

namespace spec_l1Cur_of
/-! ### spec_l1Cur_of: function 110 -/
def m (k : Nat) (l0_0 : List Int) (a0_1 a0_2 : Int) (l1 : List ByteArray) : Option (ByteArray × List Int × Int × Int) := ((spec_l1Cur_pick.f k l0_0 a0_1 a0_2 (l1.length : Int)).bind fun r1 => ((chk l1.length r1.1).bind fun i2 => (some ((l1.getD i2 ByteArray.empty), r1.2.1, r1.2.2.1, r1.2.2.2))))
def f (k : Nat) (l0_0 : List Int) (a0_1 a0_2 : Int) (l1 : List ByteArray) : Option (ByteArray × List Int × Int × Int) := m k l0_0 a0_1 a0_2 l1
noncomputable def spec (k : Nat) : FnSpec := ⟨[.bx [.d (.sl (.int .u8)) none, .d (.int .i64) none, .d (.int .u64) none], .d (.sl .str) none], [.d .str none], fun x => f k x.1 x.2.1 x.2.2.1 x.2.2.2⟩
noncomputable def T : FnText := ⟨(conv [] (bodyOf Tryz.f110) 0).1, Tryz.f110.results.toList, 12, [], [.bx [.d (.sl (.int .u8)) none, .d (.int .i64) none, .d (.int .u64) none], .d (.sl .str) none], [.d .str none]⟩
noncomputable def tbl (k : Nat) : Tbl := [(59, spec_l1Cur_pick.spec k)]
theorem e (k : Nat) (o : Nat → St → Option (ByteArray × List Int × Int × Int)) (l0_0 : List Int) (a0_1 a0_2 : Int) (l1 : List ByteArray) : T.main tyt (tbl k) o (l0_0, a0_1, a0_2, l1) = m k l0_0 a0_1 a0_2 l1 := by kernel_rfl
theorem ok : T.ok = true := by kernel_rfl
theorem tblok (k : Nat) : TblOk Tryz.prog (tbl k) := TblOk.cons (spec_l1Cur_pick.sound k) (TblOk.nil _)
theorem sound (k : Nat) : Sound Tryz.prog 110 (spec k) := by
  have h := fn_ok (F := T) (tbl := tbl) mixed tyok Tryz.func110 (by kernel_rfl) (c0 := bodyOf Tryz.f110) rfl (conv_code _ _ _) rfl rfl ok k (fun j _ => tblok j)
  have e : spec k = ⟨T.ps, T.rs, T.ev tyt tbl k⟩ := congrArg (FnSpec.mk _ _) (funext fun x => ((e k (T.run tyt tbl k) x.1 x.2.1 x.2.2.1 x.2.2.2).trans (by rfl)).symm)
  rw [e]
  exact h
end spec_l1Cur_of

namespace spec_l1Cur_of_2
/-! ### spec_l1Cur_of_2: function 110 -/
def m (k : Nat) (l0_0 : List Int) (a0_1 a0_2 : Int) (l1 : List ByteArray) : Option (ByteArray × List Int × Int × Int × List ByteArray) := ((spec_l1Cur_pick.f k l0_0 a0_1 a0_2 (l1.length : Int)).bind fun r1 => ((chk l1.length r1.1).bind fun i2 => (some ((l1.getD i2 ByteArray.empty), r1.2.1, r1.2.2.1, r1.2.2.2, l1))))
def f (k : Nat) (l0_0 : List Int) (a0_1 a0_2 : Int) (l1 : List ByteArray) : Option (ByteArray × List Int × Int × Int × List ByteArray) := m k l0_0 a0_1 a0_2 l1
noncomputable def spec (k : Nat) : FnSpec := ⟨[.bx [.d (.sl (.int .u8)) none, .d (.int .i64) none, .d (.int .u64) none], .io 9 .str], [.d .str none], fun x => f k x.1 x.2.1 x.2.2.1 x.2.2.2⟩
noncomputable def T : FnText := ⟨(conv [] (bodyOf Tryz.f110) 0).1, Tryz.f110.results.toList, 12, [], [.bx [.d (.sl (.int .u8)) none, .d (.int .i64) none, .d (.int .u64) none], .io 9 .str], [.d .str none]⟩
noncomputable def tbl (k : Nat) : Tbl := [(59, spec_l1Cur_pick.spec k)]
theorem e (k : Nat) (o : Nat → St → Option (ByteArray × List Int × Int × Int × List ByteArray)) (l0_0 : List Int) (a0_1 a0_2 : Int) (l1 : List ByteArray) : T.main tyt (tbl k) o (l0_0, a0_1, a0_2, l1) = m k l0_0 a0_1 a0_2 l1 := by kernel_rfl
theorem ok : T.ok = true := by kernel_rfl
theorem tblok (k : Nat) : TblOk Tryz.prog (tbl k) := TblOk.cons (spec_l1Cur_pick.sound k) (TblOk.nil _)
theorem sound (k : Nat) : Sound Tryz.prog 110 (spec k) := by
  have h := fn_ok (F := T) (tbl := tbl) mixed tyok Tryz.func110 (by kernel_rfl) (c0 := bodyOf Tryz.f110) rfl (conv_code _ _ _) rfl rfl ok k (fun j _ => tblok j)
  have e : spec k = ⟨T.ps, T.rs, T.ev tyt tbl k⟩ := congrArg (FnSpec.mk _ _) (funext fun x => ((e k (T.run tyt tbl k) x.1 x.2.1 x.2.2.1 x.2.2.2).trans (by rfl)).symm)
  rw [e]
  exact h
end spec_l1Cur_of_2

namespace spec_l1Cur_command
/-! ### spec_l1Cur_command: function 60 -/
def b5 (k : Nat) (l0_5 : List Int) (x1_5 x2_5 x3_5 x4_5 x5_5 : Int) (x6_5 x7_5 : ByteArray) (x8_5 : Int) (x9_5 : Bool) : Option (ByteArray × List Int × Int × Int) := (cond x9_5 (if x3_5 = 1 then ((catS (⟨#[119, 97, 105, 116, 32]⟩ : ByteArray) x7_5).bind fun s7 => (some (s7, l0_5, x1_5, x2_5))) else (if x3_5 = 2 then ((catS (⟨#[111, 114, 100, 101, 114, 32]⟩ : ByteArray) x7_5).bind fun s8 => (some (s8, l0_5, x1_5, x2_5))) else (if x3_5 = 3 then ((catS (⟨#[119, 97, 114, 112, 32]⟩ : ByteArray) x6_5).bind fun s9 => ((catS s9 (⟨#[32]⟩ : ByteArray)).bind fun s10 => ((catS s10 x7_5).bind fun s11 => (some (s11, l0_5, x1_5, x2_5))))) else (if x3_5 = 4 then ((catS (⟨#[119, 101, 97, 118, 101, 32]⟩ : ByteArray) x6_5).bind fun s12 => ((catS s12 (⟨#[32]⟩ : ByteArray)).bind fun s13 => ((catS s13 x7_5).bind fun s14 => (some (s14, l0_5, x1_5, x2_5))))) else (if x3_5 = 5 then ((catS (⟨#[116, 97, 107, 101, 32]⟩ : ByteArray) x6_5).bind fun s15 => (some (s15, l0_5, x1_5, x2_5))) else (if x3_5 = 6 then ((catS (⟨#[119, 97, 115, 104, 32]⟩ : ByteArray) x6_5).bind fun s16 => (some (s16, l0_5, x1_5, x2_5))) else ((catS (⟨#[115, 101, 108, 108, 32]⟩ : ByteArray) x6_5).bind fun s17 => ((catS s17 (⟨#[32]⟩ : ByteArray)).bind fun s18 => ((catS s18 x7_5).bind fun s19 => (some (s19, l0_5, x1_5, x2_5))))))))))) (if x8_5 = 4 then ((catS (⟨#[99, 97, 114, 112, 101, 116, 32]⟩ : ByteArray) x6_5).bind fun s20 => ((spec_l1Cur_of_2.f k l0_5 x1_5 x2_5 [(⟨#[100, 97, 121]⟩ : ByteArray), (⟨#[109, 111, 110, 101, 121]⟩ : ByteArray), (⟨#[102, 114, 101, 101]⟩ : ByteArray), (⟨#[114, 111, 119, 115]⟩ : ByteArray), (⟨#[115, 116, 97, 116, 101, 115]⟩ : ByteArray), (⟨#[110, 101, 120, 116]⟩ : ByteArray), s20, (⟨#[99, 97, 114, 112, 101, 116, 32, 48]⟩ : ByteArray)]).bind fun r21 => (some (r21.1, r21.2.1, r21.2.2.1, r21.2.2.2.1)))) else ((spec_l1Cur_of_2.f k l0_5 x1_5 x2_5 [(⟨#[]⟩ : ByteArray), (⟨#[119, 104, 97, 116]⟩ : ByteArray), (⟨#[119, 97, 114, 112, 32, 48]⟩ : ByteArray), (⟨#[111, 114, 100, 101, 114, 32, 120]⟩ : ByteArray), (⟨#[119, 97, 105, 116, 32, 48]⟩ : ByteArray), (⟨#[116, 97, 107, 101]⟩ : ByteArray), (⟨#[115, 101, 108, 108, 32, 49, 32, 50, 32, 51]⟩ : ByteArray), (⟨#[119, 97, 115, 104, 32, 57]⟩ : ByteArray), (⟨#[97, 64, 98]⟩ : ByteArray), (⟨#[100, 97, 121, 32, 49]⟩ : ByteArray), (⟨#[99, 97, 114, 112, 101, 116, 32, 45, 49]⟩ : ByteArray)]).bind fun r22 => (some (r22.1, r22.2.1, r22.2.2.1, r22.2.2.2.1)))))
def l5 : Nat → List Int → Int → Int → Int → Int → Int → ByteArray → ByteArray → Int → Bool → Option (ByteArray × List Int × Int × Int)
  | 0, _, _, _, _, _, _, _, _, _, _ => none
  | k + 1, l0_5, x1_5, x2_5, x3_5, x4_5, x5_5, x6_5, x7_5, x8_5, x9_5 => b5 k l0_5 x1_5 x2_5 x3_5 x4_5 x5_5 x6_5 x7_5 x8_5 x9_5
def m (o5 : List Int → Int → Int → Int → Int → Int → ByteArray → ByteArray → Int → Bool → Option (ByteArray × List Int × Int × Int)) (k : Nat) (l0_0 : List Int) (a0_1 a0_2 a1_0 a1_1 : Int) (l1_2 : List (Int × Int × Int × Int × Int)) (a1_3 : Int) (a1_4 a1_5 : ByteArray) (a1_6 : Int) : Option (ByteArray × List Int × Int × Int) := ((spec_l1Cur_shopStep.f k l0_0 a0_1 a0_2 a1_0 a1_1 l1_2 a1_3).bind fun r1 => ((spec_l1Most.f k 0 r1.2.1).bind fun r2 => ((spec_l1Num.f k r2).bind fun r3 => ((spec_l1Most.f k 0 r1.2.2.1).bind fun r4 => ((spec_l1Num.f k r4).bind fun r5 => ((spec_l1Cur_pick.f k r1.2.2.2.1 r1.2.2.2.2.1 r1.2.2.2.2.2 6).bind fun r6 => (if r6.1 = 0 then (o5 r6.2.1 r6.2.2.1 r6.2.2.2 r1.1 r1.2.1 r1.2.2.1 r3 r5 r6.1 (decide (r6.1 = 0))) else (if r6.1 = 1 then (o5 r6.2.1 r6.2.2.1 r6.2.2.2 r1.1 r1.2.1 r1.2.2.1 r3 r5 r6.1 (decide (r6.1 = 1))) else (if r6.1 = 2 then (o5 r6.2.1 r6.2.2.1 r6.2.2.2 r1.1 r1.2.1 r1.2.2.1 r3 r5 r6.1 (decide (r6.1 = 2))) else (o5 r6.2.1 r6.2.2.1 r6.2.2.2 r1.1 r1.2.1 r1.2.2.1 r3 r5 r6.1 (decide (r6.1 = 3))))))))))))
def f (k : Nat) (l0_0 : List Int) (a0_1 a0_2 a1_0 a1_1 : Int) (l1_2 : List (Int × Int × Int × Int × Int)) (a1_3 : Int) (a1_4 a1_5 : ByteArray) (a1_6 : Int) : Option (ByteArray × List Int × Int × Int) := m (spec_l1Cur_command.l5 k) k l0_0 a0_1 a0_2 a1_0 a1_1 l1_2 a1_3 a1_4 a1_5 a1_6
noncomputable def spec (k : Nat) : FnSpec := ⟨[.bx [.d (.sl (.int .u8)) none, .d (.int .i64) none, .d (.int .u64) none], .ag [.d (.int .i64) none, .d (.int .i64) none, .d (.sl (.pair (.int .i64) (.pair (.int .i64) (.pair (.int .i64) (.pair (.int .i64) (.int .i64)))))) none, .d (.int .i64) none, .d .str none, .d .str none, .d (.int .i64) none]], [.d .str none], fun x => f k x.1 x.2.1 x.2.2.1 x.2.2.2.1 x.2.2.2.2.1 x.2.2.2.2.2.1 x.2.2.2.2.2.2.1 x.2.2.2.2.2.2.2.1 x.2.2.2.2.2.2.2.2.1 x.2.2.2.2.2.2.2.2.2⟩
def S5 (l0_5 : List Int) (x1_5 x2_5 x3_5 x4_5 x5_5 : Int) (x6_5 x7_5 : ByteArray) (x8_5 : Int) (x9_5 : Bool) : St := ⟨[(0, .ptr 0 0), (5, .ptr 100 0), (6, .val .str x6_5), (7, .val .str x7_5), (21, .val (.int .i64) x8_5), (22, .val .bool x9_5)], [(100, some (.box [.val (.int .i64) x3_5, .val (.int .i64) x4_5, .val (.int .i64) x5_5])), (0, some (.box [.val (.sl (.int .u8)) l0_5, .val (.int .i64) x1_5, .val (.int .u64) x2_5]))], 1000⟩
noncomputable def T : FnText := ⟨(conv [5] (bodyOf Tryz.f60) 0).1, Tryz.f60.results.toList, 74, [(5, [(0, .bx 0 [.rd (.sl (.int .u8)), .rd (.int .i64), .rd (.int .u64)]), (5, .bx 100 [.rd (.int .i64), .rd (.int .i64), .rd (.int .i64)]), (6, .rd .str), (7, .rd .str), (21, .rd (.int .i64)), (22, .rd .bool)])], [.bx [.d (.sl (.int .u8)) none, .d (.int .i64) none, .d (.int .u64) none], .ag [.d (.int .i64) none, .d (.int .i64) none, .d (.sl (.pair (.int .i64) (.pair (.int .i64) (.pair (.int .i64) (.pair (.int .i64) (.int .i64)))))) none, .d (.int .i64) none, .d .str none, .d .str none, .d (.int .i64) none]], [.d .str none]⟩
noncomputable def tbl (k : Nat) : Tbl := [(108, spec_l1Cur_shopStep.spec k), (109, spec_l1Most.spec k), (73, spec_l1Num.spec k), (59, spec_l1Cur_pick.spec k), (110, spec_l1Cur_of_2.spec k)]
theorem e5 (k : Nat) (o : Nat → St → Option (ByteArray × List Int × Int × Int)) (l0_5 : List Int) (x1_5 x2_5 x3_5 x4_5 x5_5 : Int) (x6_5 x7_5 : ByteArray) (x8_5 : Int) (x9_5 : Bool) : T.step tyt (tbl k) o 5 (S5 l0_5 x1_5 x2_5 x3_5 x4_5 x5_5 x6_5 x7_5 x8_5 x9_5) = b5 k l0_5 x1_5 x2_5 x3_5 x4_5 x5_5 x6_5 x7_5 x8_5 x9_5 := by kernel_rfl
theorem e (k : Nat) (o : Nat → St → Option (ByteArray × List Int × Int × Int)) (l0_0 : List Int) (a0_1 a0_2 a1_0 a1_1 : Int) (l1_2 : List (Int × Int × Int × Int × Int)) (a1_3 : Int) (a1_4 a1_5 : ByteArray) (a1_6 : Int) : T.main tyt (tbl k) o (l0_0, a0_1, a0_2, a1_0, a1_1, l1_2, a1_3, a1_4, a1_5, a1_6) = m (fun l0_5 x1_5 x2_5 x3_5 x4_5 x5_5 x6_5 x7_5 x8_5 x9_5 => o 5 (S5 l0_5 x1_5 x2_5 x3_5 x4_5 x5_5 x6_5 x7_5 x8_5 x9_5)) k l0_0 a0_1 a0_2 a1_0 a1_1 l1_2 a1_3 a1_4 a1_5 a1_6 := by kernel_rfl
theorem ok : T.ok = true := by kernel_rfl
theorem run (k : Nat) : (∀ (l0_5 : List Int) (x1_5 x2_5 x3_5 x4_5 x5_5 : Int) (x6_5 x7_5 : ByteArray) (x8_5 : Int) (x9_5 : Bool), T.run tyt tbl k 5 (S5 l0_5 x1_5 x2_5 x3_5 x4_5 x5_5 x6_5 x7_5 x8_5 x9_5) = spec_l1Cur_command.l5 k l0_5 x1_5 x2_5 x3_5 x4_5 x5_5 x6_5 x7_5 x8_5 x9_5) := by
  induction k with
  | zero => exact fun l0_5 x1_5 x2_5 x3_5 x4_5 x5_5 x6_5 x7_5 x8_5 x9_5 => rfl
  | succ k ih =>
    exact fun l0_5 x1_5 x2_5 x3_5 x4_5 x5_5 x6_5 x7_5 x8_5 x9_5 => by
      exact (e5 k (T.run tyt tbl k) l0_5 x1_5 x2_5 x3_5 x4_5 x5_5 x6_5 x7_5 x8_5 x9_5).trans (by rfl)
theorem tblok (k : Nat) : TblOk Tryz.prog (tbl k) := TblOk.cons (spec_l1Cur_shopStep.sound k) (TblOk.cons (spec_l1Most.sound k) (TblOk.cons (spec_l1Num.sound k) (TblOk.cons (spec_l1Cur_pick.sound k) (TblOk.cons (spec_l1Cur_of_2.sound k) (TblOk.nil _)))))
theorem sound (k : Nat) : Sound Tryz.prog 60 (spec k) := by
  have h := fn_ok (F := T) (tbl := tbl) mixed tyok Tryz.func60 (by kernel_rfl) (c0 := bodyOf Tryz.f60) rfl (conv_code _ _ _) rfl rfl ok k (fun j _ => tblok j)
  have q5 : (fun l0_5 x1_5 x2_5 x3_5 x4_5 x5_5 x6_5 x7_5 x8_5 x9_5 => T.run tyt tbl k 5 (S5 l0_5 x1_5 x2_5 x3_5 x4_5 x5_5 x6_5 x7_5 x8_5 x9_5)) = spec_l1Cur_command.l5 k := by funext l0_5 x1_5 x2_5 x3_5 x4_5 x5_5 x6_5 x7_5 x8_5 x9_5; exact (run k) l0_5 x1_5 x2_5 x3_5 x4_5 x5_5 x6_5 x7_5 x8_5 x9_5
  have e : spec k = ⟨T.ps, T.rs, T.ev tyt tbl k⟩ := congrArg (FnSpec.mk _ _) (funext fun x => ((e k (T.run tyt tbl k) x.1 x.2.1 x.2.2.1 x.2.2.2.1 x.2.2.2.2.1 x.2.2.2.2.2.1 x.2.2.2.2.2.2.1 x.2.2.2.2.2.2.2.1 x.2.2.2.2.2.2.2.2.1 x.2.2.2.2.2.2.2.2.2).trans (by rw [q5]; rfl)).symm)
  rw [e]
  exact h
end spec_l1Cur_command

namespace spec_l1Cur_command_2
/-! ### spec_l1Cur_command_2: function 60 -/
def b5 (k : Nat) (l0_5 : List Int) (x1_5 x2_5 x3_5 x4_5 : Int) (l5_5 : List (Int × Int × Int × Int × Int)) (x6_5 : Int) (x7_5 x8_5 : ByteArray) (x9_5 x10_5 x11_5 x12_5 : Int) (x13_5 x14_5 : ByteArray) (x15_5 : Int) (x16_5 : Bool) : Option (ByteArray × List Int × Int × Int × List (Int × Int × Int × Int × Int)) := (cond x16_5 (if x10_5 = 1 then ((catS (⟨#[119, 97, 105, 116, 32]⟩ : ByteArray) x14_5).bind fun s7 => (some (s7, l0_5, x1_5, x2_5, l5_5))) else (if x10_5 = 2 then ((catS (⟨#[111, 114, 100, 101, 114, 32]⟩ : ByteArray) x14_5).bind fun s8 => (some (s8, l0_5, x1_5, x2_5, l5_5))) else (if x10_5 = 3 then ((catS (⟨#[119, 97, 114, 112, 32]⟩ : ByteArray) x13_5).bind fun s9 => ((catS s9 (⟨#[32]⟩ : ByteArray)).bind fun s10 => ((catS s10 x14_5).bind fun s11 => (some (s11, l0_5, x1_5, x2_5, l5_5))))) else (if x10_5 = 4 then ((catS (⟨#[119, 101, 97, 118, 101, 32]⟩ : ByteArray) x13_5).bind fun s12 => ((catS s12 (⟨#[32]⟩ : ByteArray)).bind fun s13 => ((catS s13 x14_5).bind fun s14 => (some (s14, l0_5, x1_5, x2_5, l5_5))))) else (if x10_5 = 5 then ((catS (⟨#[116, 97, 107, 101, 32]⟩ : ByteArray) x13_5).bind fun s15 => (some (s15, l0_5, x1_5, x2_5, l5_5))) else (if x10_5 = 6 then ((catS (⟨#[119, 97, 115, 104, 32]⟩ : ByteArray) x13_5).bind fun s16 => (some (s16, l0_5, x1_5, x2_5, l5_5))) else ((catS (⟨#[115, 101, 108, 108, 32]⟩ : ByteArray) x13_5).bind fun s17 => ((catS s17 (⟨#[32]⟩ : ByteArray)).bind fun s18 => ((catS s18 x14_5).bind fun s19 => (some (s19, l0_5, x1_5, x2_5, l5_5))))))))))) (if x15_5 = 4 then ((catS (⟨#[99, 97, 114, 112, 101, 116, 32]⟩ : ByteArray) x13_5).bind fun s20 => ((spec_l1Cur_of_2.f k l0_5 x1_5 x2_5 [(⟨#[100, 97, 121]⟩ : ByteArray), (⟨#[109, 111, 110, 101, 121]⟩ : ByteArray), (⟨#[102, 114, 101, 101]⟩ : ByteArray), (⟨#[114, 111, 119, 115]⟩ : ByteArray), (⟨#[115, 116, 97, 116, 101, 115]⟩ : ByteArray), (⟨#[110, 101, 120, 116]⟩ : ByteArray), s20, (⟨#[99, 97, 114, 112, 101, 116, 32, 48]⟩ : ByteArray)]).bind fun r21 => (some (r21.1, r21.2.1, r21.2.2.1, r21.2.2.2.1, l5_5)))) else ((spec_l1Cur_of_2.f k l0_5 x1_5 x2_5 [(⟨#[]⟩ : ByteArray), (⟨#[119, 104, 97, 116]⟩ : ByteArray), (⟨#[119, 97, 114, 112, 32, 48]⟩ : ByteArray), (⟨#[111, 114, 100, 101, 114, 32, 120]⟩ : ByteArray), (⟨#[119, 97, 105, 116, 32, 48]⟩ : ByteArray), (⟨#[116, 97, 107, 101]⟩ : ByteArray), (⟨#[115, 101, 108, 108, 32, 49, 32, 50, 32, 51]⟩ : ByteArray), (⟨#[119, 97, 115, 104, 32, 57]⟩ : ByteArray), (⟨#[97, 64, 98]⟩ : ByteArray), (⟨#[100, 97, 121, 32, 49]⟩ : ByteArray), (⟨#[99, 97, 114, 112, 101, 116, 32, 45, 49]⟩ : ByteArray)]).bind fun r22 => (some (r22.1, r22.2.1, r22.2.2.1, r22.2.2.2.1, l5_5)))))
def l5 : Nat → List Int → Int → Int → Int → Int → (List (Int × Int × Int × Int × Int)) → Int → ByteArray → ByteArray → Int → Int → Int → Int → ByteArray → ByteArray → Int → Bool → Option (ByteArray × List Int × Int × Int × List (Int × Int × Int × Int × Int))
  | 0, _, _, _, _, _, _, _, _, _, _, _, _, _, _, _, _, _ => none
  | k + 1, l0_5, x1_5, x2_5, x3_5, x4_5, l5_5, x6_5, x7_5, x8_5, x9_5, x10_5, x11_5, x12_5, x13_5, x14_5, x15_5, x16_5 => b5 k l0_5 x1_5 x2_5 x3_5 x4_5 l5_5 x6_5 x7_5 x8_5 x9_5 x10_5 x11_5 x12_5 x13_5 x14_5 x15_5 x16_5
def m (o5 : List Int → Int → Int → Int → Int → (List (Int × Int × Int × Int × Int)) → Int → ByteArray → ByteArray → Int → Int → Int → Int → ByteArray → ByteArray → Int → Bool → Option (ByteArray × List Int × Int × Int × List (Int × Int × Int × Int × Int))) (k : Nat) (l0_0 : List Int) (a0_1 a0_2 a1_0 a1_1 : Int) (l1_2 : List (Int × Int × Int × Int × Int)) (a1_3 : Int) (a1_4 a1_5 : ByteArray) (a1_6 : Int) : Option (ByteArray × List Int × Int × Int × List (Int × Int × Int × Int × Int)) := ((spec_l1Cur_shopStep_2.f k l0_0 a0_1 a0_2 a1_0 a1_1 l1_2 a1_3).bind fun r1 => ((spec_l1Most.f k 0 r1.2.1).bind fun r2 => ((spec_l1Num.f k r2).bind fun r3 => ((spec_l1Most.f k 0 r1.2.2.1).bind fun r4 => ((spec_l1Num.f k r4).bind fun r5 => ((spec_l1Cur_pick.f k r1.2.2.2.1 r1.2.2.2.2.1 r1.2.2.2.2.2.1 6).bind fun r6 => (if r6.1 = 0 then (o5 r6.2.1 r6.2.2.1 r6.2.2.2 a1_0 a1_1 r1.2.2.2.2.2.2 a1_3 a1_4 a1_5 a1_6 r1.1 r1.2.1 r1.2.2.1 r3 r5 r6.1 (decide (r6.1 = 0))) else (if r6.1 = 1 then (o5 r6.2.1 r6.2.2.1 r6.2.2.2 a1_0 a1_1 r1.2.2.2.2.2.2 a1_3 a1_4 a1_5 a1_6 r1.1 r1.2.1 r1.2.2.1 r3 r5 r6.1 (decide (r6.1 = 1))) else (if r6.1 = 2 then (o5 r6.2.1 r6.2.2.1 r6.2.2.2 a1_0 a1_1 r1.2.2.2.2.2.2 a1_3 a1_4 a1_5 a1_6 r1.1 r1.2.1 r1.2.2.1 r3 r5 r6.1 (decide (r6.1 = 2))) else (o5 r6.2.1 r6.2.2.1 r6.2.2.2 a1_0 a1_1 r1.2.2.2.2.2.2 a1_3 a1_4 a1_5 a1_6 r1.1 r1.2.1 r1.2.2.1 r3 r5 r6.1 (decide (r6.1 = 3))))))))))))
def f (k : Nat) (l0_0 : List Int) (a0_1 a0_2 a1_0 a1_1 : Int) (l1_2 : List (Int × Int × Int × Int × Int)) (a1_3 : Int) (a1_4 a1_5 : ByteArray) (a1_6 : Int) : Option (ByteArray × List Int × Int × Int × List (Int × Int × Int × Int × Int)) := m (spec_l1Cur_command_2.l5 k) k l0_0 a0_1 a0_2 a1_0 a1_1 l1_2 a1_3 a1_4 a1_5 a1_6
noncomputable def spec (k : Nat) : FnSpec := ⟨[.bx [.d (.sl (.int .u8)) none, .d (.int .i64) none, .d (.int .u64) none], .ag [.d (.int .i64) none, .d (.int .i64) none, .io 108 (.pair (.int .i64) (.pair (.int .i64) (.pair (.int .i64) (.pair (.int .i64) (.int .i64))))), .d (.int .i64) none, .d .str none, .d .str none, .d (.int .i64) none]], [.d .str none], fun x => f k x.1 x.2.1 x.2.2.1 x.2.2.2.1 x.2.2.2.2.1 x.2.2.2.2.2.1 x.2.2.2.2.2.2.1 x.2.2.2.2.2.2.2.1 x.2.2.2.2.2.2.2.2.1 x.2.2.2.2.2.2.2.2.2⟩
def S5 (l0_5 : List Int) (x1_5 x2_5 x3_5 x4_5 : Int) (l5_5 : List (Int × Int × Int × Int × Int)) (x6_5 : Int) (x7_5 x8_5 : ByteArray) (x9_5 x10_5 x11_5 x12_5 : Int) (x13_5 x14_5 : ByteArray) (x15_5 : Int) (x16_5 : Bool) : St := ⟨[(0, .ptr 0 0), (1, .agg [.val (.int .i64) x3_5, .val (.int .i64) x4_5, .ref 1, .val (.int .i64) x6_5, .val .str x7_5, .val .str x8_5, .val (.int .i64) x9_5]), (5, .ptr 100 0), (6, .val .str x13_5), (7, .val .str x14_5), (21, .val (.int .i64) x15_5), (22, .val .bool x16_5)], [(100, some (.box [.val (.int .i64) x10_5, .val (.int .i64) x11_5, .val (.int .i64) x12_5])), (1, some (.row 108 (.pair (.int .i64) (.pair (.int .i64) (.pair (.int .i64) (.pair (.int .i64) (.int .i64))))) l5_5)), (0, some (.box [.val (.sl (.int .u8)) l0_5, .val (.int .i64) x1_5, .val (.int .u64) x2_5]))], 1000⟩
noncomputable def T : FnText := ⟨(conv [5] (bodyOf Tryz.f60) 0).1, Tryz.f60.results.toList, 74, [(5, [(0, .bx 0 [.rd (.sl (.int .u8)), .rd (.int .i64), .rd (.int .u64)]), (1, .ag [.rd (.int .i64), .rd (.int .i64), .own 108 (.pair (.int .i64) (.pair (.int .i64) (.pair (.int .i64) (.pair (.int .i64) (.int .i64))))) 1, .rd (.int .i64), .rd .str, .rd .str, .rd (.int .i64)]), (5, .bx 100 [.rd (.int .i64), .rd (.int .i64), .rd (.int .i64)]), (6, .rd .str), (7, .rd .str), (21, .rd (.int .i64)), (22, .rd .bool)])], [.bx [.d (.sl (.int .u8)) none, .d (.int .i64) none, .d (.int .u64) none], .ag [.d (.int .i64) none, .d (.int .i64) none, .io 108 (.pair (.int .i64) (.pair (.int .i64) (.pair (.int .i64) (.pair (.int .i64) (.int .i64))))), .d (.int .i64) none, .d .str none, .d .str none, .d (.int .i64) none]], [.d .str none]⟩
noncomputable def tbl (k : Nat) : Tbl := [(108, spec_l1Cur_shopStep_2.spec k), (109, spec_l1Most.spec k), (73, spec_l1Num.spec k), (59, spec_l1Cur_pick.spec k), (110, spec_l1Cur_of_2.spec k)]
theorem e5 (k : Nat) (o : Nat → St → Option (ByteArray × List Int × Int × Int × List (Int × Int × Int × Int × Int))) (l0_5 : List Int) (x1_5 x2_5 x3_5 x4_5 : Int) (l5_5 : List (Int × Int × Int × Int × Int)) (x6_5 : Int) (x7_5 x8_5 : ByteArray) (x9_5 x10_5 x11_5 x12_5 : Int) (x13_5 x14_5 : ByteArray) (x15_5 : Int) (x16_5 : Bool) : T.step tyt (tbl k) o 5 (S5 l0_5 x1_5 x2_5 x3_5 x4_5 l5_5 x6_5 x7_5 x8_5 x9_5 x10_5 x11_5 x12_5 x13_5 x14_5 x15_5 x16_5) = b5 k l0_5 x1_5 x2_5 x3_5 x4_5 l5_5 x6_5 x7_5 x8_5 x9_5 x10_5 x11_5 x12_5 x13_5 x14_5 x15_5 x16_5 := by kernel_rfl
theorem e (k : Nat) (o : Nat → St → Option (ByteArray × List Int × Int × Int × List (Int × Int × Int × Int × Int))) (l0_0 : List Int) (a0_1 a0_2 a1_0 a1_1 : Int) (l1_2 : List (Int × Int × Int × Int × Int)) (a1_3 : Int) (a1_4 a1_5 : ByteArray) (a1_6 : Int) : T.main tyt (tbl k) o (l0_0, a0_1, a0_2, a1_0, a1_1, l1_2, a1_3, a1_4, a1_5, a1_6) = m (fun l0_5 x1_5 x2_5 x3_5 x4_5 l5_5 x6_5 x7_5 x8_5 x9_5 x10_5 x11_5 x12_5 x13_5 x14_5 x15_5 x16_5 => o 5 (S5 l0_5 x1_5 x2_5 x3_5 x4_5 l5_5 x6_5 x7_5 x8_5 x9_5 x10_5 x11_5 x12_5 x13_5 x14_5 x15_5 x16_5)) k l0_0 a0_1 a0_2 a1_0 a1_1 l1_2 a1_3 a1_4 a1_5 a1_6 := by kernel_rfl
theorem ok : T.ok = true := by kernel_rfl
theorem run (k : Nat) : (∀ (l0_5 : List Int) (x1_5 x2_5 x3_5 x4_5 : Int) (l5_5 : List (Int × Int × Int × Int × Int)) (x6_5 : Int) (x7_5 x8_5 : ByteArray) (x9_5 x10_5 x11_5 x12_5 : Int) (x13_5 x14_5 : ByteArray) (x15_5 : Int) (x16_5 : Bool), T.run tyt tbl k 5 (S5 l0_5 x1_5 x2_5 x3_5 x4_5 l5_5 x6_5 x7_5 x8_5 x9_5 x10_5 x11_5 x12_5 x13_5 x14_5 x15_5 x16_5) = spec_l1Cur_command_2.l5 k l0_5 x1_5 x2_5 x3_5 x4_5 l5_5 x6_5 x7_5 x8_5 x9_5 x10_5 x11_5 x12_5 x13_5 x14_5 x15_5 x16_5) := by
  induction k with
  | zero => exact fun l0_5 x1_5 x2_5 x3_5 x4_5 l5_5 x6_5 x7_5 x8_5 x9_5 x10_5 x11_5 x12_5 x13_5 x14_5 x15_5 x16_5 => rfl
  | succ k ih =>
    exact fun l0_5 x1_5 x2_5 x3_5 x4_5 l5_5 x6_5 x7_5 x8_5 x9_5 x10_5 x11_5 x12_5 x13_5 x14_5 x15_5 x16_5 => by
      exact (e5 k (T.run tyt tbl k) l0_5 x1_5 x2_5 x3_5 x4_5 l5_5 x6_5 x7_5 x8_5 x9_5 x10_5 x11_5 x12_5 x13_5 x14_5 x15_5 x16_5).trans (by rfl)
theorem tblok (k : Nat) : TblOk Tryz.prog (tbl k) := TblOk.cons (spec_l1Cur_shopStep_2.sound k) (TblOk.cons (spec_l1Most.sound k) (TblOk.cons (spec_l1Num.sound k) (TblOk.cons (spec_l1Cur_pick.sound k) (TblOk.cons (spec_l1Cur_of_2.sound k) (TblOk.nil _)))))
theorem sound (k : Nat) : Sound Tryz.prog 60 (spec k) := by
  have h := fn_ok (F := T) (tbl := tbl) mixed tyok Tryz.func60 (by kernel_rfl) (c0 := bodyOf Tryz.f60) rfl (conv_code _ _ _) rfl rfl ok k (fun j _ => tblok j)
  have q5 : (fun l0_5 x1_5 x2_5 x3_5 x4_5 l5_5 x6_5 x7_5 x8_5 x9_5 x10_5 x11_5 x12_5 x13_5 x14_5 x15_5 x16_5 => T.run tyt tbl k 5 (S5 l0_5 x1_5 x2_5 x3_5 x4_5 l5_5 x6_5 x7_5 x8_5 x9_5 x10_5 x11_5 x12_5 x13_5 x14_5 x15_5 x16_5)) = spec_l1Cur_command_2.l5 k := by funext l0_5 x1_5 x2_5 x3_5 x4_5 l5_5 x6_5 x7_5 x8_5 x9_5 x10_5 x11_5 x12_5 x13_5 x14_5 x15_5 x16_5; exact (run k) l0_5 x1_5 x2_5 x3_5 x4_5 l5_5 x6_5 x7_5 x8_5 x9_5 x10_5 x11_5 x12_5 x13_5 x14_5 x15_5 x16_5
  have e : spec k = ⟨T.ps, T.rs, T.ev tyt tbl k⟩ := congrArg (FnSpec.mk _ _) (funext fun x => ((e k (T.run tyt tbl k) x.1 x.2.1 x.2.2.1 x.2.2.2.1 x.2.2.2.2.1 x.2.2.2.2.2.1 x.2.2.2.2.2.2.1 x.2.2.2.2.2.2.2.1 x.2.2.2.2.2.2.2.2.1 x.2.2.2.2.2.2.2.2.2).trans (by rw [q5]; rfl)).symm)
  rw [e]
  exact h
end spec_l1Cur_command_2

namespace spec_l28Own
/-! ### spec_l28Own: function 43 -/
def m (k : Nat) (a0_0 a0_1 : Int) (l0_2 : List (Int × Int × Int × Int × Int)) (a0_3 : Int) (a0_4 a0_5 : ByteArray) (a0_6 : Int) : Option (Int × Int × List (Int × Int × Int × Int × Int) × Int × ByteArray × ByteArray × Int) := ((spec_l25Own.f k a0_0 a0_1 l0_2 a0_3).bind fun r1 => (some (r1.1, r1.2.1, r1.2.2.1, r1.2.2.2, a0_4, a0_5, a0_6)))
def f (k : Nat) (a0_0 a0_1 : Int) (l0_2 : List (Int × Int × Int × Int × Int)) (a0_3 : Int) (a0_4 a0_5 : ByteArray) (a0_6 : Int) : Option (Int × Int × List (Int × Int × Int × Int × Int) × Int × ByteArray × ByteArray × Int) := m k a0_0 a0_1 l0_2 a0_3 a0_4 a0_5 a0_6
noncomputable def spec (k : Nat) : FnSpec := ⟨[.ag [.d (.int .i64) none, .d (.int .i64) none, .d (.sl (.pair (.int .i64) (.pair (.int .i64) (.pair (.int .i64) (.pair (.int .i64) (.int .i64)))))) none, .d (.int .i64) none, .d .str none, .d .str none, .d (.int .i64) none]], [.ag [.d (.int .i64) none, .d (.int .i64) none, .d (.sl (.pair (.int .i64) (.pair (.int .i64) (.pair (.int .i64) (.pair (.int .i64) (.int .i64)))))) (some 108), .d (.int .i64) none, .d .str none, .d .str none, .d (.int .i64) none]], fun x => f k x.1 x.2.1 x.2.2.1 x.2.2.2.1 x.2.2.2.2.1 x.2.2.2.2.2.1 x.2.2.2.2.2.2⟩
noncomputable def T : FnText := ⟨(conv [] (bodyOf Tryz.f43) 0).1, Tryz.f43.results.toList, 9, [], [.ag [.d (.int .i64) none, .d (.int .i64) none, .d (.sl (.pair (.int .i64) (.pair (.int .i64) (.pair (.int .i64) (.pair (.int .i64) (.int .i64)))))) none, .d (.int .i64) none, .d .str none, .d .str none, .d (.int .i64) none]], [.ag [.d (.int .i64) none, .d (.int .i64) none, .d (.sl (.pair (.int .i64) (.pair (.int .i64) (.pair (.int .i64) (.pair (.int .i64) (.int .i64)))))) (some 108), .d (.int .i64) none, .d .str none, .d .str none, .d (.int .i64) none]]⟩
noncomputable def tbl (k : Nat) : Tbl := [(83, spec_l25Own.spec k)]
theorem e (k : Nat) (o : Nat → St → Option (Int × Int × List (Int × Int × Int × Int × Int) × Int × ByteArray × ByteArray × Int)) (a0_0 a0_1 : Int) (l0_2 : List (Int × Int × Int × Int × Int)) (a0_3 : Int) (a0_4 a0_5 : ByteArray) (a0_6 : Int) : T.main tyt (tbl k) o (a0_0, a0_1, l0_2, a0_3, a0_4, a0_5, a0_6) = m k a0_0 a0_1 l0_2 a0_3 a0_4 a0_5 a0_6 := by kernel_rfl
theorem ok : T.ok = true := by kernel_rfl
theorem tblok (k : Nat) : TblOk Tryz.prog (tbl k) := TblOk.cons (spec_l25Own.sound k) (TblOk.nil _)
theorem sound (k : Nat) : Sound Tryz.prog 43 (spec k) := by
  have h := fn_ok (F := T) (tbl := tbl) mixed tyok Tryz.func43 (by kernel_rfl) (c0 := bodyOf Tryz.f43) rfl (conv_code _ _ _) rfl rfl ok k (fun j _ => tblok j)
  have e : spec k = ⟨T.ps, T.rs, T.ev tyt tbl k⟩ := congrArg (FnSpec.mk _ _) (funext fun x => ((e k (T.run tyt tbl k) x.1 x.2.1 x.2.2.1 x.2.2.2.1 x.2.2.2.2.1 x.2.2.2.2.2.1 x.2.2.2.2.2.2).trans (by rfl)).symm)
  rw [e]
  exact h
end spec_l28Own

namespace spec_l1Read
/-! ### spec_l1Read: function 123 -/
def b2 (o10 : ByteArray → ByteArray → Int → Int → Option (Int × Bool)) (k : Nat) (x0_2 x1_2 : ByteArray) : Option (Int × Bool) := ((spec_l1In.f k (x1_2.size : Int) 1 6).bind fun r3 => (cond (!r3) (some (0, false)) (o10 x0_2 x1_2 0 0)))
def b10 (o10 : ByteArray → ByteArray → Int → Int → Option (Int × Bool)) (o17 : ByteArray → Int → Option (Int × Bool)) (k : Nat) (x0_10 x1_10 : ByteArray) (x2_10 x3_10 : Int) : Option (Int × Bool) := (if x3_10 < (x1_10.size : Int) then ((chk x1_10.size x3_10).bind fun i4 => (if (byteAt x1_10 i4) < 48 then (some (0, false)) else ((chk x1_10.size x3_10).bind fun i5 => (if 57 < (byteAt x1_10 i5) then (some (0, false)) else ((chk x1_10.size x3_10).bind fun i6 => (o10 x0_10 x1_10 (w64 ((w64 (10 * x2_10)) + (w64 ((IntKind.u8.wrap ((byteAt x1_10 i6) - 48)))))) (w64 (x3_10 + 1)))))))) else (if (x1_10.size : Int) < (x0_10.size : Int) then (o17 x0_10 (w64 (0 - x2_10))) else (o17 x0_10 x2_10)))
def b17 (k : Nat) (x0_17 : ByteArray) (x1_17 : Int) : Option (Int × Bool) := ((spec_l1Num.f k x1_17).bind fun r7 => (if ¬ r7 = x0_17 then (some (0, false)) else (some (x1_17, true))))
mutual
def l2 : Nat → ByteArray → ByteArray → Option (Int × Bool)
  | 0, _, _ => none
  | k + 1, x0_2, x1_2 => b2 (spec_l1Read.l10 k) k x0_2 x1_2
def l10 : Nat → ByteArray → ByteArray → Int → Int → Option (Int × Bool)
  | 0, _, _, _, _ => none
  | k + 1, x0_10, x1_10, x2_10, x3_10 => b10 (spec_l1Read.l10 k) (spec_l1Read.l17 k) k x0_10 x1_10 x2_10 x3_10
def l17 : Nat → ByteArray → Int → Option (Int × Bool)
  | 0, _, _ => none
  | k + 1, x0_17, x1_17 => b17 k x0_17 x1_17
end
def m (o2 : ByteArray → ByteArray → Option (Int × Bool)) (k : Nat) (a0 : ByteArray) : Option (Int × Bool) := (if 1 < (a0.size : Int) then ((chk a0.size 0).bind fun i1 => (if (byteAt a0 i1) = 45 then ((cut a0.size 1 (a0.size : Int)).bind fun c2 => (o2 a0 (a0.extract c2.1 (c2.1 + c2.2)))) else (o2 a0 a0))) else (o2 a0 a0))
def f (k : Nat) (a0 : ByteArray) : Option (Int × Bool) := m (spec_l1Read.l2 k) k a0
noncomputable def spec (k : Nat) : FnSpec := ⟨[.d .str none], [.d (.int .i64) none, .d .bool none], fun x => f k x⟩
def S2 (x0_2 x1_2 : ByteArray) : St := ⟨[(0, .val .str x0_2), (4, .val .str x1_2)], [], 1000⟩
def S10 (x0_10 x1_10 : ByteArray) (x2_10 x3_10 : Int) : St := ⟨[(0, .val .str x0_10), (4, .val .str x1_10), (5, .val (.int .i64) x2_10), (6, .val (.int .i64) x3_10)], [], 1000⟩
def S17 (x0_17 : ByteArray) (x1_17 : Int) : St := ⟨[(0, .val .str x0_17), (5, .val (.int .i64) x1_17)], [], 1000⟩
noncomputable def T : FnText := ⟨(conv [2, 17] (bodyOf Tryz.f123) 0).1, Tryz.f123.results.toList, 58, [(2, [(0, .rd .str), (4, .rd .str)]), (10, [(0, .rd .str), (4, .rd .str), (5, .rd (.int .i64)), (6, .rd (.int .i64))]), (17, [(0, .rd .str), (5, .rd (.int .i64))])], [.d .str none], [.d (.int .i64) none, .d .bool none]⟩
noncomputable def tbl (k : Nat) : Tbl := [(118, spec_l1In.spec k), (73, spec_l1Num.spec k)]
theorem e2 (k : Nat) (o : Nat → St → Option (Int × Bool)) (x0_2 x1_2 : ByteArray) : T.step tyt (tbl k) o 2 (S2 x0_2 x1_2) = b2 (fun x0_10 x1_10 x2_10 x3_10 => o 10 (S10 x0_10 x1_10 x2_10 x3_10)) k x0_2 x1_2 := by kernel_rfl
theorem e10 (k : Nat) (o : Nat → St → Option (Int × Bool)) (x0_10 x1_10 : ByteArray) (x2_10 x3_10 : Int) : T.step tyt (tbl k) o 10 (S10 x0_10 x1_10 x2_10 x3_10) = b10 (fun x0_10 x1_10 x2_10 x3_10 => o 10 (S10 x0_10 x1_10 x2_10 x3_10)) (fun x0_17 x1_17 => o 17 (S17 x0_17 x1_17)) k x0_10 x1_10 x2_10 x3_10 := by kernel_rfl
theorem e17 (k : Nat) (o : Nat → St → Option (Int × Bool)) (x0_17 : ByteArray) (x1_17 : Int) : T.step tyt (tbl k) o 17 (S17 x0_17 x1_17) = b17 k x0_17 x1_17 := by kernel_rfl
theorem e (k : Nat) (o : Nat → St → Option (Int × Bool)) (a0 : ByteArray) : T.main tyt (tbl k) o a0 = m (fun x0_2 x1_2 => o 2 (S2 x0_2 x1_2)) k a0 := by kernel_rfl
theorem ok : T.ok = true := by kernel_rfl
theorem run (k : Nat) : (∀ (x0_2 x1_2 : ByteArray), T.run tyt tbl k 2 (S2 x0_2 x1_2) = spec_l1Read.l2 k x0_2 x1_2) ∧ (∀ (x0_10 x1_10 : ByteArray) (x2_10 x3_10 : Int), T.run tyt tbl k 10 (S10 x0_10 x1_10 x2_10 x3_10) = spec_l1Read.l10 k x0_10 x1_10 x2_10 x3_10) ∧ (∀ (x0_17 : ByteArray) (x1_17 : Int), T.run tyt tbl k 17 (S17 x0_17 x1_17) = spec_l1Read.l17 k x0_17 x1_17) := by
  induction k with
  | zero => exact ⟨fun x0_2 x1_2 => rfl, fun x0_10 x1_10 x2_10 x3_10 => rfl, fun x0_17 x1_17 => rfl⟩
  | succ k ih =>
    exact ⟨fun x0_2 x1_2 => by
      have q10 : (fun x0_10 x1_10 x2_10 x3_10 => T.run tyt tbl k 10 (S10 x0_10 x1_10 x2_10 x3_10)) = spec_l1Read.l10 k := by funext x0_10 x1_10 x2_10 x3_10; exact ih.2.1 x0_10 x1_10 x2_10 x3_10
      exact (e2 k (T.run tyt tbl k) x0_2 x1_2).trans (by rw [q10]; rfl), fun x0_10 x1_10 x2_10 x3_10 => by
      have q10 : (fun x0_10 x1_10 x2_10 x3_10 => T.run tyt tbl k 10 (S10 x0_10 x1_10 x2_10 x3_10)) = spec_l1Read.l10 k := by funext x0_10 x1_10 x2_10 x3_10; exact ih.2.1 x0_10 x1_10 x2_10 x3_10
      have q17 : (fun x0_17 x1_17 => T.run tyt tbl k 17 (S17 x0_17 x1_17)) = spec_l1Read.l17 k := by funext x0_17 x1_17; exact ih.2.2 x0_17 x1_17
      exact (e10 k (T.run tyt tbl k) x0_10 x1_10 x2_10 x3_10).trans (by rw [q10, q17]; rfl), fun x0_17 x1_17 => by
      exact (e17 k (T.run tyt tbl k) x0_17 x1_17).trans (by rfl)⟩
theorem tblok (k : Nat) : TblOk Tryz.prog (tbl k) := TblOk.cons (spec_l1In.sound k) (TblOk.cons (spec_l1Num.sound k) (TblOk.nil _))
theorem sound (k : Nat) : Sound Tryz.prog 123 (spec k) := by
  have h := fn_ok (F := T) (tbl := tbl) mixed tyok Tryz.func123 (by kernel_rfl) (c0 := bodyOf Tryz.f123) rfl (conv_code _ _ _) rfl rfl ok k (fun j _ => tblok j)
  have q2 : (fun x0_2 x1_2 => T.run tyt tbl k 2 (S2 x0_2 x1_2)) = spec_l1Read.l2 k := by funext x0_2 x1_2; exact (run k).1 x0_2 x1_2
  have e : spec k = ⟨T.ps, T.rs, T.ev tyt tbl k⟩ := congrArg (FnSpec.mk _ _) (funext fun x => ((e k (T.run tyt tbl k) x).trans (by rw [q2]; rfl)).symm)
  rw [e]
  exact h
end spec_l1Read

namespace spec_ParseInt
/-! ### spec_ParseInt: function 87 -/
def m (k : Nat) (a0 : ByteArray) : Option (Int × Bool) := ((spec_l1Read.f k a0).bind fun r1 => (some (r1.1, r1.2)))
def f (k : Nat) (a0 : ByteArray) : Option (Int × Bool) := m k a0
noncomputable def spec (k : Nat) : FnSpec := ⟨[.d .str none], [.d (.int .i64) none, .d .bool none], fun x => f k x⟩
noncomputable def T : FnText := ⟨(conv [] (bodyOf Tryz.f87) 0).1, Tryz.f87.results.toList, 8, [], [.d .str none], [.d (.int .i64) none, .d .bool none]⟩
noncomputable def tbl (k : Nat) : Tbl := [(123, spec_l1Read.spec k)]
theorem e (k : Nat) (o : Nat → St → Option (Int × Bool)) (a0 : ByteArray) : T.main tyt (tbl k) o a0 = m k a0 := by kernel_rfl
theorem ok : T.ok = true := by kernel_rfl
theorem tblok (k : Nat) : TblOk Tryz.prog (tbl k) := TblOk.cons (spec_l1Read.sound k) (TblOk.nil _)
theorem sound (k : Nat) : Sound Tryz.prog 87 (spec k) := by
  have h := fn_ok (F := T) (tbl := tbl) mixed tyok Tryz.func87 (by kernel_rfl) (c0 := bodyOf Tryz.f87) rfl (conv_code _ _ _) rfl rfl ok k (fun j _ => tblok j)
  have e : spec k = ⟨T.ps, T.rs, T.ev tyt tbl k⟩ := congrArg (FnSpec.mk _ _) (funext fun x => ((e k (T.run tyt tbl k) x).trans (by rfl)).symm)
  rw [e]
  exact h
end spec_ParseInt

namespace spec_FreeLooms
/-! ### spec_FreeLooms: function 124 -/
def b7 (o14 : Int → Int → (List (Int × Int × Int × Int × Int)) → Int → List Int → Int → Bool → Int → Option (List Int × Bool)) (k : Nat) (x0_7 x1_7 : Int) (l2_7 : List (Int × Int × Int × Int × Int)) (x3_7 : Int) (l4_7 : List Int) (x5_7 : Int) : Option (List Int × Bool) := (if x5_7 ≤ x1_7 then (o14 x0_7 x1_7 l2_7 x3_7 l4_7 x5_7 true 0) else (some (l4_7, true)))
def b14 (o7 : Int → Int → (List (Int × Int × Int × Int × Int)) → Int → List Int → Int → Option (List Int × Bool)) (o14 : Int → Int → (List (Int × Int × Int × Int × Int)) → Int → List Int → Int → Bool → Int → Option (List Int × Bool)) (k : Nat) (x0_14 x1_14 : Int) (l2_14 : List (Int × Int × Int × Int × Int)) (x3_14 : Int) (l4_14 : List Int) (x5_14 : Int) (x6_14 : Bool) (x7_14 : Int) : Option (List Int × Bool) := (if x7_14 < (l2_14.length : Int) then (cond x6_14 ((chk l2_14.length x7_14).bind fun i2 => (o14 x0_14 x1_14 l2_14 x3_14 l4_14 x5_14 (decide (¬ (((((l2_14.getD i2 (0, 0, 0, 0, 0)).2).2).2).1) = x5_14)) (w64 (x7_14 + 1)))) (o14 x0_14 x1_14 l2_14 x3_14 l4_14 x5_14 false (w64 (x7_14 + 1)))) else (cond x6_14 ((app 17592186044416 l4_14 [x5_14]).bind fun l3 => (o7 x0_14 x1_14 l2_14 x3_14 l3 (w64 (x5_14 + 1)))) (o7 x0_14 x1_14 l2_14 x3_14 l4_14 (w64 (x5_14 + 1)))))
mutual
def l7 : Nat → Int → Int → (List (Int × Int × Int × Int × Int)) → Int → List Int → Int → Option (List Int × Bool)
  | 0, _, _, _, _, _, _ => none
  | k + 1, x0_7, x1_7, l2_7, x3_7, l4_7, x5_7 => b7 (spec_FreeLooms.l14 k) k x0_7 x1_7 l2_7 x3_7 l4_7 x5_7
def l14 : Nat → Int → Int → (List (Int × Int × Int × Int × Int)) → Int → List Int → Int → Bool → Int → Option (List Int × Bool)
  | 0, _, _, _, _, _, _, _, _ => none
  | k + 1, x0_14, x1_14, l2_14, x3_14, l4_14, x5_14, x6_14, x7_14 => b14 (spec_FreeLooms.l7 k) (spec_FreeLooms.l14 k) k x0_14 x1_14 l2_14 x3_14 l4_14 x5_14 x6_14 x7_14
end
def m (o7 : Int → Int → (List (Int × Int × Int × Int × Int)) → Int → List Int → Int → Option (List Int × Bool)) (k : Nat) (a0_0 a0_1 : Int) (l0_2 : List (Int × Int × Int × Int × Int)) (a0_3 : Int) : Option (List Int × Bool) := ((spec_l25Good.f k a0_0 a0_1 l0_2 a0_3).bind fun r1 => (cond (!r1) (some (([] : List (Int)), false)) (o7 a0_0 a0_1 l0_2 a0_3 ([] : List (Int)) 1)))
def f (k : Nat) (a0_0 a0_1 : Int) (l0_2 : List (Int × Int × Int × Int × Int)) (a0_3 : Int) : Option (List Int × Bool) := m (spec_FreeLooms.l7 k) k a0_0 a0_1 l0_2 a0_3
noncomputable def spec (k : Nat) : FnSpec := ⟨[.ag [.d (.int .i64) none, .d (.int .i64) none, .d (.sl (.pair (.int .i64) (.pair (.int .i64) (.pair (.int .i64) (.pair (.int .i64) (.int .i64)))))) none, .d (.int .i64) none]], [.d (.sl (.int .i64)) (some 3), .d .bool none], fun x => f k x.1 x.2.1 x.2.2.1 x.2.2.2⟩
def S7 (x0_7 x1_7 : Int) (l2_7 : List (Int × Int × Int × Int × Int)) (x3_7 : Int) (l4_7 : List Int) (x5_7 : Int) : St := ⟨[(1, .ptr 100 0), (4, .ref 101), (5, .val (.int .i64) x5_7)], [(101, some (.row 3 (.int .i64) l4_7)), (100, some (.box [.val (.int .i64) x0_7, .val (.int .i64) x1_7, .val (.sl (.pair (.int .i64) (.pair (.int .i64) (.pair (.int .i64) (.pair (.int .i64) (.int .i64)))))) l2_7, .val (.int .i64) x3_7]))], 1000⟩
def S14 (x0_14 x1_14 : Int) (l2_14 : List (Int × Int × Int × Int × Int)) (x3_14 : Int) (l4_14 : List Int) (x5_14 : Int) (x6_14 : Bool) (x7_14 : Int) : St := ⟨[(1, .ptr 100 0), (4, .ref 101), (5, .val (.int .i64) x5_14), (6, .val .bool x6_14), (7, .val (.int .i64) x7_14)], [(101, some (.row 3 (.int .i64) l4_14)), (100, some (.box [.val (.int .i64) x0_14, .val (.int .i64) x1_14, .val (.sl (.pair (.int .i64) (.pair (.int .i64) (.pair (.int .i64) (.pair (.int .i64) (.int .i64)))))) l2_14, .val (.int .i64) x3_14]))], 1000⟩
noncomputable def T : FnText := ⟨(conv [] (bodyOf Tryz.f124) 0).1, Tryz.f124.results.toList, 43, [(7, [(1, .bx 100 [.rd (.int .i64), .rd (.int .i64), .rd (.sl (.pair (.int .i64) (.pair (.int .i64) (.pair (.int .i64) (.pair (.int .i64) (.int .i64)))))), .rd (.int .i64)]), (4, .own 3 (.int .i64) 101), (5, .rd (.int .i64))]), (14, [(1, .bx 100 [.rd (.int .i64), .rd (.int .i64), .rd (.sl (.pair (.int .i64) (.pair (.int .i64) (.pair (.int .i64) (.pair (.int .i64) (.int .i64)))))), .rd (.int .i64)]), (4, .own 3 (.int .i64) 101), (5, .rd (.int .i64)), (6, .rd .bool), (7, .rd (.int .i64))])], [.ag [.d (.int .i64) none, .d (.int .i64) none, .d (.sl (.pair (.int .i64) (.pair (.int .i64) (.pair (.int .i64) (.pair (.int .i64) (.int .i64)))))) none, .d (.int .i64) none]], [.d (.sl (.int .i64)) (some 3), .d .bool none]⟩
noncomputable def tbl (k : Nat) : Tbl := [(84, spec_l25Good.spec k)]
theorem e7 (k : Nat) (o : Nat → St → Option (List Int × Bool)) (x0_7 x1_7 : Int) (l2_7 : List (Int × Int × Int × Int × Int)) (x3_7 : Int) (l4_7 : List Int) (x5_7 : Int) : T.step tyt (tbl k) o 7 (S7 x0_7 x1_7 l2_7 x3_7 l4_7 x5_7) = b7 (fun x0_14 x1_14 l2_14 x3_14 l4_14 x5_14 x6_14 x7_14 => o 14 (S14 x0_14 x1_14 l2_14 x3_14 l4_14 x5_14 x6_14 x7_14)) k x0_7 x1_7 l2_7 x3_7 l4_7 x5_7 := by kernel_rfl
theorem e14 (k : Nat) (o : Nat → St → Option (List Int × Bool)) (x0_14 x1_14 : Int) (l2_14 : List (Int × Int × Int × Int × Int)) (x3_14 : Int) (l4_14 : List Int) (x5_14 : Int) (x6_14 : Bool) (x7_14 : Int) : T.step tyt (tbl k) o 14 (S14 x0_14 x1_14 l2_14 x3_14 l4_14 x5_14 x6_14 x7_14) = b14 (fun x0_7 x1_7 l2_7 x3_7 l4_7 x5_7 => o 7 (S7 x0_7 x1_7 l2_7 x3_7 l4_7 x5_7)) (fun x0_14 x1_14 l2_14 x3_14 l4_14 x5_14 x6_14 x7_14 => o 14 (S14 x0_14 x1_14 l2_14 x3_14 l4_14 x5_14 x6_14 x7_14)) k x0_14 x1_14 l2_14 x3_14 l4_14 x5_14 x6_14 x7_14 := by kernel_rfl
theorem e (k : Nat) (o : Nat → St → Option (List Int × Bool)) (a0_0 a0_1 : Int) (l0_2 : List (Int × Int × Int × Int × Int)) (a0_3 : Int) : T.main tyt (tbl k) o (a0_0, a0_1, l0_2, a0_3) = m (fun x0_7 x1_7 l2_7 x3_7 l4_7 x5_7 => o 7 (S7 x0_7 x1_7 l2_7 x3_7 l4_7 x5_7)) k a0_0 a0_1 l0_2 a0_3 := by kernel_rfl
theorem ok : T.ok = true := by kernel_rfl
theorem run (k : Nat) : (∀ (x0_7 x1_7 : Int) (l2_7 : List (Int × Int × Int × Int × Int)) (x3_7 : Int) (l4_7 : List Int) (x5_7 : Int), T.run tyt tbl k 7 (S7 x0_7 x1_7 l2_7 x3_7 l4_7 x5_7) = spec_FreeLooms.l7 k x0_7 x1_7 l2_7 x3_7 l4_7 x5_7) ∧ (∀ (x0_14 x1_14 : Int) (l2_14 : List (Int × Int × Int × Int × Int)) (x3_14 : Int) (l4_14 : List Int) (x5_14 : Int) (x6_14 : Bool) (x7_14 : Int), T.run tyt tbl k 14 (S14 x0_14 x1_14 l2_14 x3_14 l4_14 x5_14 x6_14 x7_14) = spec_FreeLooms.l14 k x0_14 x1_14 l2_14 x3_14 l4_14 x5_14 x6_14 x7_14) := by
  induction k with
  | zero => exact ⟨fun x0_7 x1_7 l2_7 x3_7 l4_7 x5_7 => rfl, fun x0_14 x1_14 l2_14 x3_14 l4_14 x5_14 x6_14 x7_14 => rfl⟩
  | succ k ih =>
    exact ⟨fun x0_7 x1_7 l2_7 x3_7 l4_7 x5_7 => by
      have q14 : (fun x0_14 x1_14 l2_14 x3_14 l4_14 x5_14 x6_14 x7_14 => T.run tyt tbl k 14 (S14 x0_14 x1_14 l2_14 x3_14 l4_14 x5_14 x6_14 x7_14)) = spec_FreeLooms.l14 k := by funext x0_14 x1_14 l2_14 x3_14 l4_14 x5_14 x6_14 x7_14; exact ih.2 x0_14 x1_14 l2_14 x3_14 l4_14 x5_14 x6_14 x7_14
      exact (e7 k (T.run tyt tbl k) x0_7 x1_7 l2_7 x3_7 l4_7 x5_7).trans (by rw [q14]; rfl), fun x0_14 x1_14 l2_14 x3_14 l4_14 x5_14 x6_14 x7_14 => by
      have q7 : (fun x0_7 x1_7 l2_7 x3_7 l4_7 x5_7 => T.run tyt tbl k 7 (S7 x0_7 x1_7 l2_7 x3_7 l4_7 x5_7)) = spec_FreeLooms.l7 k := by funext x0_7 x1_7 l2_7 x3_7 l4_7 x5_7; exact ih.1 x0_7 x1_7 l2_7 x3_7 l4_7 x5_7
      have q14 : (fun x0_14 x1_14 l2_14 x3_14 l4_14 x5_14 x6_14 x7_14 => T.run tyt tbl k 14 (S14 x0_14 x1_14 l2_14 x3_14 l4_14 x5_14 x6_14 x7_14)) = spec_FreeLooms.l14 k := by funext x0_14 x1_14 l2_14 x3_14 l4_14 x5_14 x6_14 x7_14; exact ih.2 x0_14 x1_14 l2_14 x3_14 l4_14 x5_14 x6_14 x7_14
      exact (e14 k (T.run tyt tbl k) x0_14 x1_14 l2_14 x3_14 l4_14 x5_14 x6_14 x7_14).trans (by rw [q7, q14]; rfl)⟩
theorem tblok (k : Nat) : TblOk Tryz.prog (tbl k) := TblOk.cons (spec_l25Good.sound k) (TblOk.nil _)
theorem sound (k : Nat) : Sound Tryz.prog 124 (spec k) := by
  have h := fn_ok (F := T) (tbl := tbl) mixed tyok Tryz.func124 (by kernel_rfl) (c0 := bodyOf Tryz.f124) rfl (conv_code _ _ _) rfl rfl ok k (fun j _ => tblok j)
  have q7 : (fun x0_7 x1_7 l2_7 x3_7 l4_7 x5_7 => T.run tyt tbl k 7 (S7 x0_7 x1_7 l2_7 x3_7 l4_7 x5_7)) = spec_FreeLooms.l7 k := by funext x0_7 x1_7 l2_7 x3_7 l4_7 x5_7; exact (run k).1 x0_7 x1_7 l2_7 x3_7 l4_7 x5_7
  have e : spec k = ⟨T.ps, T.rs, T.ev tyt tbl k⟩ := congrArg (FnSpec.mk _ _) (funext fun x => ((e k (T.run tyt tbl k) x.1 x.2.1 x.2.2.1 x.2.2.2).trans (by rw [q7]; rfl)).symm)
  rw [e]
  exact h
end spec_FreeLooms

namespace spec_l28List
/-! ### spec_l28List: function 125 -/
def b10 (o10 : List Int → ByteArray → Int → Option (ByteArray)) (k : Nat) (l0_10 : List Int) (x1_10 : ByteArray) (x2_10 : Int) : Option (ByteArray) := (if x2_10 < (l0_10.length : Int) then ((catS x1_10 (⟨#[32]⟩ : ByteArray)).bind fun s3 => ((chk l0_10.length x2_10).bind fun i4 => ((spec_l1Num.f k (l0_10.getD i4 0)).bind fun r5 => ((catS s3 r5).bind fun s6 => (o10 l0_10 s6 (w64 (x2_10 + 1))))))) else (some x1_10))
def l10 : Nat → List Int → ByteArray → Int → Option (ByteArray)
  | 0, _, _, _ => none
  | k + 1, l0_10, x1_10, x2_10 => b10 (spec_l28List.l10 k) k l0_10 x1_10 x2_10
def m (o10 : List Int → ByteArray → Int → Option (ByteArray)) (k : Nat) (l0 : List Int) (a1 : Bool) : Option (ByteArray) := (cond (!a1) (some (⟨#[63]⟩ : ByteArray)) (if (l0.length : Int) = 0 then (some (⟨#[110, 111, 110, 101]⟩ : ByteArray)) else ((chk l0.length 0).bind fun i1 => ((spec_l1Num.f k (l0.getD i1 0)).bind fun r2 => (o10 l0 r2 1)))))
def f (k : Nat) (l0 : List Int) (a1 : Bool) : Option (ByteArray) := m (spec_l28List.l10 k) k l0 a1
noncomputable def spec (k : Nat) : FnSpec := ⟨[.d (.sl (.int .i64)) none, .d .bool none], [.d .str none], fun x => f k x.1 x.2⟩
def S10 (l0_10 : List Int) (x1_10 : ByteArray) (x2_10 : Int) : St := ⟨[(0, .val (.sl (.int .i64)) l0_10), (5, .val .str x1_10), (6, .val (.int .i64) x2_10)], [], 1000⟩
noncomputable def T : FnText := ⟨(conv [] (bodyOf Tryz.f125) 0).1, Tryz.f125.results.toList, 31, [(10, [(0, .rd (.sl (.int .i64))), (5, .rd .str), (6, .rd (.int .i64))])], [.d (.sl (.int .i64)) none, .d .bool none], [.d .str none]⟩
noncomputable def tbl (k : Nat) : Tbl := [(73, spec_l1Num.spec k)]
theorem e10 (k : Nat) (o : Nat → St → Option (ByteArray)) (l0_10 : List Int) (x1_10 : ByteArray) (x2_10 : Int) : T.step tyt (tbl k) o 10 (S10 l0_10 x1_10 x2_10) = b10 (fun l0_10 x1_10 x2_10 => o 10 (S10 l0_10 x1_10 x2_10)) k l0_10 x1_10 x2_10 := by kernel_rfl
theorem e (k : Nat) (o : Nat → St → Option (ByteArray)) (l0 : List Int) (a1 : Bool) : T.main tyt (tbl k) o (l0, a1) = m (fun l0_10 x1_10 x2_10 => o 10 (S10 l0_10 x1_10 x2_10)) k l0 a1 := by kernel_rfl
theorem ok : T.ok = true := by kernel_rfl
theorem run (k : Nat) : (∀ (l0_10 : List Int) (x1_10 : ByteArray) (x2_10 : Int), T.run tyt tbl k 10 (S10 l0_10 x1_10 x2_10) = spec_l28List.l10 k l0_10 x1_10 x2_10) := by
  induction k with
  | zero => exact fun l0_10 x1_10 x2_10 => rfl
  | succ k ih =>
    exact fun l0_10 x1_10 x2_10 => by
      have q10 : (fun l0_10 x1_10 x2_10 => T.run tyt tbl k 10 (S10 l0_10 x1_10 x2_10)) = spec_l28List.l10 k := by funext l0_10 x1_10 x2_10; exact ih l0_10 x1_10 x2_10
      exact (e10 k (T.run tyt tbl k) l0_10 x1_10 x2_10).trans (by rw [q10]; rfl)
theorem tblok (k : Nat) : TblOk Tryz.prog (tbl k) := TblOk.cons (spec_l1Num.sound k) (TblOk.nil _)
theorem sound (k : Nat) : Sound Tryz.prog 125 (spec k) := by
  have h := fn_ok (F := T) (tbl := tbl) mixed tyok Tryz.func125 (by kernel_rfl) (c0 := bodyOf Tryz.f125) rfl (conv_code _ _ _) rfl rfl ok k (fun j _ => tblok j)
  have q10 : (fun l0_10 x1_10 x2_10 => T.run tyt tbl k 10 (S10 l0_10 x1_10 x2_10)) = spec_l28List.l10 k := by funext l0_10 x1_10 x2_10; exact (run k) l0_10 x1_10 x2_10
  have e : spec k = ⟨T.ps, T.rs, T.ev tyt tbl k⟩ := congrArg (FnSpec.mk _ _) (funext fun x => ((e k (T.run tyt tbl k) x.1 x.2).trans (by rw [q10]; rfl)).symm)
  rw [e]
  exact h
end spec_l28List

namespace spec_RowsLeft
/-! ### spec_RowsLeft: function 126 -/
def b7 (o7 : Int → Int → (List (Int × Int × Int × Int × Int)) → Int → Int → Int → Option (Int × Bool)) (k : Nat) (x0_7 x1_7 : Int) (l2_7 : List (Int × Int × Int × Int × Int)) (x3_7 x4_7 x5_7 : Int) : Option (Int × Bool) := (if x5_7 < (l2_7.length : Int) then ((chk l2_7.length x5_7).bind fun i2 => ((chk l2_7.length x5_7).bind fun i3 => (o7 x0_7 x1_7 l2_7 x3_7 (w64 ((w64 (x4_7 + ((l2_7.getD i2 (0, 0, 0, 0, 0)).1))) - (((l2_7.getD i3 (0, 0, 0, 0, 0)).2).1))) (w64 (x5_7 + 1))))) else (some (x4_7, true)))
def l7 : Nat → Int → Int → (List (Int × Int × Int × Int × Int)) → Int → Int → Int → Option (Int × Bool)
  | 0, _, _, _, _, _, _ => none
  | k + 1, x0_7, x1_7, l2_7, x3_7, x4_7, x5_7 => b7 (spec_RowsLeft.l7 k) k x0_7 x1_7 l2_7 x3_7 x4_7 x5_7
def m (o7 : Int → Int → (List (Int × Int × Int × Int × Int)) → Int → Int → Int → Option (Int × Bool)) (k : Nat) (a0_0 a0_1 : Int) (l0_2 : List (Int × Int × Int × Int × Int)) (a0_3 : Int) : Option (Int × Bool) := ((spec_l25Good.f k a0_0 a0_1 l0_2 a0_3).bind fun r1 => (cond (!r1) (some (0, false)) (o7 a0_0 a0_1 l0_2 a0_3 0 0)))
def f (k : Nat) (a0_0 a0_1 : Int) (l0_2 : List (Int × Int × Int × Int × Int)) (a0_3 : Int) : Option (Int × Bool) := m (spec_RowsLeft.l7 k) k a0_0 a0_1 l0_2 a0_3
noncomputable def spec (k : Nat) : FnSpec := ⟨[.ag [.d (.int .i64) none, .d (.int .i64) none, .d (.sl (.pair (.int .i64) (.pair (.int .i64) (.pair (.int .i64) (.pair (.int .i64) (.int .i64)))))) none, .d (.int .i64) none]], [.d (.int .i64) none, .d .bool none], fun x => f k x.1 x.2.1 x.2.2.1 x.2.2.2⟩
def S7 (x0_7 x1_7 : Int) (l2_7 : List (Int × Int × Int × Int × Int)) (x3_7 x4_7 x5_7 : Int) : St := ⟨[(1, .ptr 100 0), (4, .val (.int .i64) x4_7), (5, .val (.int .i64) x5_7)], [(100, some (.box [.val (.int .i64) x0_7, .val (.int .i64) x1_7, .val (.sl (.pair (.int .i64) (.pair (.int .i64) (.pair (.int .i64) (.pair (.int .i64) (.int .i64)))))) l2_7, .val (.int .i64) x3_7]))], 1000⟩
noncomputable def T : FnText := ⟨(conv [] (bodyOf Tryz.f126) 0).1, Tryz.f126.results.toList, 32, [(7, [(1, .bx 100 [.rd (.int .i64), .rd (.int .i64), .rd (.sl (.pair (.int .i64) (.pair (.int .i64) (.pair (.int .i64) (.pair (.int .i64) (.int .i64)))))), .rd (.int .i64)]), (4, .rd (.int .i64)), (5, .rd (.int .i64))])], [.ag [.d (.int .i64) none, .d (.int .i64) none, .d (.sl (.pair (.int .i64) (.pair (.int .i64) (.pair (.int .i64) (.pair (.int .i64) (.int .i64)))))) none, .d (.int .i64) none]], [.d (.int .i64) none, .d .bool none]⟩
noncomputable def tbl (k : Nat) : Tbl := [(84, spec_l25Good.spec k)]
theorem e7 (k : Nat) (o : Nat → St → Option (Int × Bool)) (x0_7 x1_7 : Int) (l2_7 : List (Int × Int × Int × Int × Int)) (x3_7 x4_7 x5_7 : Int) : T.step tyt (tbl k) o 7 (S7 x0_7 x1_7 l2_7 x3_7 x4_7 x5_7) = b7 (fun x0_7 x1_7 l2_7 x3_7 x4_7 x5_7 => o 7 (S7 x0_7 x1_7 l2_7 x3_7 x4_7 x5_7)) k x0_7 x1_7 l2_7 x3_7 x4_7 x5_7 := by kernel_rfl
theorem e (k : Nat) (o : Nat → St → Option (Int × Bool)) (a0_0 a0_1 : Int) (l0_2 : List (Int × Int × Int × Int × Int)) (a0_3 : Int) : T.main tyt (tbl k) o (a0_0, a0_1, l0_2, a0_3) = m (fun x0_7 x1_7 l2_7 x3_7 x4_7 x5_7 => o 7 (S7 x0_7 x1_7 l2_7 x3_7 x4_7 x5_7)) k a0_0 a0_1 l0_2 a0_3 := by kernel_rfl
theorem ok : T.ok = true := by kernel_rfl
theorem run (k : Nat) : (∀ (x0_7 x1_7 : Int) (l2_7 : List (Int × Int × Int × Int × Int)) (x3_7 x4_7 x5_7 : Int), T.run tyt tbl k 7 (S7 x0_7 x1_7 l2_7 x3_7 x4_7 x5_7) = spec_RowsLeft.l7 k x0_7 x1_7 l2_7 x3_7 x4_7 x5_7) := by
  induction k with
  | zero => exact fun x0_7 x1_7 l2_7 x3_7 x4_7 x5_7 => rfl
  | succ k ih =>
    exact fun x0_7 x1_7 l2_7 x3_7 x4_7 x5_7 => by
      have q7 : (fun x0_7 x1_7 l2_7 x3_7 x4_7 x5_7 => T.run tyt tbl k 7 (S7 x0_7 x1_7 l2_7 x3_7 x4_7 x5_7)) = spec_RowsLeft.l7 k := by funext x0_7 x1_7 l2_7 x3_7 x4_7 x5_7; exact ih x0_7 x1_7 l2_7 x3_7 x4_7 x5_7
      exact (e7 k (T.run tyt tbl k) x0_7 x1_7 l2_7 x3_7 x4_7 x5_7).trans (by rw [q7]; rfl)
theorem tblok (k : Nat) : TblOk Tryz.prog (tbl k) := TblOk.cons (spec_l25Good.sound k) (TblOk.nil _)
theorem sound (k : Nat) : Sound Tryz.prog 126 (spec k) := by
  have h := fn_ok (F := T) (tbl := tbl) mixed tyok Tryz.func126 (by kernel_rfl) (c0 := bodyOf Tryz.f126) rfl (conv_code _ _ _) rfl rfl ok k (fun j _ => tblok j)
  have q7 : (fun x0_7 x1_7 l2_7 x3_7 x4_7 x5_7 => T.run tyt tbl k 7 (S7 x0_7 x1_7 l2_7 x3_7 x4_7 x5_7)) = spec_RowsLeft.l7 k := by funext x0_7 x1_7 l2_7 x3_7 x4_7 x5_7; exact (run k) x0_7 x1_7 l2_7 x3_7 x4_7 x5_7
  have e : spec k = ⟨T.ps, T.rs, T.ev tyt tbl k⟩ := congrArg (FnSpec.mk _ _) (funext fun x => ((e k (T.run tyt tbl k) x.1 x.2.1 x.2.2.1 x.2.2.2).trans (by rw [q7]; rfl)).symm)
  rw [e]
  exact h
end spec_RowsLeft

namespace spec_CarpetStates
/-! ### spec_CarpetStates: function 127 -/
def b7 (o7 : Int → Int → (List (Int × Int × Int × Int × Int)) → Int → List Int → Int → Option (List Int × Bool)) (k : Nat) (x0_7 x1_7 : Int) (l2_7 : List (Int × Int × Int × Int × Int)) (x3_7 : Int) (l4_7 : List Int) (x5_7 : Int) : Option (List Int × Bool) := (if x5_7 < (l2_7.length : Int) then ((chk l2_7.length x5_7).bind fun i3 => ((chk l4_7.length ((((l2_7.getD i3 (0, 0, 0, 0, 0)).2).2).1)).bind fun i4 => ((chk l4_7.length ((((l2_7.getD i3 (0, 0, 0, 0, 0)).2).2).1)).bind fun i5 => (o7 x0_7 x1_7 l2_7 x3_7 (l4_7.set i5 (w64 ((l4_7.getD i4 0) + 1))) (w64 (x5_7 + 1)))))) else (some (l4_7, true)))
def l7 : Nat → Int → Int → (List (Int × Int × Int × Int × Int)) → Int → List Int → Int → Option (List Int × Bool)
  | 0, _, _, _, _, _, _ => none
  | k + 1, x0_7, x1_7, l2_7, x3_7, l4_7, x5_7 => b7 (spec_CarpetStates.l7 k) k x0_7 x1_7 l2_7 x3_7 l4_7 x5_7
def m (o7 : Int → Int → (List (Int × Int × Int × Int × Int)) → Int → List Int → Int → Option (List Int × Bool)) (k : Nat) (a0_0 a0_1 : Int) (l0_2 : List (Int × Int × Int × Int × Int)) (a0_3 : Int) : Option (List Int × Bool) := ((spec_l25Good.f k a0_0 a0_1 l0_2 a0_3).bind fun r1 => (cond (!r1) (some (([] : List (Int)), false)) ((mkl 17592186044416 5 5).bind fun n2 => (o7 a0_0 a0_1 l0_2 a0_3 (List.replicate n2 (0 : Int)) 0))))
def f (k : Nat) (a0_0 a0_1 : Int) (l0_2 : List (Int × Int × Int × Int × Int)) (a0_3 : Int) : Option (List Int × Bool) := m (spec_CarpetStates.l7 k) k a0_0 a0_1 l0_2 a0_3
noncomputable def spec (k : Nat) : FnSpec := ⟨[.ag [.d (.int .i64) none, .d (.int .i64) none, .d (.sl (.pair (.int .i64) (.pair (.int .i64) (.pair (.int .i64) (.pair (.int .i64) (.int .i64)))))) none, .d (.int .i64) none]], [.d (.sl (.int .i64)) (some 3), .d .bool none], fun x => f k x.1 x.2.1 x.2.2.1 x.2.2.2⟩
def S7 (x0_7 x1_7 : Int) (l2_7 : List (Int × Int × Int × Int × Int)) (x3_7 : Int) (l4_7 : List Int) (x5_7 : Int) : St := ⟨[(1, .ptr 100 0), (4, .ref 101), (5, .val (.int .i64) x5_7)], [(101, some (.row 3 (.int .i64) l4_7)), (100, some (.box [.val (.int .i64) x0_7, .val (.int .i64) x1_7, .val (.sl (.pair (.int .i64) (.pair (.int .i64) (.pair (.int .i64) (.pair (.int .i64) (.int .i64)))))) l2_7, .val (.int .i64) x3_7]))], 1000⟩
noncomputable def T : FnText := ⟨(conv [] (bodyOf Tryz.f127) 0).1, Tryz.f127.results.toList, 34, [(7, [(1, .bx 100 [.rd (.int .i64), .rd (.int .i64), .rd (.sl (.pair (.int .i64) (.pair (.int .i64) (.pair (.int .i64) (.pair (.int .i64) (.int .i64)))))), .rd (.int .i64)]), (4, .own 3 (.int .i64) 101), (5, .rd (.int .i64))])], [.ag [.d (.int .i64) none, .d (.int .i64) none, .d (.sl (.pair (.int .i64) (.pair (.int .i64) (.pair (.int .i64) (.pair (.int .i64) (.int .i64)))))) none, .d (.int .i64) none]], [.d (.sl (.int .i64)) (some 3), .d .bool none]⟩
noncomputable def tbl (k : Nat) : Tbl := [(84, spec_l25Good.spec k)]
theorem e7 (k : Nat) (o : Nat → St → Option (List Int × Bool)) (x0_7 x1_7 : Int) (l2_7 : List (Int × Int × Int × Int × Int)) (x3_7 : Int) (l4_7 : List Int) (x5_7 : Int) : T.step tyt (tbl k) o 7 (S7 x0_7 x1_7 l2_7 x3_7 l4_7 x5_7) = b7 (fun x0_7 x1_7 l2_7 x3_7 l4_7 x5_7 => o 7 (S7 x0_7 x1_7 l2_7 x3_7 l4_7 x5_7)) k x0_7 x1_7 l2_7 x3_7 l4_7 x5_7 := by kernel_rfl
theorem e (k : Nat) (o : Nat → St → Option (List Int × Bool)) (a0_0 a0_1 : Int) (l0_2 : List (Int × Int × Int × Int × Int)) (a0_3 : Int) : T.main tyt (tbl k) o (a0_0, a0_1, l0_2, a0_3) = m (fun x0_7 x1_7 l2_7 x3_7 l4_7 x5_7 => o 7 (S7 x0_7 x1_7 l2_7 x3_7 l4_7 x5_7)) k a0_0 a0_1 l0_2 a0_3 := by kernel_rfl
theorem ok : T.ok = true := by kernel_rfl
theorem run (k : Nat) : (∀ (x0_7 x1_7 : Int) (l2_7 : List (Int × Int × Int × Int × Int)) (x3_7 : Int) (l4_7 : List Int) (x5_7 : Int), T.run tyt tbl k 7 (S7 x0_7 x1_7 l2_7 x3_7 l4_7 x5_7) = spec_CarpetStates.l7 k x0_7 x1_7 l2_7 x3_7 l4_7 x5_7) := by
  induction k with
  | zero => exact fun x0_7 x1_7 l2_7 x3_7 l4_7 x5_7 => rfl
  | succ k ih =>
    exact fun x0_7 x1_7 l2_7 x3_7 l4_7 x5_7 => by
      have q7 : (fun x0_7 x1_7 l2_7 x3_7 l4_7 x5_7 => T.run tyt tbl k 7 (S7 x0_7 x1_7 l2_7 x3_7 l4_7 x5_7)) = spec_CarpetStates.l7 k := by funext x0_7 x1_7 l2_7 x3_7 l4_7 x5_7; exact ih x0_7 x1_7 l2_7 x3_7 l4_7 x5_7
      exact (e7 k (T.run tyt tbl k) x0_7 x1_7 l2_7 x3_7 l4_7 x5_7).trans (by rw [q7]; rfl)
theorem tblok (k : Nat) : TblOk Tryz.prog (tbl k) := TblOk.cons (spec_l25Good.sound k) (TblOk.nil _)
theorem sound (k : Nat) : Sound Tryz.prog 127 (spec k) := by
  have h := fn_ok (F := T) (tbl := tbl) mixed tyok Tryz.func127 (by kernel_rfl) (c0 := bodyOf Tryz.f127) rfl (conv_code _ _ _) rfl rfl ok k (fun j _ => tblok j)
  have q7 : (fun x0_7 x1_7 l2_7 x3_7 l4_7 x5_7 => T.run tyt tbl k 7 (S7 x0_7 x1_7 l2_7 x3_7 l4_7 x5_7)) = spec_CarpetStates.l7 k := by funext x0_7 x1_7 l2_7 x3_7 l4_7 x5_7; exact (run k) x0_7 x1_7 l2_7 x3_7 l4_7 x5_7
  have e : spec k = ⟨T.ps, T.rs, T.ev tyt tbl k⟩ := congrArg (FnSpec.mk _ _) (funext fun x => ((e k (T.run tyt tbl k) x.1 x.2.1 x.2.2.1 x.2.2.2).trans (by rw [q7]; rfl)).symm)
  rw [e]
  exact h
end spec_CarpetStates

namespace spec_DaysToSell
/-! ### spec_DaysToSell: function 128 -/
def b7 (o7 : Int → Int → (List (Int × Int × Int × Int × Int)) → Int → Int → Int → Option (Int × Bool)) (k : Nat) (x0_7 x1_7 : Int) (l2_7 : List (Int × Int × Int × Int × Int)) (x3_7 x4_7 x5_7 : Int) : Option (Int × Bool) := (if x5_7 < (l2_7.length : Int) then ((chk l2_7.length x5_7).bind fun i2 => ((spec_l1Most.f k 0 (w64 ((w64 ((((((l2_7.getD i2 (0, 0, 0, 0, 0)).2).2).2).2) + 3)) - x0_7))).bind fun r3 => (if ((((l2_7.getD i2 (0, 0, 0, 0, 0)).2).2).1) = 3 then (if (w64 (x0_7 + r3)) ≤ 4000 then (if x4_7 < 0 then (o7 x0_7 x1_7 l2_7 x3_7 r3 (w64 (x5_7 + 1))) else (if r3 < x4_7 then (o7 x0_7 x1_7 l2_7 x3_7 r3 (w64 (x5_7 + 1))) else (o7 x0_7 x1_7 l2_7 x3_7 x4_7 (w64 (x5_7 + 1))))) else (o7 x0_7 x1_7 l2_7 x3_7 x4_7 (w64 (x5_7 + 1)))) else (o7 x0_7 x1_7 l2_7 x3_7 x4_7 (w64 (x5_7 + 1)))))) else (if x4_7 < 0 then (some (0, false)) else (some (x4_7, true))))
def l7 : Nat → Int → Int → (List (Int × Int × Int × Int × Int)) → Int → Int → Int → Option (Int × Bool)
  | 0, _, _, _, _, _, _ => none
  | k + 1, x0_7, x1_7, l2_7, x3_7, x4_7, x5_7 => b7 (spec_DaysToSell.l7 k) k x0_7 x1_7 l2_7 x3_7 x4_7 x5_7
def m (o7 : Int → Int → (List (Int × Int × Int × Int × Int)) → Int → Int → Int → Option (Int × Bool)) (k : Nat) (a0_0 a0_1 : Int) (l0_2 : List (Int × Int × Int × Int × Int)) (a0_3 : Int) : Option (Int × Bool) := ((spec_l25Good.f k a0_0 a0_1 l0_2 a0_3).bind fun r1 => (cond (!r1) (some (0, false)) (o7 a0_0 a0_1 l0_2 a0_3 (-1) 0)))
def f (k : Nat) (a0_0 a0_1 : Int) (l0_2 : List (Int × Int × Int × Int × Int)) (a0_3 : Int) : Option (Int × Bool) := m (spec_DaysToSell.l7 k) k a0_0 a0_1 l0_2 a0_3
noncomputable def spec (k : Nat) : FnSpec := ⟨[.ag [.d (.int .i64) none, .d (.int .i64) none, .d (.sl (.pair (.int .i64) (.pair (.int .i64) (.pair (.int .i64) (.pair (.int .i64) (.int .i64)))))) none, .d (.int .i64) none]], [.d (.int .i64) none, .d .bool none], fun x => f k x.1 x.2.1 x.2.2.1 x.2.2.2⟩
def S7 (x0_7 x1_7 : Int) (l2_7 : List (Int × Int × Int × Int × Int)) (x3_7 x4_7 x5_7 : Int) : St := ⟨[(1, .ptr 100 0), (4, .val (.int .i64) x4_7), (5, .val (.int .i64) x5_7)], [(100, some (.box [.val (.int .i64) x0_7, .val (.int .i64) x1_7, .val (.sl (.pair (.int .i64) (.pair (.int .i64) (.pair (.int .i64) (.pair (.int .i64) (.int .i64)))))) l2_7, .val (.int .i64) x3_7]))], 1000⟩
noncomputable def T : FnText := ⟨(conv [] (bodyOf Tryz.f128) 0).1, Tryz.f128.results.toList, 53, [(7, [(1, .bx 100 [.rd (.int .i64), .rd (.int .i64), .rd (.sl (.pair (.int .i64) (.pair (.int .i64) (.pair (.int .i64) (.pair (.int .i64) (.int .i64)))))), .rd (.int .i64)]), (4, .rd (.int .i64)), (5, .rd (.int .i64))])], [.ag [.d (.int .i64) none, .d (.int .i64) none, .d (.sl (.pair (.int .i64) (.pair (.int .i64) (.pair (.int .i64) (.pair (.int .i64) (.int .i64)))))) none, .d (.int .i64) none]], [.d (.int .i64) none, .d .bool none]⟩
noncomputable def tbl (k : Nat) : Tbl := [(84, spec_l25Good.spec k), (109, spec_l1Most.spec k)]
theorem e7 (k : Nat) (o : Nat → St → Option (Int × Bool)) (x0_7 x1_7 : Int) (l2_7 : List (Int × Int × Int × Int × Int)) (x3_7 x4_7 x5_7 : Int) : T.step tyt (tbl k) o 7 (S7 x0_7 x1_7 l2_7 x3_7 x4_7 x5_7) = b7 (fun x0_7 x1_7 l2_7 x3_7 x4_7 x5_7 => o 7 (S7 x0_7 x1_7 l2_7 x3_7 x4_7 x5_7)) k x0_7 x1_7 l2_7 x3_7 x4_7 x5_7 := by kernel_rfl
theorem e (k : Nat) (o : Nat → St → Option (Int × Bool)) (a0_0 a0_1 : Int) (l0_2 : List (Int × Int × Int × Int × Int)) (a0_3 : Int) : T.main tyt (tbl k) o (a0_0, a0_1, l0_2, a0_3) = m (fun x0_7 x1_7 l2_7 x3_7 x4_7 x5_7 => o 7 (S7 x0_7 x1_7 l2_7 x3_7 x4_7 x5_7)) k a0_0 a0_1 l0_2 a0_3 := by kernel_rfl
theorem ok : T.ok = true := by kernel_rfl
theorem run (k : Nat) : (∀ (x0_7 x1_7 : Int) (l2_7 : List (Int × Int × Int × Int × Int)) (x3_7 x4_7 x5_7 : Int), T.run tyt tbl k 7 (S7 x0_7 x1_7 l2_7 x3_7 x4_7 x5_7) = spec_DaysToSell.l7 k x0_7 x1_7 l2_7 x3_7 x4_7 x5_7) := by
  induction k with
  | zero => exact fun x0_7 x1_7 l2_7 x3_7 x4_7 x5_7 => rfl
  | succ k ih =>
    exact fun x0_7 x1_7 l2_7 x3_7 x4_7 x5_7 => by
      have q7 : (fun x0_7 x1_7 l2_7 x3_7 x4_7 x5_7 => T.run tyt tbl k 7 (S7 x0_7 x1_7 l2_7 x3_7 x4_7 x5_7)) = spec_DaysToSell.l7 k := by funext x0_7 x1_7 l2_7 x3_7 x4_7 x5_7; exact ih x0_7 x1_7 l2_7 x3_7 x4_7 x5_7
      exact (e7 k (T.run tyt tbl k) x0_7 x1_7 l2_7 x3_7 x4_7 x5_7).trans (by rw [q7]; rfl)
theorem tblok (k : Nat) : TblOk Tryz.prog (tbl k) := TblOk.cons (spec_l25Good.sound k) (TblOk.cons (spec_l1Most.sound k) (TblOk.nil _))
theorem sound (k : Nat) : Sound Tryz.prog 128 (spec k) := by
  have h := fn_ok (F := T) (tbl := tbl) mixed tyok Tryz.func128 (by kernel_rfl) (c0 := bodyOf Tryz.f128) rfl (conv_code _ _ _) rfl rfl ok k (fun j _ => tblok j)
  have q7 : (fun x0_7 x1_7 l2_7 x3_7 x4_7 x5_7 => T.run tyt tbl k 7 (S7 x0_7 x1_7 l2_7 x3_7 x4_7 x5_7)) = spec_DaysToSell.l7 k := by funext x0_7 x1_7 l2_7 x3_7 x4_7 x5_7; exact (run k) x0_7 x1_7 l2_7 x3_7 x4_7 x5_7
  have e : spec k = ⟨T.ps, T.rs, T.ev tyt tbl k⟩ := congrArg (FnSpec.mk _ _) (funext fun x => ((e k (T.run tyt tbl k) x.1 x.2.1 x.2.2.1 x.2.2.2).trans (by rw [q7]; rfl)).symm)
  rw [e]
  exact h
end spec_DaysToSell

namespace spec_l28Word
/-! ### spec_l28Word: function 88 -/
def m (k : Nat) (a0_0 a0_1 : Int) (l0_2 : List (Int × Int × Int × Int × Int)) (a0_3 : Int) (a1 : ByteArray) : Option (ByteArray) := (if a1 = (⟨#[100, 97, 121]⟩ : ByteArray) then ((spec_l1Num.f k a0_0).bind fun r1 => (some r1)) else (if a1 = (⟨#[109, 111, 110, 101, 121]⟩ : ByteArray) then ((spec_l1Num.f k a0_3).bind fun r2 => (some r2)) else (if a1 = (⟨#[102, 114, 101, 101]⟩ : ByteArray) then ((spec_FreeLooms.f k a0_0 a0_1 l0_2 a0_3).bind fun r3 => ((spec_l28List.f k r3.1 r3.2).bind fun r4 => (some r4))) else (if a1 = (⟨#[114, 111, 119, 115]⟩ : ByteArray) then ((spec_RowsLeft.f k a0_0 a0_1 l0_2 a0_3).bind fun r5 => ((spec_l1Num.f k r5.1).bind fun r6 => (some r6))) else (if a1 = (⟨#[115, 116, 97, 116, 101, 115]⟩ : ByteArray) then ((spec_CarpetStates.f k a0_0 a0_1 l0_2 a0_3).bind fun r7 => ((spec_l28List.f k r7.1 r7.2).bind fun r8 => (some r8))) else (if a1 = (⟨#[110, 101, 120, 116]⟩ : ByteArray) then ((spec_DaysToSell.f k a0_0 a0_1 l0_2 a0_3).bind fun r9 => (cond r9.2 ((spec_l1Num.f k r9.1).bind fun r10 => (some r10)) (some (⟨#[63]⟩ : ByteArray)))) else (some (⟨#[63]⟩ : ByteArray))))))))
def f (k : Nat) (a0_0 a0_1 : Int) (l0_2 : List (Int × Int × Int × Int × Int)) (a0_3 : Int) (a1 : ByteArray) : Option (ByteArray) := m k a0_0 a0_1 l0_2 a0_3 a1
noncomputable def spec (k : Nat) : FnSpec := ⟨[.ag [.d (.int .i64) none, .d (.int .i64) none, .d (.sl (.pair (.int .i64) (.pair (.int .i64) (.pair (.int .i64) (.pair (.int .i64) (.int .i64)))))) none, .d (.int .i64) none], .d .str none], [.d .str none], fun x => f k x.1 x.2.1 x.2.2.1 x.2.2.2.1 x.2.2.2.2⟩
noncomputable def T : FnText := ⟨(conv [] (bodyOf Tryz.f88) 0).1, Tryz.f88.results.toList, 63, [], [.ag [.d (.int .i64) none, .d (.int .i64) none, .d (.sl (.pair (.int .i64) (.pair (.int .i64) (.pair (.int .i64) (.pair (.int .i64) (.int .i64)))))) none, .d (.int .i64) none], .d .str none], [.d .str none]⟩
noncomputable def tbl (k : Nat) : Tbl := [(73, spec_l1Num.spec k), (124, spec_FreeLooms.spec k), (125, spec_l28List.spec k), (126, spec_RowsLeft.spec k), (127, spec_CarpetStates.spec k), (128, spec_DaysToSell.spec k)]
theorem e (k : Nat) (o : Nat → St → Option (ByteArray)) (a0_0 a0_1 : Int) (l0_2 : List (Int × Int × Int × Int × Int)) (a0_3 : Int) (a1 : ByteArray) : T.main tyt (tbl k) o (a0_0, a0_1, l0_2, a0_3, a1) = m k a0_0 a0_1 l0_2 a0_3 a1 := by kernel_rfl
theorem ok : T.ok = true := by kernel_rfl
theorem tblok (k : Nat) : TblOk Tryz.prog (tbl k) := TblOk.cons (spec_l1Num.sound k) (TblOk.cons (spec_FreeLooms.sound k) (TblOk.cons (spec_l28List.sound k) (TblOk.cons (spec_RowsLeft.sound k) (TblOk.cons (spec_CarpetStates.sound k) (TblOk.cons (spec_DaysToSell.sound k) (TblOk.nil _))))))
theorem sound (k : Nat) : Sound Tryz.prog 88 (spec k) := by
  have h := fn_ok (F := T) (tbl := tbl) mixed tyok Tryz.func88 (by kernel_rfl) (c0 := bodyOf Tryz.f88) rfl (conv_code _ _ _) rfl rfl ok k (fun j _ => tblok j)
  have e : spec k = ⟨T.ps, T.rs, T.ev tyt tbl k⟩ := congrArg (FnSpec.mk _ _) (funext fun x => ((e k (T.run tyt tbl k) x.1 x.2.1 x.2.2.1 x.2.2.2.1 x.2.2.2.2).trans (by rfl)).symm)
  rw [e]
  exact h
end spec_l28Word

namespace spec_l25Text
/-! ### spec_l25Text: function 74 -/
def m (k : Nat) (a0_0 a0_1 a0_2 a0_3 a0_4 : Int) : Option (ByteArray) := ((chk [(⟨#[119, 97, 105, 116, 115]⟩ : ByteArray), (⟨#[119, 111, 118, 101, 110]⟩ : ByteArray), (⟨#[111, 102, 102]⟩ : ByteArray), (⟨#[119, 97, 115, 104, 101, 100]⟩ : ByteArray), (⟨#[115, 111, 108, 100]⟩ : ByteArray)].length a0_2).bind fun i1 => ((catS ([(⟨#[119, 97, 105, 116, 115]⟩ : ByteArray), (⟨#[119, 111, 118, 101, 110]⟩ : ByteArray), (⟨#[111, 102, 102]⟩ : ByteArray), (⟨#[119, 97, 115, 104, 101, 100]⟩ : ByteArray), (⟨#[115, 111, 108, 100]⟩ : ByteArray)].getD i1 ByteArray.empty) (⟨#[32]⟩ : ByteArray)).bind fun s2 => ((spec_l1Num.f k a0_1).bind fun r3 => ((catS s2 r3).bind fun s4 => ((catS s4 (⟨#[47]⟩ : ByteArray)).bind fun s5 => ((spec_l1Num.f k a0_0).bind fun r6 => ((catS s5 r6).bind fun s7 => (if 0 < a0_3 then ((catS s7 (⟨#[32, 111, 110, 32]⟩ : ByteArray)).bind fun s8 => ((spec_l1Num.f k a0_3).bind fun r9 => ((catS s8 r9).bind fun s10 => (some s10)))) else (some s7)))))))))
def f (k : Nat) (a0_0 a0_1 a0_2 a0_3 a0_4 : Int) : Option (ByteArray) := m k a0_0 a0_1 a0_2 a0_3 a0_4
noncomputable def spec (k : Nat) : FnSpec := ⟨[.ag [.d (.int .i64) none, .d (.int .i64) none, .d (.int .i64) none, .d (.int .i64) none, .d (.int .i64) none]], [.d .str none], fun x => f k x.1 x.2.1 x.2.2.1 x.2.2.2.1 x.2.2.2.2⟩
noncomputable def T : FnText := ⟨(conv [] (bodyOf Tryz.f74) 0).1, Tryz.f74.results.toList, 29, [], [.ag [.d (.int .i64) none, .d (.int .i64) none, .d (.int .i64) none, .d (.int .i64) none, .d (.int .i64) none]], [.d .str none]⟩
noncomputable def tbl (k : Nat) : Tbl := [(73, spec_l1Num.spec k)]
theorem e (k : Nat) (o : Nat → St → Option (ByteArray)) (a0_0 a0_1 a0_2 a0_3 a0_4 : Int) : T.main tyt (tbl k) o (a0_0, a0_1, a0_2, a0_3, a0_4) = m k a0_0 a0_1 a0_2 a0_3 a0_4 := by kernel_rfl
theorem ok : T.ok = true := by kernel_rfl
theorem tblok (k : Nat) : TblOk Tryz.prog (tbl k) := TblOk.cons (spec_l1Num.sound k) (TblOk.nil _)
theorem sound (k : Nat) : Sound Tryz.prog 74 (spec k) := by
  have h := fn_ok (F := T) (tbl := tbl) mixed tyok Tryz.func74 (by kernel_rfl) (c0 := bodyOf Tryz.f74) rfl (conv_code _ _ _) rfl rfl ok k (fun j _ => tblok j)
  have e : spec k = ⟨T.ps, T.rs, T.ev tyt tbl k⟩ := congrArg (FnSpec.mk _ _) (funext fun x => ((e k (T.run tyt tbl k) x.1 x.2.1 x.2.2.1 x.2.2.2.1 x.2.2.2.2).trans (by rfl)).symm)
  rw [e]
  exact h
end spec_l25Text

namespace spec_CarpetText
/-! ### spec_CarpetText: function 160 -/
def m (k : Nat) (a0_0 a0_1 : Int) (l0_2 : List (Int × Int × Int × Int × Int)) (a0_3 a1 : Int) : Option (ByteArray × Bool) := ((spec_l25Good.f k a0_0 a0_1 l0_2 a0_3).bind fun r1 => (cond (!r1) (some ((⟨#[]⟩ : ByteArray), false)) ((spec_l1In.f k a1 0 (w64 ((l0_2.length : Int) - 1))).bind fun r2 => (cond (!r2) (some ((⟨#[]⟩ : ByteArray), false)) ((chk l0_2.length a1).bind fun i3 => ((spec_l25Text.f k ((l0_2.getD i3 (0, 0, 0, 0, 0)).1) (((l0_2.getD i3 (0, 0, 0, 0, 0)).2).1) ((((l0_2.getD i3 (0, 0, 0, 0, 0)).2).2).1) (((((l0_2.getD i3 (0, 0, 0, 0, 0)).2).2).2).1) (((((l0_2.getD i3 (0, 0, 0, 0, 0)).2).2).2).2)).bind fun r4 => (some (r4, true))))))))
def f (k : Nat) (a0_0 a0_1 : Int) (l0_2 : List (Int × Int × Int × Int × Int)) (a0_3 a1 : Int) : Option (ByteArray × Bool) := m k a0_0 a0_1 l0_2 a0_3 a1
noncomputable def spec (k : Nat) : FnSpec := ⟨[.ag [.d (.int .i64) none, .d (.int .i64) none, .d (.sl (.pair (.int .i64) (.pair (.int .i64) (.pair (.int .i64) (.pair (.int .i64) (.int .i64)))))) none, .d (.int .i64) none], .d (.int .i64) none], [.d .str none, .d .bool none], fun x => f k x.1 x.2.1 x.2.2.1 x.2.2.2.1 x.2.2.2.2⟩
noncomputable def T : FnText := ⟨(conv [] (bodyOf Tryz.f160) 0).1, Tryz.f160.results.toList, 24, [], [.ag [.d (.int .i64) none, .d (.int .i64) none, .d (.sl (.pair (.int .i64) (.pair (.int .i64) (.pair (.int .i64) (.pair (.int .i64) (.int .i64)))))) none, .d (.int .i64) none], .d (.int .i64) none], [.d .str none, .d .bool none]⟩
noncomputable def tbl (k : Nat) : Tbl := [(84, spec_l25Good.spec k), (118, spec_l1In.spec k), (74, spec_l25Text.spec k)]
theorem e (k : Nat) (o : Nat → St → Option (ByteArray × Bool)) (a0_0 a0_1 : Int) (l0_2 : List (Int × Int × Int × Int × Int)) (a0_3 a1 : Int) : T.main tyt (tbl k) o (a0_0, a0_1, l0_2, a0_3, a1) = m k a0_0 a0_1 l0_2 a0_3 a1 := by kernel_rfl
theorem ok : T.ok = true := by kernel_rfl
theorem tblok (k : Nat) : TblOk Tryz.prog (tbl k) := TblOk.cons (spec_l25Good.sound k) (TblOk.cons (spec_l1In.sound k) (TblOk.cons (spec_l25Text.sound k) (TblOk.nil _)))
theorem sound (k : Nat) : Sound Tryz.prog 160 (spec k) := by
  have h := fn_ok (F := T) (tbl := tbl) mixed tyok Tryz.func160 (by kernel_rfl) (c0 := bodyOf Tryz.f160) rfl (conv_code _ _ _) rfl rfl ok k (fun j _ => tblok j)
  have e : spec k = ⟨T.ps, T.rs, T.ev tyt tbl k⟩ := congrArg (FnSpec.mk _ _) (funext fun x => ((e k (T.run tyt tbl k) x.1 x.2.1 x.2.2.1 x.2.2.2.1 x.2.2.2.2).trans (by rfl)).symm)
  rw [e]
  exact h
end spec_CarpetText

namespace spec_l28Carpet
/-! ### spec_l28Carpet: function 130 -/
def m (k : Nat) (a0_0 a0_1 : Int) (l0_2 : List (Int × Int × Int × Int × Int)) (a0_3 a1 : Int) : Option (ByteArray) := ((spec_CarpetText.f k a0_0 a0_1 l0_2 a0_3 a1).bind fun r1 => (cond (!r1.2) (some (⟨#[63]⟩ : ByteArray)) (some r1.1)))
def f (k : Nat) (a0_0 a0_1 : Int) (l0_2 : List (Int × Int × Int × Int × Int)) (a0_3 a1 : Int) : Option (ByteArray) := m k a0_0 a0_1 l0_2 a0_3 a1
noncomputable def spec (k : Nat) : FnSpec := ⟨[.ag [.d (.int .i64) none, .d (.int .i64) none, .d (.sl (.pair (.int .i64) (.pair (.int .i64) (.pair (.int .i64) (.pair (.int .i64) (.int .i64)))))) none, .d (.int .i64) none], .d (.int .i64) none], [.d .str none], fun x => f k x.1 x.2.1 x.2.2.1 x.2.2.2.1 x.2.2.2.2⟩
noncomputable def T : FnText := ⟨(conv [] (bodyOf Tryz.f130) 0).1, Tryz.f130.results.toList, 16, [], [.ag [.d (.int .i64) none, .d (.int .i64) none, .d (.sl (.pair (.int .i64) (.pair (.int .i64) (.pair (.int .i64) (.pair (.int .i64) (.int .i64)))))) none, .d (.int .i64) none], .d (.int .i64) none], [.d .str none]⟩
noncomputable def tbl (k : Nat) : Tbl := [(160, spec_CarpetText.spec k)]
theorem e (k : Nat) (o : Nat → St → Option (ByteArray)) (a0_0 a0_1 : Int) (l0_2 : List (Int × Int × Int × Int × Int)) (a0_3 a1 : Int) : T.main tyt (tbl k) o (a0_0, a0_1, l0_2, a0_3, a1) = m k a0_0 a0_1 l0_2 a0_3 a1 := by kernel_rfl
theorem ok : T.ok = true := by kernel_rfl
theorem tblok (k : Nat) : TblOk Tryz.prog (tbl k) := TblOk.cons (spec_CarpetText.sound k) (TblOk.nil _)
theorem sound (k : Nat) : Sound Tryz.prog 130 (spec k) := by
  have h := fn_ok (F := T) (tbl := tbl) mixed tyok Tryz.func130 (by kernel_rfl) (c0 := bodyOf Tryz.f130) rfl (conv_code _ _ _) rfl rfl ok k (fun j _ => tblok j)
  have e : spec k = ⟨T.ps, T.rs, T.ev tyt tbl k⟩ := congrArg (FnSpec.mk _ _) (funext fun x => ((e k (T.run tyt tbl k) x.1 x.2.1 x.2.2.1 x.2.2.2.1 x.2.2.2.2).trans (by rfl)).symm)
  rw [e]
  exact h
end spec_l28Carpet

namespace spec_l28Make
/-! ### spec_l28Make: function 129 -/
def m (k : Nat) (a0_0 a0_1 : Int) (l0_2 : List (Int × Int × Int × Int × Int)) (a0_3 : Int) (a0_4 a0_5 : ByteArray) (a0_6 a1_0 a1_1 a1_2 : Int) : Option (Int × Int × List (Int × Int × Int × Int × Int) × Int × ByteArray × ByteArray × Int × ByteArray) := ((spec_StepShop.f k a0_0 a0_1 l0_2 a0_3 a1_0 a1_1 a1_2).bind fun r1 => (cond (!r1.2.2.2.2) (some (a0_0, a0_1, l0_2, a0_3, a0_4, a0_5, a0_6, (⟨#[63]⟩ : ByteArray))) (if a1_0 = 1 then ((spec_l1Num.f k r1.1).bind fun r2 => (some (r1.1, r1.2.1, r1.2.2.1, r1.2.2.2.1, a0_4, a0_5, a0_6, r2))) else (if a1_0 = 2 then ((spec_l1Num.f k (w64 ((r1.2.2.1.length : Int) - 1))).bind fun r3 => (some (r1.1, r1.2.1, r1.2.2.1, r1.2.2.2.1, a0_4, a0_5, a0_6, r3))) else (if a1_0 = 7 then ((spec_l1Num.f k r1.2.2.2.1).bind fun r4 => (some (r1.1, r1.2.1, r1.2.2.1, r1.2.2.2.1, a0_4, a0_5, a0_6, r4))) else ((spec_l28Carpet.f k r1.1 r1.2.1 r1.2.2.1 r1.2.2.2.1 a1_1).bind fun r5 => (some (r1.1, r1.2.1, r1.2.2.1, r1.2.2.2.1, a0_4, a0_5, a0_6, r5))))))))
def f (k : Nat) (a0_0 a0_1 : Int) (l0_2 : List (Int × Int × Int × Int × Int)) (a0_3 : Int) (a0_4 a0_5 : ByteArray) (a0_6 a1_0 a1_1 a1_2 : Int) : Option (Int × Int × List (Int × Int × Int × Int × Int) × Int × ByteArray × ByteArray × Int × ByteArray) := m k a0_0 a0_1 l0_2 a0_3 a0_4 a0_5 a0_6 a1_0 a1_1 a1_2
noncomputable def spec (k : Nat) : FnSpec := ⟨[.ag [.d (.int .i64) none, .d (.int .i64) none, .d (.sl (.pair (.int .i64) (.pair (.int .i64) (.pair (.int .i64) (.pair (.int .i64) (.int .i64)))))) none, .d (.int .i64) none, .d .str none, .d .str none, .d (.int .i64) none], .ag [.d (.int .i64) none, .d (.int .i64) none, .d (.int .i64) none]], [.ag [.d (.int .i64) none, .d (.int .i64) none, .d (.sl (.pair (.int .i64) (.pair (.int .i64) (.pair (.int .i64) (.pair (.int .i64) (.int .i64)))))) none, .d (.int .i64) none, .d .str none, .d .str none, .d (.int .i64) none], .d .str none], fun x => f k x.1 x.2.1 x.2.2.1 x.2.2.2.1 x.2.2.2.2.1 x.2.2.2.2.2.1 x.2.2.2.2.2.2.1 x.2.2.2.2.2.2.2.1 x.2.2.2.2.2.2.2.2.1 x.2.2.2.2.2.2.2.2.2⟩
noncomputable def T : FnText := ⟨(conv [] (bodyOf Tryz.f129) 0).1, Tryz.f129.results.toList, 49, [], [.ag [.d (.int .i64) none, .d (.int .i64) none, .d (.sl (.pair (.int .i64) (.pair (.int .i64) (.pair (.int .i64) (.pair (.int .i64) (.int .i64)))))) none, .d (.int .i64) none, .d .str none, .d .str none, .d (.int .i64) none], .ag [.d (.int .i64) none, .d (.int .i64) none, .d (.int .i64) none]], [.ag [.d (.int .i64) none, .d (.int .i64) none, .d (.sl (.pair (.int .i64) (.pair (.int .i64) (.pair (.int .i64) (.pair (.int .i64) (.int .i64)))))) none, .d (.int .i64) none, .d .str none, .d .str none, .d (.int .i64) none], .d .str none]⟩
noncomputable def tbl (k : Nat) : Tbl := [(148, spec_StepShop.spec k), (73, spec_l1Num.spec k), (130, spec_l28Carpet.spec k)]
theorem e (k : Nat) (o : Nat → St → Option (Int × Int × List (Int × Int × Int × Int × Int) × Int × ByteArray × ByteArray × Int × ByteArray)) (a0_0 a0_1 : Int) (l0_2 : List (Int × Int × Int × Int × Int)) (a0_3 : Int) (a0_4 a0_5 : ByteArray) (a0_6 a1_0 a1_1 a1_2 : Int) : T.main tyt (tbl k) o (a0_0, a0_1, l0_2, a0_3, a0_4, a0_5, a0_6, a1_0, a1_1, a1_2) = m k a0_0 a0_1 l0_2 a0_3 a0_4 a0_5 a0_6 a1_0 a1_1 a1_2 := by kernel_rfl
theorem ok : T.ok = true := by kernel_rfl
theorem tblok (k : Nat) : TblOk Tryz.prog (tbl k) := TblOk.cons (spec_StepShop.sound k) (TblOk.cons (spec_l1Num.sound k) (TblOk.cons (spec_l28Carpet.sound k) (TblOk.nil _)))
theorem sound (k : Nat) : Sound Tryz.prog 129 (spec k) := by
  have h := fn_ok (F := T) (tbl := tbl) mixed tyok Tryz.func129 (by kernel_rfl) (c0 := bodyOf Tryz.f129) rfl (conv_code _ _ _) rfl rfl ok k (fun j _ => tblok j)
  have e : spec k = ⟨T.ps, T.rs, T.ev tyt tbl k⟩ := congrArg (FnSpec.mk _ _) (funext fun x => ((e k (T.run tyt tbl k) x.1 x.2.1 x.2.2.1 x.2.2.2.1 x.2.2.2.2.1 x.2.2.2.2.2.1 x.2.2.2.2.2.2.1 x.2.2.2.2.2.2.2.1 x.2.2.2.2.2.2.2.2.1 x.2.2.2.2.2.2.2.2.2).trans (by rfl)).symm)
  rw [e]
  exact h
end spec_l28Make

namespace spec_l28One
/-! ### spec_l28One: function 89 -/
def m (k : Nat) (a0_0 a0_1 : Int) (l0_2 : List (Int × Int × Int × Int × Int)) (a0_3 : Int) (a0_4 a0_5 : ByteArray) (a0_6 : Int) (a1 : ByteArray) (a2 : Int) : Option (Int × Int × List (Int × Int × Int × Int × Int) × Int × ByteArray × ByteArray × Int × ByteArray) := (if a1 = (⟨#[119, 97, 105, 116]⟩ : ByteArray) then ((spec_l28Make.f k a0_0 a0_1 l0_2 a0_3 a0_4 a0_5 a0_6 1 0 a2).bind fun r1 => (some (r1.1, r1.2.1, r1.2.2.1, r1.2.2.2.1, r1.2.2.2.2.1, r1.2.2.2.2.2.1, r1.2.2.2.2.2.2.1, r1.2.2.2.2.2.2.2))) else (if a1 = (⟨#[111, 114, 100, 101, 114]⟩ : ByteArray) then ((spec_l28Make.f k a0_0 a0_1 l0_2 a0_3 a0_4 a0_5 a0_6 2 0 a2).bind fun r2 => (some (r2.1, r2.2.1, r2.2.2.1, r2.2.2.2.1, r2.2.2.2.2.1, r2.2.2.2.2.2.1, r2.2.2.2.2.2.2.1, r2.2.2.2.2.2.2.2))) else (if a1 = (⟨#[116, 97, 107, 101]⟩ : ByteArray) then ((spec_l28Make.f k a0_0 a0_1 l0_2 a0_3 a0_4 a0_5 a0_6 5 a2 0).bind fun r3 => (some (r3.1, r3.2.1, r3.2.2.1, r3.2.2.2.1, r3.2.2.2.2.1, r3.2.2.2.2.2.1, r3.2.2.2.2.2.2.1, r3.2.2.2.2.2.2.2))) else (if a1 = (⟨#[119, 97, 115, 104]⟩ : ByteArray) then ((spec_l28Make.f k a0_0 a0_1 l0_2 a0_3 a0_4 a0_5 a0_6 6 a2 0).bind fun r4 => (some (r4.1, r4.2.1, r4.2.2.1, r4.2.2.2.1, r4.2.2.2.2.1, r4.2.2.2.2.2.1, r4.2.2.2.2.2.2.1, r4.2.2.2.2.2.2.2))) else (if a1 = (⟨#[99, 97, 114, 112, 101, 116]⟩ : ByteArray) then ((spec_l28Carpet.f k a0_0 a0_1 l0_2 a0_3 a2).bind fun r5 => (some (a0_0, a0_1, l0_2, a0_3, a0_4, a0_5, a0_6, r5))) else (some (a0_0, a0_1, l0_2, a0_3, a0_4, a0_5, a0_6, (⟨#[63]⟩ : ByteArray))))))))
def f (k : Nat) (a0_0 a0_1 : Int) (l0_2 : List (Int × Int × Int × Int × Int)) (a0_3 : Int) (a0_4 a0_5 : ByteArray) (a0_6 : Int) (a1 : ByteArray) (a2 : Int) : Option (Int × Int × List (Int × Int × Int × Int × Int) × Int × ByteArray × ByteArray × Int × ByteArray) := m k a0_0 a0_1 l0_2 a0_3 a0_4 a0_5 a0_6 a1 a2
noncomputable def spec (k : Nat) : FnSpec := ⟨[.ag [.d (.int .i64) none, .d (.int .i64) none, .d (.sl (.pair (.int .i64) (.pair (.int .i64) (.pair (.int .i64) (.pair (.int .i64) (.int .i64)))))) none, .d (.int .i64) none, .d .str none, .d .str none, .d (.int .i64) none], .d .str none, .d (.int .i64) none], [.ag [.d (.int .i64) none, .d (.int .i64) none, .d (.sl (.pair (.int .i64) (.pair (.int .i64) (.pair (.int .i64) (.pair (.int .i64) (.int .i64)))))) none, .d (.int .i64) none, .d .str none, .d .str none, .d (.int .i64) none], .d .str none], fun x => f k x.1 x.2.1 x.2.2.1 x.2.2.2.1 x.2.2.2.2.1 x.2.2.2.2.2.1 x.2.2.2.2.2.2.1 x.2.2.2.2.2.2.2.1 x.2.2.2.2.2.2.2.2⟩
noncomputable def T : FnText := ⟨(conv [] (bodyOf Tryz.f89) 0).1, Tryz.f89.results.toList, 49, [], [.ag [.d (.int .i64) none, .d (.int .i64) none, .d (.sl (.pair (.int .i64) (.pair (.int .i64) (.pair (.int .i64) (.pair (.int .i64) (.int .i64)))))) none, .d (.int .i64) none, .d .str none, .d .str none, .d (.int .i64) none], .d .str none, .d (.int .i64) none], [.ag [.d (.int .i64) none, .d (.int .i64) none, .d (.sl (.pair (.int .i64) (.pair (.int .i64) (.pair (.int .i64) (.pair (.int .i64) (.int .i64)))))) none, .d (.int .i64) none, .d .str none, .d .str none, .d (.int .i64) none], .d .str none]⟩
noncomputable def tbl (k : Nat) : Tbl := [(129, spec_l28Make.spec k), (130, spec_l28Carpet.spec k)]
theorem e (k : Nat) (o : Nat → St → Option (Int × Int × List (Int × Int × Int × Int × Int) × Int × ByteArray × ByteArray × Int × ByteArray)) (a0_0 a0_1 : Int) (l0_2 : List (Int × Int × Int × Int × Int)) (a0_3 : Int) (a0_4 a0_5 : ByteArray) (a0_6 : Int) (a1 : ByteArray) (a2 : Int) : T.main tyt (tbl k) o (a0_0, a0_1, l0_2, a0_3, a0_4, a0_5, a0_6, a1, a2) = m k a0_0 a0_1 l0_2 a0_3 a0_4 a0_5 a0_6 a1 a2 := by kernel_rfl
theorem ok : T.ok = true := by kernel_rfl
theorem tblok (k : Nat) : TblOk Tryz.prog (tbl k) := TblOk.cons (spec_l28Make.sound k) (TblOk.cons (spec_l28Carpet.sound k) (TblOk.nil _))
theorem sound (k : Nat) : Sound Tryz.prog 89 (spec k) := by
  have h := fn_ok (F := T) (tbl := tbl) mixed tyok Tryz.func89 (by kernel_rfl) (c0 := bodyOf Tryz.f89) rfl (conv_code _ _ _) rfl rfl ok k (fun j _ => tblok j)
  have e : spec k = ⟨T.ps, T.rs, T.ev tyt tbl k⟩ := congrArg (FnSpec.mk _ _) (funext fun x => ((e k (T.run tyt tbl k) x.1 x.2.1 x.2.2.1 x.2.2.2.1 x.2.2.2.2.1 x.2.2.2.2.2.1 x.2.2.2.2.2.2.1 x.2.2.2.2.2.2.2.1 x.2.2.2.2.2.2.2.2).trans (by rfl)).symm)
  rw [e]
  exact h
end spec_l28One

namespace spec_l28Two
/-! ### spec_l28Two: function 90 -/
def m (k : Nat) (a0_0 a0_1 : Int) (l0_2 : List (Int × Int × Int × Int × Int)) (a0_3 : Int) (a0_4 a0_5 : ByteArray) (a0_6 : Int) (a1 : ByteArray) (a2 a3 : Int) : Option (Int × Int × List (Int × Int × Int × Int × Int) × Int × ByteArray × ByteArray × Int × ByteArray) := (if a1 = (⟨#[119, 97, 114, 112]⟩ : ByteArray) then ((spec_l28Make.f k a0_0 a0_1 l0_2 a0_3 a0_4 a0_5 a0_6 3 a2 a3).bind fun r1 => (some (r1.1, r1.2.1, r1.2.2.1, r1.2.2.2.1, r1.2.2.2.2.1, r1.2.2.2.2.2.1, r1.2.2.2.2.2.2.1, r1.2.2.2.2.2.2.2))) else (if a1 = (⟨#[119, 101, 97, 118, 101]⟩ : ByteArray) then ((spec_l28Make.f k a0_0 a0_1 l0_2 a0_3 a0_4 a0_5 a0_6 4 a2 a3).bind fun r2 => (some (r2.1, r2.2.1, r2.2.2.1, r2.2.2.2.1, r2.2.2.2.2.1, r2.2.2.2.2.2.1, r2.2.2.2.2.2.2.1, r2.2.2.2.2.2.2.2))) else (if a1 = (⟨#[115, 101, 108, 108]⟩ : ByteArray) then ((spec_l28Make.f k a0_0 a0_1 l0_2 a0_3 a0_4 a0_5 a0_6 7 a2 a3).bind fun r3 => (some (r3.1, r3.2.1, r3.2.2.1, r3.2.2.2.1, r3.2.2.2.2.1, r3.2.2.2.2.2.1, r3.2.2.2.2.2.2.1, r3.2.2.2.2.2.2.2))) else (some (a0_0, a0_1, l0_2, a0_3, a0_4, a0_5, a0_6, (⟨#[63]⟩ : ByteArray))))))
def f (k : Nat) (a0_0 a0_1 : Int) (l0_2 : List (Int × Int × Int × Int × Int)) (a0_3 : Int) (a0_4 a0_5 : ByteArray) (a0_6 : Int) (a1 : ByteArray) (a2 a3 : Int) : Option (Int × Int × List (Int × Int × Int × Int × Int) × Int × ByteArray × ByteArray × Int × ByteArray) := m k a0_0 a0_1 l0_2 a0_3 a0_4 a0_5 a0_6 a1 a2 a3
noncomputable def spec (k : Nat) : FnSpec := ⟨[.ag [.d (.int .i64) none, .d (.int .i64) none, .d (.sl (.pair (.int .i64) (.pair (.int .i64) (.pair (.int .i64) (.pair (.int .i64) (.int .i64)))))) none, .d (.int .i64) none, .d .str none, .d .str none, .d (.int .i64) none], .d .str none, .d (.int .i64) none, .d (.int .i64) none], [.ag [.d (.int .i64) none, .d (.int .i64) none, .d (.sl (.pair (.int .i64) (.pair (.int .i64) (.pair (.int .i64) (.pair (.int .i64) (.int .i64)))))) none, .d (.int .i64) none, .d .str none, .d .str none, .d (.int .i64) none], .d .str none], fun x => f k x.1 x.2.1 x.2.2.1 x.2.2.2.1 x.2.2.2.2.1 x.2.2.2.2.2.1 x.2.2.2.2.2.2.1 x.2.2.2.2.2.2.2.1 x.2.2.2.2.2.2.2.2.1 x.2.2.2.2.2.2.2.2.2⟩
noncomputable def T : FnText := ⟨(conv [] (bodyOf Tryz.f90) 0).1, Tryz.f90.results.toList, 39, [], [.ag [.d (.int .i64) none, .d (.int .i64) none, .d (.sl (.pair (.int .i64) (.pair (.int .i64) (.pair (.int .i64) (.pair (.int .i64) (.int .i64)))))) none, .d (.int .i64) none, .d .str none, .d .str none, .d (.int .i64) none], .d .str none, .d (.int .i64) none, .d (.int .i64) none], [.ag [.d (.int .i64) none, .d (.int .i64) none, .d (.sl (.pair (.int .i64) (.pair (.int .i64) (.pair (.int .i64) (.pair (.int .i64) (.int .i64)))))) none, .d (.int .i64) none, .d .str none, .d .str none, .d (.int .i64) none], .d .str none]⟩
noncomputable def tbl (k : Nat) : Tbl := [(129, spec_l28Make.spec k)]
theorem e (k : Nat) (o : Nat → St → Option (Int × Int × List (Int × Int × Int × Int × Int) × Int × ByteArray × ByteArray × Int × ByteArray)) (a0_0 a0_1 : Int) (l0_2 : List (Int × Int × Int × Int × Int)) (a0_3 : Int) (a0_4 a0_5 : ByteArray) (a0_6 : Int) (a1 : ByteArray) (a2 a3 : Int) : T.main tyt (tbl k) o (a0_0, a0_1, l0_2, a0_3, a0_4, a0_5, a0_6, a1, a2, a3) = m k a0_0 a0_1 l0_2 a0_3 a0_4 a0_5 a0_6 a1 a2 a3 := by kernel_rfl
theorem ok : T.ok = true := by kernel_rfl
theorem tblok (k : Nat) : TblOk Tryz.prog (tbl k) := TblOk.cons (spec_l28Make.sound k) (TblOk.nil _)
theorem sound (k : Nat) : Sound Tryz.prog 90 (spec k) := by
  have h := fn_ok (F := T) (tbl := tbl) mixed tyok Tryz.func90 (by kernel_rfl) (c0 := bodyOf Tryz.f90) rfl (conv_code _ _ _) rfl rfl ok k (fun j _ => tblok j)
  have e : spec k = ⟨T.ps, T.rs, T.ev tyt tbl k⟩ := congrArg (FnSpec.mk _ _) (funext fun x => ((e k (T.run tyt tbl k) x.1 x.2.1 x.2.2.1 x.2.2.2.1 x.2.2.2.2.1 x.2.2.2.2.2.1 x.2.2.2.2.2.2.1 x.2.2.2.2.2.2.2.1 x.2.2.2.2.2.2.2.2.1 x.2.2.2.2.2.2.2.2.2).trans (by rfl)).symm)
  rw [e]
  exact h
end spec_l28Two

namespace spec_l28Run
/-! ### spec_l28Run: function 46 -/
def b5 (o5 : ByteArray → Int → Int → (List (Int × Int × Int × Int × Int)) → Int → ByteArray → ByteArray → Int → Int → Int → (List (Int × Int × Int × Int × Int)) → Int → ByteArray → ByteArray → Int → List ByteArray → List Int → Int → Option (Int × Int × List (Int × Int × Int × Int × Int) × Int × ByteArray × ByteArray × Int × ByteArray)) (k : Nat) (x0_5 : ByteArray) (x1_5 x2_5 : Int) (l3_5 : List (Int × Int × Int × Int × Int)) (x4_5 : Int) (x5_5 x6_5 : ByteArray) (x7_5 x8_5 x9_5 : Int) (l10_5 : List (Int × Int × Int × Int × Int)) (x11_5 : Int) (x12_5 x13_5 : ByteArray) (x14_5 : Int) (l15_5 : List ByteArray) (l16_5 : List Int) (x17_5 : Int) : Option (Int × Int × List (Int × Int × Int × Int × Int) × Int × ByteArray × ByteArray × Int × ByteArray) := (if x17_5 < (l15_5.length : Int) then ((chk l15_5.length x17_5).bind fun i2 => ((spec_ParseInt.f k (l15_5.getD i2 ByteArray.empty)).bind fun r3 => (cond (!r3.2) (some (x1_5, x2_5, l3_5, x4_5, x5_5, x6_5, x7_5, (⟨#[63]⟩ : ByteArray))) ((app 17592186044416 l16_5 [r3.1]).bind fun l4 => (o5 x0_5 x1_5 x2_5 l3_5 x4_5 x5_5 x6_5 x7_5 x8_5 x9_5 l10_5 x11_5 x12_5 x13_5 x14_5 l15_5 l4 (w64 (x17_5 + 1))))))) else (if (l16_5.length : Int) = 0 then ((spec_l28Word.f k x1_5 x2_5 l3_5 x4_5 x0_5).bind fun r5 => (some (x1_5, x2_5, l3_5, x4_5, x5_5, x6_5, x7_5, r5))) else (if (l16_5.length : Int) = 1 then ((chk l15_5.length 0).bind fun i6 => ((chk l16_5.length 0).bind fun i7 => ((spec_l28One.f k x1_5 x2_5 l3_5 x4_5 x5_5 x6_5 x7_5 (l15_5.getD i6 ByteArray.empty) (l16_5.getD i7 0)).bind fun r8 => (some (r8.1, r8.2.1, r8.2.2.1, r8.2.2.2.1, r8.2.2.2.2.1, r8.2.2.2.2.2.1, r8.2.2.2.2.2.2.1, r8.2.2.2.2.2.2.2))))) else (if (l16_5.length : Int) = 2 then ((chk l15_5.length 0).bind fun i9 => ((chk l16_5.length 0).bind fun i10 => ((chk l16_5.length 1).bind fun i11 => ((spec_l28Two.f k x1_5 x2_5 l3_5 x4_5 x5_5 x6_5 x7_5 (l15_5.getD i9 ByteArray.empty) (l16_5.getD i10 0) (l16_5.getD i11 0)).bind fun r12 => (some (r12.1, r12.2.1, r12.2.2.1, r12.2.2.2.1, r12.2.2.2.2.1, r12.2.2.2.2.2.1, r12.2.2.2.2.2.2.1, r12.2.2.2.2.2.2.2)))))) else (some (x1_5, x2_5, l3_5, x4_5, x5_5, x6_5, x7_5, (⟨#[63]⟩ : ByteArray)))))))
def l5 : Nat → ByteArray → Int → Int → (List (Int × Int × Int × Int × Int)) → Int → ByteArray → ByteArray → Int → Int → Int → (List (Int × Int × Int × Int × Int)) → Int → ByteArray → ByteArray → Int → List ByteArray → List Int → Int → Option (Int × Int × List (Int × Int × Int × Int × Int) × Int × ByteArray × ByteArray × Int × ByteArray)
  | 0, _, _, _, _, _, _, _, _, _, _, _, _, _, _, _, _, _, _ => none
  | k + 1, x0_5, x1_5, x2_5, l3_5, x4_5, x5_5, x6_5, x7_5, x8_5, x9_5, l10_5, x11_5, x12_5, x13_5, x14_5, l15_5, l16_5, x17_5 => b5 (spec_l28Run.l5 k) k x0_5 x1_5 x2_5 l3_5 x4_5 x5_5 x6_5 x7_5 x8_5 x9_5 l10_5 x11_5 x12_5 x13_5 x14_5 l15_5 l16_5 x17_5
def m (o5 : ByteArray → Int → Int → (List (Int × Int × Int × Int × Int)) → Int → ByteArray → ByteArray → Int → Int → Int → (List (Int × Int × Int × Int × Int)) → Int → ByteArray → ByteArray → Int → List ByteArray → List Int → Int → Option (Int × Int × List (Int × Int × Int × Int × Int) × Int × ByteArray × ByteArray × Int × ByteArray)) (k : Nat) (a0_0 a0_1 : Int) (l0_2 : List (Int × Int × Int × Int × Int)) (a0_3 : Int) (a0_4 a0_5 : ByteArray) (a0_6 : Int) (a1 : ByteArray) : Option (Int × Int × List (Int × Int × Int × Int × Int) × Int × ByteArray × ByteArray × Int × ByteArray) := ((spec_l1Split.f k a1 32).bind fun r1 => (o5 a1 a0_0 a0_1 l0_2 a0_3 a0_4 a0_5 a0_6 0 0 [] 0 ByteArray.empty ByteArray.empty 0 r1 ([] : List (Int)) 1))
def f (k : Nat) (a0_0 a0_1 : Int) (l0_2 : List (Int × Int × Int × Int × Int)) (a0_3 : Int) (a0_4 a0_5 : ByteArray) (a0_6 : Int) (a1 : ByteArray) : Option (Int × Int × List (Int × Int × Int × Int × Int) × Int × ByteArray × ByteArray × Int × ByteArray) := m (spec_l28Run.l5 k) k a0_0 a0_1 l0_2 a0_3 a0_4 a0_5 a0_6 a1
noncomputable def spec (k : Nat) : FnSpec := ⟨[.ag [.d (.int .i64) none, .d (.int .i64) none, .d (.sl (.pair (.int .i64) (.pair (.int .i64) (.pair (.int .i64) (.pair (.int .i64) (.int .i64)))))) none, .d (.int .i64) none, .d .str none, .d .str none, .d (.int .i64) none], .d .str none], [.ag [.d (.int .i64) none, .d (.int .i64) none, .d (.sl (.pair (.int .i64) (.pair (.int .i64) (.pair (.int .i64) (.pair (.int .i64) (.int .i64)))))) none, .d (.int .i64) none, .d .str none, .d .str none, .d (.int .i64) none], .d .str none], fun x => f k x.1 x.2.1 x.2.2.1 x.2.2.2.1 x.2.2.2.2.1 x.2.2.2.2.2.1 x.2.2.2.2.2.2.1 x.2.2.2.2.2.2.2⟩
def S5 (x0_5 : ByteArray) (x1_5 x2_5 : Int) (l3_5 : List (Int × Int × Int × Int × Int)) (x4_5 : Int) (x5_5 x6_5 : ByteArray) (x7_5 x8_5 x9_5 : Int) (l10_5 : List (Int × Int × Int × Int × Int)) (x11_5 : Int) (x12_5 x13_5 : ByteArray) (x14_5 : Int) (l15_5 : List ByteArray) (l16_5 : List Int) (x17_5 : Int) : St := ⟨[(1, .val .str x0_5), (2, .ptr 100 0), (4, .ptr 101 0), (6, .ref 102), (7, .ref 103), (8, .val (.int .i64) x17_5)], [(103, some (.row 3 (.int .i64) l16_5)), (102, some (.row 9 .str l15_5)), (101, some (.box [.val (.int .i64) x8_5, .val (.int .i64) x9_5, .val (.sl (.pair (.int .i64) (.pair (.int .i64) (.pair (.int .i64) (.pair (.int .i64) (.int .i64)))))) l10_5, .val (.int .i64) x11_5, .val .str x12_5, .val .str x13_5, .val (.int .i64) x14_5])), (100, some (.box [.val (.int .i64) x1_5, .val (.int .i64) x2_5, .val (.sl (.pair (.int .i64) (.pair (.int .i64) (.pair (.int .i64) (.pair (.int .i64) (.int .i64)))))) l3_5, .val (.int .i64) x4_5, .val .str x5_5, .val .str x6_5, .val (.int .i64) x7_5]))], 1000⟩
noncomputable def T : FnText := ⟨(conv [] (bodyOf Tryz.f46) 0).1, Tryz.f46.results.toList, 72, [(5, [(1, .rd .str), (2, .bx 100 [.rd (.int .i64), .rd (.int .i64), .rd (.sl (.pair (.int .i64) (.pair (.int .i64) (.pair (.int .i64) (.pair (.int .i64) (.int .i64)))))), .rd (.int .i64), .rd .str, .rd .str, .rd (.int .i64)]), (4, .bx 101 [.rd (.int .i64), .rd (.int .i64), .rd (.sl (.pair (.int .i64) (.pair (.int .i64) (.pair (.int .i64) (.pair (.int .i64) (.int .i64)))))), .rd (.int .i64), .rd .str, .rd .str, .rd (.int .i64)]), (6, .own 9 .str 102), (7, .own 3 (.int .i64) 103), (8, .rd (.int .i64))])], [.ag [.d (.int .i64) none, .d (.int .i64) none, .d (.sl (.pair (.int .i64) (.pair (.int .i64) (.pair (.int .i64) (.pair (.int .i64) (.int .i64)))))) none, .d (.int .i64) none, .d .str none, .d .str none, .d (.int .i64) none], .d .str none], [.ag [.d (.int .i64) none, .d (.int .i64) none, .d (.sl (.pair (.int .i64) (.pair (.int .i64) (.pair (.int .i64) (.pair (.int .i64) (.int .i64)))))) none, .d (.int .i64) none, .d .str none, .d .str none, .d (.int .i64) none], .d .str none]⟩
noncomputable def tbl (k : Nat) : Tbl := [(66, spec_l1Split.spec k), (87, spec_ParseInt.spec k), (88, spec_l28Word.spec k), (89, spec_l28One.spec k), (90, spec_l28Two.spec k)]
theorem e5 (k : Nat) (o : Nat → St → Option (Int × Int × List (Int × Int × Int × Int × Int) × Int × ByteArray × ByteArray × Int × ByteArray)) (x0_5 : ByteArray) (x1_5 x2_5 : Int) (l3_5 : List (Int × Int × Int × Int × Int)) (x4_5 : Int) (x5_5 x6_5 : ByteArray) (x7_5 x8_5 x9_5 : Int) (l10_5 : List (Int × Int × Int × Int × Int)) (x11_5 : Int) (x12_5 x13_5 : ByteArray) (x14_5 : Int) (l15_5 : List ByteArray) (l16_5 : List Int) (x17_5 : Int) : T.step tyt (tbl k) o 5 (S5 x0_5 x1_5 x2_5 l3_5 x4_5 x5_5 x6_5 x7_5 x8_5 x9_5 l10_5 x11_5 x12_5 x13_5 x14_5 l15_5 l16_5 x17_5) = b5 (fun x0_5 x1_5 x2_5 l3_5 x4_5 x5_5 x6_5 x7_5 x8_5 x9_5 l10_5 x11_5 x12_5 x13_5 x14_5 l15_5 l16_5 x17_5 => o 5 (S5 x0_5 x1_5 x2_5 l3_5 x4_5 x5_5 x6_5 x7_5 x8_5 x9_5 l10_5 x11_5 x12_5 x13_5 x14_5 l15_5 l16_5 x17_5)) k x0_5 x1_5 x2_5 l3_5 x4_5 x5_5 x6_5 x7_5 x8_5 x9_5 l10_5 x11_5 x12_5 x13_5 x14_5 l15_5 l16_5 x17_5 := by kernel_rfl
theorem e (k : Nat) (o : Nat → St → Option (Int × Int × List (Int × Int × Int × Int × Int) × Int × ByteArray × ByteArray × Int × ByteArray)) (a0_0 a0_1 : Int) (l0_2 : List (Int × Int × Int × Int × Int)) (a0_3 : Int) (a0_4 a0_5 : ByteArray) (a0_6 : Int) (a1 : ByteArray) : T.main tyt (tbl k) o (a0_0, a0_1, l0_2, a0_3, a0_4, a0_5, a0_6, a1) = m (fun x0_5 x1_5 x2_5 l3_5 x4_5 x5_5 x6_5 x7_5 x8_5 x9_5 l10_5 x11_5 x12_5 x13_5 x14_5 l15_5 l16_5 x17_5 => o 5 (S5 x0_5 x1_5 x2_5 l3_5 x4_5 x5_5 x6_5 x7_5 x8_5 x9_5 l10_5 x11_5 x12_5 x13_5 x14_5 l15_5 l16_5 x17_5)) k a0_0 a0_1 l0_2 a0_3 a0_4 a0_5 a0_6 a1 := by kernel_rfl
theorem ok : T.ok = true := by kernel_rfl
theorem run (k : Nat) : (∀ (x0_5 : ByteArray) (x1_5 x2_5 : Int) (l3_5 : List (Int × Int × Int × Int × Int)) (x4_5 : Int) (x5_5 x6_5 : ByteArray) (x7_5 x8_5 x9_5 : Int) (l10_5 : List (Int × Int × Int × Int × Int)) (x11_5 : Int) (x12_5 x13_5 : ByteArray) (x14_5 : Int) (l15_5 : List ByteArray) (l16_5 : List Int) (x17_5 : Int), T.run tyt tbl k 5 (S5 x0_5 x1_5 x2_5 l3_5 x4_5 x5_5 x6_5 x7_5 x8_5 x9_5 l10_5 x11_5 x12_5 x13_5 x14_5 l15_5 l16_5 x17_5) = spec_l28Run.l5 k x0_5 x1_5 x2_5 l3_5 x4_5 x5_5 x6_5 x7_5 x8_5 x9_5 l10_5 x11_5 x12_5 x13_5 x14_5 l15_5 l16_5 x17_5) := by
  induction k with
  | zero => exact fun x0_5 x1_5 x2_5 l3_5 x4_5 x5_5 x6_5 x7_5 x8_5 x9_5 l10_5 x11_5 x12_5 x13_5 x14_5 l15_5 l16_5 x17_5 => rfl
  | succ k ih =>
    exact fun x0_5 x1_5 x2_5 l3_5 x4_5 x5_5 x6_5 x7_5 x8_5 x9_5 l10_5 x11_5 x12_5 x13_5 x14_5 l15_5 l16_5 x17_5 => by
      have q5 : (fun x0_5 x1_5 x2_5 l3_5 x4_5 x5_5 x6_5 x7_5 x8_5 x9_5 l10_5 x11_5 x12_5 x13_5 x14_5 l15_5 l16_5 x17_5 => T.run tyt tbl k 5 (S5 x0_5 x1_5 x2_5 l3_5 x4_5 x5_5 x6_5 x7_5 x8_5 x9_5 l10_5 x11_5 x12_5 x13_5 x14_5 l15_5 l16_5 x17_5)) = spec_l28Run.l5 k := by funext x0_5 x1_5 x2_5 l3_5 x4_5 x5_5 x6_5 x7_5 x8_5 x9_5 l10_5 x11_5 x12_5 x13_5 x14_5 l15_5 l16_5 x17_5; exact ih x0_5 x1_5 x2_5 l3_5 x4_5 x5_5 x6_5 x7_5 x8_5 x9_5 l10_5 x11_5 x12_5 x13_5 x14_5 l15_5 l16_5 x17_5
      exact (e5 k (T.run tyt tbl k) x0_5 x1_5 x2_5 l3_5 x4_5 x5_5 x6_5 x7_5 x8_5 x9_5 l10_5 x11_5 x12_5 x13_5 x14_5 l15_5 l16_5 x17_5).trans (by rw [q5]; rfl)
theorem tblok (k : Nat) : TblOk Tryz.prog (tbl k) := TblOk.cons (spec_l1Split.sound k) (TblOk.cons (spec_ParseInt.sound k) (TblOk.cons (spec_l28Word.sound k) (TblOk.cons (spec_l28One.sound k) (TblOk.cons (spec_l28Two.sound k) (TblOk.nil _)))))
theorem sound (k : Nat) : Sound Tryz.prog 46 (spec k) := by
  have h := fn_ok (F := T) (tbl := tbl) mixed tyok Tryz.func46 (by kernel_rfl) (c0 := bodyOf Tryz.f46) rfl (conv_code _ _ _) rfl rfl ok k (fun j _ => tblok j)
  have q5 : (fun x0_5 x1_5 x2_5 l3_5 x4_5 x5_5 x6_5 x7_5 x8_5 x9_5 l10_5 x11_5 x12_5 x13_5 x14_5 l15_5 l16_5 x17_5 => T.run tyt tbl k 5 (S5 x0_5 x1_5 x2_5 l3_5 x4_5 x5_5 x6_5 x7_5 x8_5 x9_5 l10_5 x11_5 x12_5 x13_5 x14_5 l15_5 l16_5 x17_5)) = spec_l28Run.l5 k := by funext x0_5 x1_5 x2_5 l3_5 x4_5 x5_5 x6_5 x7_5 x8_5 x9_5 l10_5 x11_5 x12_5 x13_5 x14_5 l15_5 l16_5 x17_5; exact (run k) x0_5 x1_5 x2_5 l3_5 x4_5 x5_5 x6_5 x7_5 x8_5 x9_5 l10_5 x11_5 x12_5 x13_5 x14_5 l15_5 l16_5 x17_5
  have e : spec k = ⟨T.ps, T.rs, T.ev tyt tbl k⟩ := congrArg (FnSpec.mk _ _) (funext fun x => ((e k (T.run tyt tbl k) x.1 x.2.1 x.2.2.1 x.2.2.2.1 x.2.2.2.2.1 x.2.2.2.2.2.1 x.2.2.2.2.2.2.1 x.2.2.2.2.2.2.2).trans (by rw [q5]; rfl)).symm)
  rw [e]
  exact h
end spec_l28Run

namespace spec_AppendRecord
/-! ### spec_AppendRecord: function 47 -/
def m (k : Nat) (a0_0 a0_1 : ByteArray) (a0_2 : Int) (a1_0 a1_1 : ByteArray) : Option (ByteArray × ByteArray × Int × Int) := ((spec_l27Log.f k a0_0 a0_1 a0_2).bind fun r1 => (cond (!r1) (some (a0_0, a0_1, a0_2, 1)) ((spec_l27Good.f k a1_0 a1_1).bind fun r2 => (cond (!r2) (some (a0_0, a0_1, a0_2, 1)) (if a0_2 = 60 then (some (a0_0, a0_1, a0_2, 2)) else ((spec_l27Line.f k a0_2 a1_0 a1_1).bind fun r3 => ((catS a0_1 r3).bind fun s4 => (some (a0_0, s4, (w64 (a0_2 + 1)), 0)))))))))
def f (k : Nat) (a0_0 a0_1 : ByteArray) (a0_2 : Int) (a1_0 a1_1 : ByteArray) : Option (ByteArray × ByteArray × Int × Int) := m k a0_0 a0_1 a0_2 a1_0 a1_1
noncomputable def spec (k : Nat) : FnSpec := ⟨[.ag [.d .str none, .d .str none, .d (.int .i64) none], .ag [.d .str none, .d .str none]], [.ag [.d .str none, .d .str none, .d (.int .i64) none], .d (.int .i64) none], fun x => f k x.1 x.2.1 x.2.2.1 x.2.2.2.1 x.2.2.2.2⟩
noncomputable def T : FnText := ⟨(conv [] (bodyOf Tryz.f47) 0).1, Tryz.f47.results.toList, 32, [], [.ag [.d .str none, .d .str none, .d (.int .i64) none], .ag [.d .str none, .d .str none]], [.ag [.d .str none, .d .str none, .d (.int .i64) none], .d (.int .i64) none]⟩
noncomputable def tbl (k : Nat) : Tbl := [(40, spec_l27Log.spec k), (45, spec_l27Good.spec k), (91, spec_l27Line.spec k)]
theorem e (k : Nat) (o : Nat → St → Option (ByteArray × ByteArray × Int × Int)) (a0_0 a0_1 : ByteArray) (a0_2 : Int) (a1_0 a1_1 : ByteArray) : T.main tyt (tbl k) o (a0_0, a0_1, a0_2, a1_0, a1_1) = m k a0_0 a0_1 a0_2 a1_0 a1_1 := by kernel_rfl
theorem ok : T.ok = true := by kernel_rfl
theorem tblok (k : Nat) : TblOk Tryz.prog (tbl k) := TblOk.cons (spec_l27Log.sound k) (TblOk.cons (spec_l27Good.sound k) (TblOk.cons (spec_l27Line.sound k) (TblOk.nil _)))
theorem sound (k : Nat) : Sound Tryz.prog 47 (spec k) := by
  have h := fn_ok (F := T) (tbl := tbl) mixed tyok Tryz.func47 (by kernel_rfl) (c0 := bodyOf Tryz.f47) rfl (conv_code _ _ _) rfl rfl ok k (fun j _ => tblok j)
  have e : spec k = ⟨T.ps, T.rs, T.ev tyt tbl k⟩ := congrArg (FnSpec.mk _ _) (funext fun x => ((e k (T.run tyt tbl k) x.1 x.2.1 x.2.2.1 x.2.2.2.1 x.2.2.2.2).trans (by rfl)).symm)
  rw [e]
  exact h
end spec_AppendRecord

namespace spec_ExecuteCommand
/-! ### spec_ExecuteCommand: function 14 -/
def b11 (k : Nat) (x0_11 : ByteArray) (x1_11 x2_11 : Int) (l3_11 : List (Int × Int × Int × Int × Int)) (x4_11 : Int) (x5_11 x6_11 : ByteArray) (x7_11 x8_11 x9_11 : Int) (l10_11 : List (Int × Int × Int × Int × Int)) (x11_11 : Int) (x12_11 x13_11 : ByteArray) (x14_11 x15_11 x16_11 : Int) (l17_11 : List (Int × Int × Int × Int × Int)) (x18_11 : Int) (x19_11 x20_11 : ByteArray) (x21_11 : Int) (x22_11 : ByteArray) : Option (Int × Int × List (Int × Int × Int × Int × Int) × Int × ByteArray × ByteArray × Int × ByteArray) := ((spec_AppendRecord.f k x5_11 x6_11 x7_11 x0_11 x22_11).bind fun r6 => (some (x15_11, x16_11, l17_11, x18_11, r6.1, r6.2.1, r6.2.2.1, x22_11)))
def l11 : Nat → ByteArray → Int → Int → (List (Int × Int × Int × Int × Int)) → Int → ByteArray → ByteArray → Int → Int → Int → (List (Int × Int × Int × Int × Int)) → Int → ByteArray → ByteArray → Int → Int → Int → (List (Int × Int × Int × Int × Int)) → Int → ByteArray → ByteArray → Int → ByteArray → Option (Int × Int × List (Int × Int × Int × Int × Int) × Int × ByteArray × ByteArray × Int × ByteArray)
  | 0, _, _, _, _, _, _, _, _, _, _, _, _, _, _, _, _, _, _, _, _, _, _, _ => none
  | k + 1, x0_11, x1_11, x2_11, l3_11, x4_11, x5_11, x6_11, x7_11, x8_11, x9_11, l10_11, x11_11, x12_11, x13_11, x14_11, x15_11, x16_11, l17_11, x18_11, x19_11, x20_11, x21_11, x22_11 => b11 k x0_11 x1_11 x2_11 l3_11 x4_11 x5_11 x6_11 x7_11 x8_11 x9_11 l10_11 x11_11 x12_11 x13_11 x14_11 x15_11 x16_11 l17_11 x18_11 x19_11 x20_11 x21_11 x22_11
def m (o11 : ByteArray → Int → Int → (List (Int × Int × Int × Int × Int)) → Int → ByteArray → ByteArray → Int → Int → Int → (List (Int × Int × Int × Int × Int)) → Int → ByteArray → ByteArray → Int → Int → Int → (List (Int × Int × Int × Int × Int)) → Int → ByteArray → ByteArray → Int → ByteArray → Option (Int × Int × List (Int × Int × Int × Int × Int) × Int × ByteArray × ByteArray × Int × ByteArray)) (k : Nat) (a0_0 a0_1 : Int) (l0_2 : List (Int × Int × Int × Int × Int)) (a0_3 : Int) (a0_4 a0_5 : ByteArray) (a0_6 : Int) (a1 : ByteArray) : Option (Int × Int × List (Int × Int × Int × Int × Int) × Int × ByteArray × ByteArray × Int × ByteArray) := ((spec_l28Own.f k a0_0 a0_1 l0_2 a0_3 a0_4 a0_5 a0_6).bind fun r1 => ((spec_l28Good.f k a0_0 a0_1 l0_2 a0_3 a0_4 a0_5 a0_6).bind fun r2 => (cond (!r2) (some (r1.1, r1.2.1, r1.2.2.1, r1.2.2.2.1, r1.2.2.2.2.1, r1.2.2.2.2.2.1, r1.2.2.2.2.2.2, (⟨#[110, 111]⟩ : ByteArray))) ((spec_l27Good.f k a1 ByteArray.empty).bind fun r3 => (cond (!r3) (some (r1.1, r1.2.1, r1.2.2.1, r1.2.2.2.1, r1.2.2.2.2.1, r1.2.2.2.2.2.1, r1.2.2.2.2.2.2, (⟨#[98, 97, 100]⟩ : ByteArray))) (if a0_6 = 60 then (some (r1.1, r1.2.1, r1.2.2.1, r1.2.2.2.1, r1.2.2.2.2.1, r1.2.2.2.2.2.1, r1.2.2.2.2.2.2, (⟨#[102, 117, 108, 108]⟩ : ByteArray))) else ((spec_l28Run.f k r1.1 r1.2.1 r1.2.2.1 r1.2.2.2.1 r1.2.2.2.2.1 r1.2.2.2.2.2.1 r1.2.2.2.2.2.2 a1).bind fun r4 => ((spec_l28Own.f k r4.1 r4.2.1 r4.2.2.1 r4.2.2.2.1 r4.2.2.2.2.1 r4.2.2.2.2.2.1 r4.2.2.2.2.2.2.1).bind fun r5 => (if 200 < (r4.2.2.2.2.2.2.2.size : Int) then (o11 a1 a0_0 a0_1 l0_2 a0_3 a0_4 a0_5 a0_6 0 0 [] 0 ByteArray.empty ByteArray.empty 0 r5.1 r5.2.1 r5.2.2.1 r5.2.2.2.1 r5.2.2.2.2.1 r5.2.2.2.2.2.1 r5.2.2.2.2.2.2 (⟨#[108, 111, 110, 103]⟩ : ByteArray)) else (o11 a1 a0_0 a0_1 l0_2 a0_3 a0_4 a0_5 a0_6 0 0 [] 0 ByteArray.empty ByteArray.empty 0 r5.1 r5.2.1 r5.2.2.1 r5.2.2.2.1 r5.2.2.2.2.1 r5.2.2.2.2.2.1 r5.2.2.2.2.2.2 r4.2.2.2.2.2.2.2))))))))))
def f (k : Nat) (a0_0 a0_1 : Int) (l0_2 : List (Int × Int × Int × Int × Int)) (a0_3 : Int) (a0_4 a0_5 : ByteArray) (a0_6 : Int) (a1 : ByteArray) : Option (Int × Int × List (Int × Int × Int × Int × Int) × Int × ByteArray × ByteArray × Int × ByteArray) := m (spec_ExecuteCommand.l11 k) k a0_0 a0_1 l0_2 a0_3 a0_4 a0_5 a0_6 a1
noncomputable def spec (k : Nat) : FnSpec := ⟨[.ag [.d (.int .i64) none, .d (.int .i64) none, .d (.sl (.pair (.int .i64) (.pair (.int .i64) (.pair (.int .i64) (.pair (.int .i64) (.int .i64)))))) none, .d (.int .i64) none, .d .str none, .d .str none, .d (.int .i64) none], .d .str none], [.ag [.d (.int .i64) none, .d (.int .i64) none, .d (.sl (.pair (.int .i64) (.pair (.int .i64) (.pair (.int .i64) (.pair (.int .i64) (.int .i64)))))) (some 108), .d (.int .i64) none, .d .str none, .d .str none, .d (.int .i64) none], .d .str none], fun x => f k x.1 x.2.1 x.2.2.1 x.2.2.2.1 x.2.2.2.2.1 x.2.2.2.2.2.1 x.2.2.2.2.2.2.1 x.2.2.2.2.2.2.2⟩
def S11 (x0_11 : ByteArray) (x1_11 x2_11 : Int) (l3_11 : List (Int × Int × Int × Int × Int)) (x4_11 : Int) (x5_11 x6_11 : ByteArray) (x7_11 x8_11 x9_11 : Int) (l10_11 : List (Int × Int × Int × Int × Int)) (x11_11 : Int) (x12_11 x13_11 : ByteArray) (x14_11 x15_11 x16_11 : Int) (l17_11 : List (Int × Int × Int × Int × Int)) (x18_11 : Int) (x19_11 x20_11 : ByteArray) (x21_11 : Int) (x22_11 : ByteArray) : St := ⟨[(1, .val .str x0_11), (2, .ptr 100 0), (4, .ptr 101 0), (6, .ptr 102 0), (8, .val .str x22_11)], [(102, some (.box [.val (.int .i64) x15_11, .val (.int .i64) x16_11, .ref 103, .val (.int .i64) x18_11, .val .str x19_11, .val .str x20_11, .val (.int .i64) x21_11])), (103, some (.row 108 (.pair (.int .i64) (.pair (.int .i64) (.pair (.int .i64) (.pair (.int .i64) (.int .i64))))) l17_11)), (101, some (.box [.val (.int .i64) x8_11, .val (.int .i64) x9_11, .val (.sl (.pair (.int .i64) (.pair (.int .i64) (.pair (.int .i64) (.pair (.int .i64) (.int .i64)))))) l10_11, .val (.int .i64) x11_11, .val .str x12_11, .val .str x13_11, .val (.int .i64) x14_11])), (100, some (.box [.val (.int .i64) x1_11, .val (.int .i64) x2_11, .val (.sl (.pair (.int .i64) (.pair (.int .i64) (.pair (.int .i64) (.pair (.int .i64) (.int .i64)))))) l3_11, .val (.int .i64) x4_11, .val .str x5_11, .val .str x6_11, .val (.int .i64) x7_11]))], 1000⟩
noncomputable def T : FnText := ⟨(conv [11] (bodyOf Tryz.f14) 0).1, Tryz.f14.results.toList, 51, [(11, [(1, .rd .str), (2, .bx 100 [.rd (.int .i64), .rd (.int .i64), .rd (.sl (.pair (.int .i64) (.pair (.int .i64) (.pair (.int .i64) (.pair (.int .i64) (.int .i64)))))), .rd (.int .i64), .rd .str, .rd .str, .rd (.int .i64)]), (4, .bx 101 [.rd (.int .i64), .rd (.int .i64), .rd (.sl (.pair (.int .i64) (.pair (.int .i64) (.pair (.int .i64) (.pair (.int .i64) (.int .i64)))))), .rd (.int .i64), .rd .str, .rd .str, .rd (.int .i64)]), (6, .bx 102 [.rd (.int .i64), .rd (.int .i64), .own 108 (.pair (.int .i64) (.pair (.int .i64) (.pair (.int .i64) (.pair (.int .i64) (.int .i64))))) 103, .rd (.int .i64), .rd .str, .rd .str, .rd (.int .i64)]), (8, .rd .str)])], [.ag [.d (.int .i64) none, .d (.int .i64) none, .d (.sl (.pair (.int .i64) (.pair (.int .i64) (.pair (.int .i64) (.pair (.int .i64) (.int .i64)))))) none, .d (.int .i64) none, .d .str none, .d .str none, .d (.int .i64) none], .d .str none], [.ag [.d (.int .i64) none, .d (.int .i64) none, .d (.sl (.pair (.int .i64) (.pair (.int .i64) (.pair (.int .i64) (.pair (.int .i64) (.int .i64)))))) (some 108), .d (.int .i64) none, .d .str none, .d .str none, .d (.int .i64) none], .d .str none]⟩
noncomputable def tbl (k : Nat) : Tbl := [(43, spec_l28Own.spec k), (44, spec_l28Good.spec k), (45, spec_l27Good.spec k), (46, spec_l28Run.spec k), (47, spec_AppendRecord.spec k)]
theorem e11 (k : Nat) (o : Nat → St → Option (Int × Int × List (Int × Int × Int × Int × Int) × Int × ByteArray × ByteArray × Int × ByteArray)) (x0_11 : ByteArray) (x1_11 x2_11 : Int) (l3_11 : List (Int × Int × Int × Int × Int)) (x4_11 : Int) (x5_11 x6_11 : ByteArray) (x7_11 x8_11 x9_11 : Int) (l10_11 : List (Int × Int × Int × Int × Int)) (x11_11 : Int) (x12_11 x13_11 : ByteArray) (x14_11 x15_11 x16_11 : Int) (l17_11 : List (Int × Int × Int × Int × Int)) (x18_11 : Int) (x19_11 x20_11 : ByteArray) (x21_11 : Int) (x22_11 : ByteArray) : T.step tyt (tbl k) o 11 (S11 x0_11 x1_11 x2_11 l3_11 x4_11 x5_11 x6_11 x7_11 x8_11 x9_11 l10_11 x11_11 x12_11 x13_11 x14_11 x15_11 x16_11 l17_11 x18_11 x19_11 x20_11 x21_11 x22_11) = b11 k x0_11 x1_11 x2_11 l3_11 x4_11 x5_11 x6_11 x7_11 x8_11 x9_11 l10_11 x11_11 x12_11 x13_11 x14_11 x15_11 x16_11 l17_11 x18_11 x19_11 x20_11 x21_11 x22_11 := by kernel_rfl
theorem e (k : Nat) (o : Nat → St → Option (Int × Int × List (Int × Int × Int × Int × Int) × Int × ByteArray × ByteArray × Int × ByteArray)) (a0_0 a0_1 : Int) (l0_2 : List (Int × Int × Int × Int × Int)) (a0_3 : Int) (a0_4 a0_5 : ByteArray) (a0_6 : Int) (a1 : ByteArray) : T.main tyt (tbl k) o (a0_0, a0_1, l0_2, a0_3, a0_4, a0_5, a0_6, a1) = m (fun x0_11 x1_11 x2_11 l3_11 x4_11 x5_11 x6_11 x7_11 x8_11 x9_11 l10_11 x11_11 x12_11 x13_11 x14_11 x15_11 x16_11 l17_11 x18_11 x19_11 x20_11 x21_11 x22_11 => o 11 (S11 x0_11 x1_11 x2_11 l3_11 x4_11 x5_11 x6_11 x7_11 x8_11 x9_11 l10_11 x11_11 x12_11 x13_11 x14_11 x15_11 x16_11 l17_11 x18_11 x19_11 x20_11 x21_11 x22_11)) k a0_0 a0_1 l0_2 a0_3 a0_4 a0_5 a0_6 a1 := by kernel_rfl
theorem ok : T.ok = true := by kernel_rfl
theorem run (k : Nat) : (∀ (x0_11 : ByteArray) (x1_11 x2_11 : Int) (l3_11 : List (Int × Int × Int × Int × Int)) (x4_11 : Int) (x5_11 x6_11 : ByteArray) (x7_11 x8_11 x9_11 : Int) (l10_11 : List (Int × Int × Int × Int × Int)) (x11_11 : Int) (x12_11 x13_11 : ByteArray) (x14_11 x15_11 x16_11 : Int) (l17_11 : List (Int × Int × Int × Int × Int)) (x18_11 : Int) (x19_11 x20_11 : ByteArray) (x21_11 : Int) (x22_11 : ByteArray), T.run tyt tbl k 11 (S11 x0_11 x1_11 x2_11 l3_11 x4_11 x5_11 x6_11 x7_11 x8_11 x9_11 l10_11 x11_11 x12_11 x13_11 x14_11 x15_11 x16_11 l17_11 x18_11 x19_11 x20_11 x21_11 x22_11) = spec_ExecuteCommand.l11 k x0_11 x1_11 x2_11 l3_11 x4_11 x5_11 x6_11 x7_11 x8_11 x9_11 l10_11 x11_11 x12_11 x13_11 x14_11 x15_11 x16_11 l17_11 x18_11 x19_11 x20_11 x21_11 x22_11) := by
  induction k with
  | zero => exact fun x0_11 x1_11 x2_11 l3_11 x4_11 x5_11 x6_11 x7_11 x8_11 x9_11 l10_11 x11_11 x12_11 x13_11 x14_11 x15_11 x16_11 l17_11 x18_11 x19_11 x20_11 x21_11 x22_11 => rfl
  | succ k ih =>
    exact fun x0_11 x1_11 x2_11 l3_11 x4_11 x5_11 x6_11 x7_11 x8_11 x9_11 l10_11 x11_11 x12_11 x13_11 x14_11 x15_11 x16_11 l17_11 x18_11 x19_11 x20_11 x21_11 x22_11 => by
      exact (e11 k (T.run tyt tbl k) x0_11 x1_11 x2_11 l3_11 x4_11 x5_11 x6_11 x7_11 x8_11 x9_11 l10_11 x11_11 x12_11 x13_11 x14_11 x15_11 x16_11 l17_11 x18_11 x19_11 x20_11 x21_11 x22_11).trans (by rfl)
theorem tblok (k : Nat) : TblOk Tryz.prog (tbl k) := TblOk.cons (spec_l28Own.sound k) (TblOk.cons (spec_l28Good.sound k) (TblOk.cons (spec_l27Good.sound k) (TblOk.cons (spec_l28Run.sound k) (TblOk.cons (spec_AppendRecord.sound k) (TblOk.nil _)))))
theorem sound (k : Nat) : Sound Tryz.prog 14 (spec k) := by
  have h := fn_ok (F := T) (tbl := tbl) mixed tyok Tryz.func14 (by kernel_rfl) (c0 := bodyOf Tryz.f14) rfl (conv_code _ _ _) rfl rfl ok k (fun j _ => tblok j)
  have q11 : (fun x0_11 x1_11 x2_11 l3_11 x4_11 x5_11 x6_11 x7_11 x8_11 x9_11 l10_11 x11_11 x12_11 x13_11 x14_11 x15_11 x16_11 l17_11 x18_11 x19_11 x20_11 x21_11 x22_11 => T.run tyt tbl k 11 (S11 x0_11 x1_11 x2_11 l3_11 x4_11 x5_11 x6_11 x7_11 x8_11 x9_11 l10_11 x11_11 x12_11 x13_11 x14_11 x15_11 x16_11 l17_11 x18_11 x19_11 x20_11 x21_11 x22_11)) = spec_ExecuteCommand.l11 k := by funext x0_11 x1_11 x2_11 l3_11 x4_11 x5_11 x6_11 x7_11 x8_11 x9_11 l10_11 x11_11 x12_11 x13_11 x14_11 x15_11 x16_11 l17_11 x18_11 x19_11 x20_11 x21_11 x22_11; exact (run k) x0_11 x1_11 x2_11 l3_11 x4_11 x5_11 x6_11 x7_11 x8_11 x9_11 l10_11 x11_11 x12_11 x13_11 x14_11 x15_11 x16_11 l17_11 x18_11 x19_11 x20_11 x21_11 x22_11
  have e : spec k = ⟨T.ps, T.rs, T.ev tyt tbl k⟩ := congrArg (FnSpec.mk _ _) (funext fun x => ((e k (T.run tyt tbl k) x.1 x.2.1 x.2.2.1 x.2.2.2.1 x.2.2.2.2.1 x.2.2.2.2.2.1 x.2.2.2.2.2.2.1 x.2.2.2.2.2.2.2).trans (by rw [q11]; rfl)).symm)
  rw [e]
  exact h
end spec_ExecuteCommand

namespace spec_l1Cur_logRecord
/-! ### spec_l1Cur_logRecord: function 76 -/
def m (k : Nat) (l0_0 : List Int) (a0_1 a0_2 : Int) : Option (ByteArray × ByteArray × List Int × Int × Int) := ((spec_l1Cur_of_2.f k l0_0 a0_1 a0_2 [(⟨#[99, 111, 117, 110, 116]⟩ : ByteArray), (⟨#[115, 111, 114, 116, 32, 109, 101, 114, 103, 101]⟩ : ByteArray), (⟨#[120]⟩ : ByteArray), (⟨#[115, 101, 108, 101, 99, 116, 32, 50]⟩ : ByteArray), (⟨#[48, 32, 49]⟩ : ByteArray)]).bind fun r1 => ((spec_l1Cur_of_2.f k r1.2.1 r1.2.2.1 r1.2.2.2.1 [(⟨#[]⟩ : ByteArray), (⟨#[51]⟩ : ByteArray), (⟨#[63]⟩ : ByteArray), (⟨#[97, 64, 98]⟩ : ByteArray), (⟨#[51, 32, 49, 32, 50]⟩ : ByteArray)]).bind fun r2 => ((spec_l1Cur_pick.f k r2.2.1 r2.2.2.1 r2.2.2.2.1 24).bind fun r3 => (if r3.1 = 0 then ((mkl 140737488355328 3 3).bind fun n4 => ((spec_l1Cur_of_2.f k r3.2.1 r3.2.2.1 r3.2.2.2 [(⟨#[]⟩ : ByteArray), (⟨#[97, 64, 98]⟩ : ByteArray), (⟨#[97, 35]⟩ : ByteArray), (⟨#[10]⟩ : ByteArray), (ofBytes (List.replicate n4 (0 : Int)))]).bind fun r5 => (some (r5.1, r2.1, r5.2.1, r5.2.2.1, r5.2.2.2.1)))) else (if r3.1 = 1 then ((spec_l1Cur_of_2.f k r3.2.1 r3.2.2.1 r3.2.2.2 [(⟨#[35]⟩ : ByteArray), (⟨#[10]⟩ : ByteArray), (⟨#[127]⟩ : ByteArray)]).bind fun r6 => (some (r1.1, r6.1, r6.2.1, r6.2.2.1, r6.2.2.2.1))) else (some (r1.1, r2.1, r3.2.1, r3.2.2.1, r3.2.2.2)))))))
def f (k : Nat) (l0_0 : List Int) (a0_1 a0_2 : Int) : Option (ByteArray × ByteArray × List Int × Int × Int) := m k l0_0 a0_1 a0_2
noncomputable def spec (k : Nat) : FnSpec := ⟨[.bx [.d (.sl (.int .u8)) none, .d (.int .i64) none, .d (.int .u64) none]], [.ag [.d .str none, .d .str none]], fun x => f k x.1 x.2.1 x.2.2⟩
noncomputable def T : FnText := ⟨(conv [] (bodyOf Tryz.f76) 0).1, Tryz.f76.results.toList, 28, [], [.bx [.d (.sl (.int .u8)) none, .d (.int .i64) none, .d (.int .u64) none]], [.ag [.d .str none, .d .str none]]⟩
noncomputable def tbl (k : Nat) : Tbl := [(110, spec_l1Cur_of_2.spec k), (59, spec_l1Cur_pick.spec k)]
theorem e (k : Nat) (o : Nat → St → Option (ByteArray × ByteArray × List Int × Int × Int)) (l0_0 : List Int) (a0_1 a0_2 : Int) : T.main tyt (tbl k) o (l0_0, a0_1, a0_2) = m k l0_0 a0_1 a0_2 := by kernel_rfl
theorem ok : T.ok = true := by kernel_rfl
theorem tblok (k : Nat) : TblOk Tryz.prog (tbl k) := TblOk.cons (spec_l1Cur_of_2.sound k) (TblOk.cons (spec_l1Cur_pick.sound k) (TblOk.nil _))
theorem sound (k : Nat) : Sound Tryz.prog 76 (spec k) := by
  have h := fn_ok (F := T) (tbl := tbl) mixed tyok Tryz.func76 (by kernel_rfl) (c0 := bodyOf Tryz.f76) rfl (conv_code _ _ _) rfl rfl ok k (fun j _ => tblok j)
  have e : spec k = ⟨T.ps, T.rs, T.ev tyt tbl k⟩ := congrArg (FnSpec.mk _ _) (funext fun x => ((e k (T.run tyt tbl k) x.1 x.2.1 x.2.2).trans (by rfl)).symm)
  rw [e]
  exact h
end spec_l1Cur_logRecord

namespace spec_SyncLog
/-! ### spec_SyncLog: function 170 -/
def m (k : Nat) (a0_0 a0_1 : ByteArray) (a0_2 : Int) : Option (ByteArray × ByteArray × Int × Bool) := ((spec_l27Log.f k a0_0 a0_1 a0_2).bind fun r1 => (cond (!r1) (some (ByteArray.empty, ByteArray.empty, 0, false)) ((catS a0_0 a0_1).bind fun s2 => (some (s2, ByteArray.empty, a0_2, true)))))
def f (k : Nat) (a0_0 a0_1 : ByteArray) (a0_2 : Int) : Option (ByteArray × ByteArray × Int × Bool) := m k a0_0 a0_1 a0_2
noncomputable def spec (k : Nat) : FnSpec := ⟨[.ag [.d .str none, .d .str none, .d (.int .i64) none]], [.ag [.d .str none, .d .str none, .d (.int .i64) none], .d .bool none], fun x => f k x.1 x.2.1 x.2.2⟩
noncomputable def T : FnText := ⟨(conv [] (bodyOf Tryz.f170) 0).1, Tryz.f170.results.toList, 16, [], [.ag [.d .str none, .d .str none, .d (.int .i64) none]], [.ag [.d .str none, .d .str none, .d (.int .i64) none], .d .bool none]⟩
noncomputable def tbl (k : Nat) : Tbl := [(40, spec_l27Log.spec k)]
theorem e (k : Nat) (o : Nat → St → Option (ByteArray × ByteArray × Int × Bool)) (a0_0 a0_1 : ByteArray) (a0_2 : Int) : T.main tyt (tbl k) o (a0_0, a0_1, a0_2) = m k a0_0 a0_1 a0_2 := by kernel_rfl
theorem ok : T.ok = true := by kernel_rfl
theorem tblok (k : Nat) : TblOk Tryz.prog (tbl k) := TblOk.cons (spec_l27Log.sound k) (TblOk.nil _)
theorem sound (k : Nat) : Sound Tryz.prog 170 (spec k) := by
  have h := fn_ok (F := T) (tbl := tbl) mixed tyok Tryz.func170 (by kernel_rfl) (c0 := bodyOf Tryz.f170) rfl (conv_code _ _ _) rfl rfl ok k (fun j _ => tblok j)
  have e : spec k = ⟨T.ps, T.rs, T.ev tyt tbl k⟩ := congrArg (FnSpec.mk _ _) (funext fun x => ((e k (T.run tyt tbl k) x.1 x.2.1 x.2.2).trans (by rfl)).symm)
  rw [e]
  exact h
end spec_SyncLog

namespace spec_l1Cur_log
/-! ### spec_l1Cur_log: function 149 -/
def b4 (o4 : List Int → Int → Int → ByteArray → ByteArray → Int → ByteArray → ByteArray → Int → Int → Option (ByteArray × ByteArray × Int × List Int × Int × Int)) (k : Nat) (l0_4 : List Int) (x1_4 x2_4 : Int) (x3_4 x4_4 : ByteArray) (x5_4 : Int) (x6_4 x7_4 : ByteArray) (x8_4 x9_4 : Int) : Option (ByteArray × ByteArray × Int × List Int × Int × Int) := (if 0 < x9_4 then ((spec_l1Cur_logRecord.f k l0_4 x1_4 x2_4).bind fun r2 => ((spec_AppendRecord.f k x6_4 x7_4 x8_4 r2.1 r2.2.1).bind fun r3 => ((spec_l1Cur_one.f k r2.2.2.1 r2.2.2.2.1 r2.2.2.2.2 4).bind fun r4 => (cond r4.1 ((spec_SyncLog.f k r3.1 r3.2.1 r3.2.2.1).bind fun r5 => (o4 r4.2.1 r4.2.2.1 r4.2.2.2 x3_4 x4_4 x5_4 r5.1 r5.2.1 r5.2.2.1 (w64 (x9_4 - 1)))) (o4 r4.2.1 r4.2.2.1 r4.2.2.2 x3_4 x4_4 x5_4 r3.1 r3.2.1 r3.2.2.1 (w64 (x9_4 - 1))))))) else (some (x6_4, x7_4, x8_4, l0_4, x1_4, x2_4)))
def l4 : Nat → List Int → Int → Int → ByteArray → ByteArray → Int → ByteArray → ByteArray → Int → Int → Option (ByteArray × ByteArray × Int × List Int × Int × Int)
  | 0, _, _, _, _, _, _, _, _, _, _ => none
  | k + 1, l0_4, x1_4, x2_4, x3_4, x4_4, x5_4, x6_4, x7_4, x8_4, x9_4 => b4 (spec_l1Cur_log.l4 k) k l0_4 x1_4 x2_4 x3_4 x4_4 x5_4 x6_4 x7_4 x8_4 x9_4
def m (o4 : List Int → Int → Int → ByteArray → ByteArray → Int → ByteArray → ByteArray → Int → Int → Option (ByteArray × ByteArray × Int × List Int × Int × Int)) (k : Nat) (l0_0 : List Int) (a0_1 a0_2 : Int) : Option (ByteArray × ByteArray × Int × List Int × Int × Int) := ((spec_l1Cur_pick.f k l0_0 a0_1 a0_2 7).bind fun r1 => (o4 r1.2.1 r1.2.2.1 r1.2.2.2 ByteArray.empty ByteArray.empty 0 ByteArray.empty ByteArray.empty 0 r1.1))
def f (k : Nat) (l0_0 : List Int) (a0_1 a0_2 : Int) : Option (ByteArray × ByteArray × Int × List Int × Int × Int) := m (spec_l1Cur_log.l4 k) k l0_0 a0_1 a0_2
noncomputable def spec (k : Nat) : FnSpec := ⟨[.bx [.d (.sl (.int .u8)) none, .d (.int .i64) none, .d (.int .u64) none]], [.ag [.d .str none, .d .str none, .d (.int .i64) none]], fun x => f k x.1 x.2.1 x.2.2⟩
def S4 (l0_4 : List Int) (x1_4 x2_4 : Int) (x3_4 x4_4 : ByteArray) (x5_4 : Int) (x6_4 x7_4 : ByteArray) (x8_4 x9_4 : Int) : St := ⟨[(0, .ptr 0 0), (2, .ptr 100 0), (3, .ptr 101 0), (4, .val (.int .i64) x9_4)], [(101, some (.box [.val .str x6_4, .val .str x7_4, .val (.int .i64) x8_4])), (100, some (.box [.val .str x3_4, .val .str x4_4, .val (.int .i64) x5_4])), (0, some (.box [.val (.sl (.int .u8)) l0_4, .val (.int .i64) x1_4, .val (.int .u64) x2_4]))], 1000⟩
noncomputable def T : FnText := ⟨(conv [] (bodyOf Tryz.f149) 0).1, Tryz.f149.results.toList, 27, [(4, [(0, .bx 0 [.rd (.sl (.int .u8)), .rd (.int .i64), .rd (.int .u64)]), (2, .bx 100 [.rd .str, .rd .str, .rd (.int .i64)]), (3, .bx 101 [.rd .str, .rd .str, .rd (.int .i64)]), (4, .rd (.int .i64))])], [.bx [.d (.sl (.int .u8)) none, .d (.int .i64) none, .d (.int .u64) none]], [.ag [.d .str none, .d .str none, .d (.int .i64) none]]⟩
noncomputable def tbl (k : Nat) : Tbl := [(59, spec_l1Cur_pick.spec k), (76, spec_l1Cur_logRecord.spec k), (47, spec_AppendRecord.spec k), (58, spec_l1Cur_one.spec k), (170, spec_SyncLog.spec k)]
theorem e4 (k : Nat) (o : Nat → St → Option (ByteArray × ByteArray × Int × List Int × Int × Int)) (l0_4 : List Int) (x1_4 x2_4 : Int) (x3_4 x4_4 : ByteArray) (x5_4 : Int) (x6_4 x7_4 : ByteArray) (x8_4 x9_4 : Int) : T.step tyt (tbl k) o 4 (S4 l0_4 x1_4 x2_4 x3_4 x4_4 x5_4 x6_4 x7_4 x8_4 x9_4) = b4 (fun l0_4 x1_4 x2_4 x3_4 x4_4 x5_4 x6_4 x7_4 x8_4 x9_4 => o 4 (S4 l0_4 x1_4 x2_4 x3_4 x4_4 x5_4 x6_4 x7_4 x8_4 x9_4)) k l0_4 x1_4 x2_4 x3_4 x4_4 x5_4 x6_4 x7_4 x8_4 x9_4 := by kernel_rfl
theorem e (k : Nat) (o : Nat → St → Option (ByteArray × ByteArray × Int × List Int × Int × Int)) (l0_0 : List Int) (a0_1 a0_2 : Int) : T.main tyt (tbl k) o (l0_0, a0_1, a0_2) = m (fun l0_4 x1_4 x2_4 x3_4 x4_4 x5_4 x6_4 x7_4 x8_4 x9_4 => o 4 (S4 l0_4 x1_4 x2_4 x3_4 x4_4 x5_4 x6_4 x7_4 x8_4 x9_4)) k l0_0 a0_1 a0_2 := by kernel_rfl
theorem ok : T.ok = true := by kernel_rfl
theorem run (k : Nat) : (∀ (l0_4 : List Int) (x1_4 x2_4 : Int) (x3_4 x4_4 : ByteArray) (x5_4 : Int) (x6_4 x7_4 : ByteArray) (x8_4 x9_4 : Int), T.run tyt tbl k 4 (S4 l0_4 x1_4 x2_4 x3_4 x4_4 x5_4 x6_4 x7_4 x8_4 x9_4) = spec_l1Cur_log.l4 k l0_4 x1_4 x2_4 x3_4 x4_4 x5_4 x6_4 x7_4 x8_4 x9_4) := by
  induction k with
  | zero => exact fun l0_4 x1_4 x2_4 x3_4 x4_4 x5_4 x6_4 x7_4 x8_4 x9_4 => rfl
  | succ k ih =>
    exact fun l0_4 x1_4 x2_4 x3_4 x4_4 x5_4 x6_4 x7_4 x8_4 x9_4 => by
      have q4 : (fun l0_4 x1_4 x2_4 x3_4 x4_4 x5_4 x6_4 x7_4 x8_4 x9_4 => T.run tyt tbl k 4 (S4 l0_4 x1_4 x2_4 x3_4 x4_4 x5_4 x6_4 x7_4 x8_4 x9_4)) = spec_l1Cur_log.l4 k := by funext l0_4 x1_4 x2_4 x3_4 x4_4 x5_4 x6_4 x7_4 x8_4 x9_4; exact ih l0_4 x1_4 x2_4 x3_4 x4_4 x5_4 x6_4 x7_4 x8_4 x9_4
      exact (e4 k (T.run tyt tbl k) l0_4 x1_4 x2_4 x3_4 x4_4 x5_4 x6_4 x7_4 x8_4 x9_4).trans (by rw [q4]; rfl)
theorem tblok (k : Nat) : TblOk Tryz.prog (tbl k) := TblOk.cons (spec_l1Cur_pick.sound k) (TblOk.cons (spec_l1Cur_logRecord.sound k) (TblOk.cons (spec_AppendRecord.sound k) (TblOk.cons (spec_l1Cur_one.sound k) (TblOk.cons (spec_SyncLog.sound k) (TblOk.nil _)))))
theorem sound (k : Nat) : Sound Tryz.prog 149 (spec k) := by
  have h := fn_ok (F := T) (tbl := tbl) mixed tyok Tryz.func149 (by kernel_rfl) (c0 := bodyOf Tryz.f149) rfl (conv_code _ _ _) rfl rfl ok k (fun j _ => tblok j)
  have q4 : (fun l0_4 x1_4 x2_4 x3_4 x4_4 x5_4 x6_4 x7_4 x8_4 x9_4 => T.run tyt tbl k 4 (S4 l0_4 x1_4 x2_4 x3_4 x4_4 x5_4 x6_4 x7_4 x8_4 x9_4)) = spec_l1Cur_log.l4 k := by funext l0_4 x1_4 x2_4 x3_4 x4_4 x5_4 x6_4 x7_4 x8_4 x9_4; exact (run k) l0_4 x1_4 x2_4 x3_4 x4_4 x5_4 x6_4 x7_4 x8_4 x9_4
  have e : spec k = ⟨T.ps, T.rs, T.ev tyt tbl k⟩ := congrArg (FnSpec.mk _ _) (funext fun x => ((e k (T.run tyt tbl k) x.1 x.2.1 x.2.2).trans (by rw [q4]; rfl)).symm)
  rw [e]
  exact h
end spec_l1Cur_log

namespace spec_l1Cur_spoilt
/-! ### spec_l1Cur_spoilt: function 61 -/
def m (k : Nat) (l0_0 : List Int) (a0_1 a0_2 : Int) (a1 a2 : ByteArray) : Option (ByteArray × List Int × Int × Int) := (if a1 = (⟨#[]⟩ : ByteArray) then ((cutTo a2.size 1).bind fun m2 => (some ((a2.extract 0 m2), l0_0, a0_1, a0_2))) else ((spec_l1Cur_pick.f k l0_0 a0_1 a0_2 (a1.size : Int)).bind fun r3 => ((spec_l1Cur_pick.f k r3.2.1 r3.2.2.1 r3.2.2.2 (a2.size : Int)).bind fun r4 => ((cut a2.size r4.1 (a2.size : Int)).bind fun c5 => ((cutTo ((a2.extract c5.1 (c5.1 + c5.2)).size) 1).bind fun m7 => ((spec_l1Cur_pick.f k r4.2.1 r4.2.2.1 r4.2.2.2 3).bind fun r8 => (if r8.1 = 0 then ((cutTo a1.size r3.1).bind fun m10 => ((catS (a1.extract 0 m10) ((a2.extract c5.1 (c5.1 + c5.2)).extract 0 m7)).bind fun s11 => ((cut a1.size r3.1 (a1.size : Int)).bind fun c12 => ((catS s11 (a1.extract c12.1 (c12.1 + c12.2))).bind fun s13 => (some (s13, r8.2.1, r8.2.2.1, r8.2.2.2)))))) else (if r8.1 = 1 then ((cutTo a1.size r3.1).bind fun m15 => ((catS (a1.extract 0 m15) ((a2.extract c5.1 (c5.1 + c5.2)).extract 0 m7)).bind fun s16 => ((cut a1.size (w64 (r3.1 + 1)) (a1.size : Int)).bind fun c17 => ((catS s16 (a1.extract c17.1 (c17.1 + c17.2))).bind fun s18 => (some (s18, r8.2.1, r8.2.2.1, r8.2.2.2)))))) else ((cutTo a1.size r3.1).bind fun m20 => ((cut a1.size (w64 (r3.1 + 1)) (a1.size : Int)).bind fun c21 => ((catS (a1.extract 0 m20) (a1.extract c21.1 (c21.1 + c21.2))).bind fun s22 => (some (s22, r8.2.1, r8.2.2.1, r8.2.2.2)))))))))))))
def f (k : Nat) (l0_0 : List Int) (a0_1 a0_2 : Int) (a1 a2 : ByteArray) : Option (ByteArray × List Int × Int × Int) := m k l0_0 a0_1 a0_2 a1 a2
noncomputable def spec (k : Nat) : FnSpec := ⟨[.bx [.d (.sl (.int .u8)) none, .d (.int .i64) none, .d (.int .u64) none], .d .str none, .d .str none], [.d .str none], fun x => f k x.1 x.2.1 x.2.2.1 x.2.2.2.1 x.2.2.2.2⟩
noncomputable def T : FnText := ⟨(conv [] (bodyOf Tryz.f61) 0).1, Tryz.f61.results.toList, 57, [], [.bx [.d (.sl (.int .u8)) none, .d (.int .i64) none, .d (.int .u64) none], .d .str none, .d .str none], [.d .str none]⟩
noncomputable def tbl (k : Nat) : Tbl := [(59, spec_l1Cur_pick.spec k)]
theorem e (k : Nat) (o : Nat → St → Option (ByteArray × List Int × Int × Int)) (l0_0 : List Int) (a0_1 a0_2 : Int) (a1 a2 : ByteArray) : T.main tyt (tbl k) o (l0_0, a0_1, a0_2, a1, a2) = m k l0_0 a0_1 a0_2 a1 a2 := by kernel_rfl
theorem ok : T.ok = true := by kernel_rfl
theorem tblok (k : Nat) : TblOk Tryz.prog (tbl k) := TblOk.cons (spec_l1Cur_pick.sound k) (TblOk.nil _)
theorem sound (k : Nat) : Sound Tryz.prog 61 (spec k) := by
  have h := fn_ok (F := T) (tbl := tbl) mixed tyok Tryz.func61 (by kernel_rfl) (c0 := bodyOf Tryz.f61) rfl (conv_code _ _ _) rfl rfl ok k (fun j _ => tblok j)
  have e : spec k = ⟨T.ps, T.rs, T.ev tyt tbl k⟩ := congrArg (FnSpec.mk _ _) (funext fun x => ((e k (T.run tyt tbl k) x.1 x.2.1 x.2.2.1 x.2.2.2.1 x.2.2.2.2).trans (by rfl)).symm)
  rw [e]
  exact h
end spec_l1Cur_spoilt

namespace spec_l1Cur_anyLog
/-! ### spec_l1Cur_anyLog: function 106 -/
def m (k : Nat) (l0_0 : List Int) (a0_1 a0_2 : Int) : Option (ByteArray × ByteArray × Int × List Int × Int × Int) := ((spec_l1Cur_log.f k l0_0 a0_1 a0_2).bind fun r1 => ((spec_l1Cur_pick.f k r1.2.2.2.1 r1.2.2.2.2.1 r1.2.2.2.2.2 24).bind fun r2 => (if r2.1 = 0 then (some (r1.1, r1.2.1, (w64 (r1.2.2.1 + 1)), r2.2.1, r2.2.2.1, r2.2.2.2)) else (if r2.1 = 1 then ((spec_l1Cur_spoilt.f k r2.2.1 r2.2.2.1 r2.2.2.2 r1.2.1 (⟨#[35, 64, 10, 48, 49]⟩ : ByteArray)).bind fun r3 => (some (r1.1, r3.1, r1.2.2.1, r3.2.1, r3.2.2.1, r3.2.2.2))) else (if r2.1 = 2 then ((catS r1.1 r1.2.1).bind fun s4 => (some (s4, r1.2.1, r1.2.2.1, r2.2.1, r2.2.2.1, r2.2.2.2))) else (some (r1.1, r1.2.1, r1.2.2.1, r2.2.1, r2.2.2.1, r2.2.2.2)))))))
def f (k : Nat) (l0_0 : List Int) (a0_1 a0_2 : Int) : Option (ByteArray × ByteArray × Int × List Int × Int × Int) := m k l0_0 a0_1 a0_2
noncomputable def spec (k : Nat) : FnSpec := ⟨[.bx [.d (.sl (.int .u8)) none, .d (.int .i64) none, .d (.int .u64) none]], [.ag [.d .str none, .d .str none, .d (.int .i64) none]], fun x => f k x.1 x.2.1 x.2.2⟩
noncomputable def T : FnText := ⟨(conv [] (bodyOf Tryz.f106) 0).1, Tryz.f106.results.toList, 30, [], [.bx [.d (.sl (.int .u8)) none, .d (.int .i64) none, .d (.int .u64) none]], [.ag [.d .str none, .d .str none, .d (.int .i64) none]]⟩
noncomputable def tbl (k : Nat) : Tbl := [(149, spec_l1Cur_log.spec k), (59, spec_l1Cur_pick.spec k), (61, spec_l1Cur_spoilt.spec k)]
theorem e (k : Nat) (o : Nat → St → Option (ByteArray × ByteArray × Int × List Int × Int × Int)) (l0_0 : List Int) (a0_1 a0_2 : Int) : T.main tyt (tbl k) o (l0_0, a0_1, a0_2) = m k l0_0 a0_1 a0_2 := by kernel_rfl
theorem ok : T.ok = true := by kernel_rfl
theorem tblok (k : Nat) : TblOk Tryz.prog (tbl k) := TblOk.cons (spec_l1Cur_log.sound k) (TblOk.cons (spec_l1Cur_pick.sound k) (TblOk.cons (spec_l1Cur_spoilt.sound k) (TblOk.nil _)))
theorem sound (k : Nat) : Sound Tryz.prog 106 (spec k) := by
  have h := fn_ok (F := T) (tbl := tbl) mixed tyok Tryz.func106 (by kernel_rfl) (c0 := bodyOf Tryz.f106) rfl (conv_code _ _ _) rfl rfl ok k (fun j _ => tblok j)
  have e : spec k = ⟨T.ps, T.rs, T.ev tyt tbl k⟩ := congrArg (FnSpec.mk _ _) (funext fun x => ((e k (T.run tyt tbl k) x.1 x.2.1 x.2.2).trans (by rfl)).symm)
  rw [e]
  exact h
end spec_l1Cur_anyLog

namespace spec_l1Cur_console
/-! ### spec_l1Cur_console: function 57 -/
def b4 (o4 : List Int → Int → Int → Int → Int → (List (Int × Int × Int × Int × Int)) → Int → ByteArray → ByteArray → Int → Int → Int → (List (Int × Int × Int × Int × Int)) → Int → ByteArray → ByteArray → Int → Int → Option (Int × Int × List (Int × Int × Int × Int × Int) × Int × ByteArray × ByteArray × Int × List Int × Int × Int)) (k : Nat) (l0_4 : List Int) (x1_4 x2_4 x3_4 x4_4 : Int) (l5_4 : List (Int × Int × Int × Int × Int)) (x6_4 : Int) (x7_4 x8_4 : ByteArray) (x9_4 x10_4 x11_4 : Int) (l12_4 : List (Int × Int × Int × Int × Int)) (x13_4 : Int) (x14_4 x15_4 : ByteArray) (x16_4 x17_4 : Int) : Option (Int × Int × List (Int × Int × Int × Int × Int) × Int × ByteArray × ByteArray × Int × List Int × Int × Int) := (if 0 < x17_4 then ((spec_l28Good.f k x10_4 x11_4 l12_4 x13_4 x14_4 x15_4 x16_4).bind fun r3 => (cond r3 ((spec_l1Cur_command_2.f k l0_4 x1_4 x2_4 x10_4 x11_4 l12_4 x13_4 x14_4 x15_4 x16_4).bind fun r4 => ((spec_ExecuteCommand.f k x10_4 x11_4 r4.2.2.2.2 x13_4 x14_4 x15_4 x16_4 r4.1).bind fun r5 => (o4 r4.2.1 r4.2.2.1 r4.2.2.2.1 x3_4 x4_4 l5_4 x6_4 x7_4 x8_4 x9_4 r5.1 r5.2.1 r5.2.2.1 r5.2.2.2.1 r5.2.2.2.2.1 r5.2.2.2.2.2.1 r5.2.2.2.2.2.2.1 (w64 (x17_4 - 1))))) ((spec_l1Cur_one.f k l0_4 x1_4 x2_4 24).bind fun r6 => (cond r6.1 ((spec_l1Cur_anyLog.f k r6.2.1 r6.2.2.1 r6.2.2.2).bind fun r7 => (some (x10_4, x11_4, l12_4, x13_4, r7.1, r7.2.1, r7.2.2.1, r7.2.2.2.1, r7.2.2.2.2.1, r7.2.2.2.2.2))) (some (x10_4, x11_4, l12_4, x13_4, x14_4, x15_4, x16_4, r6.2.1, r6.2.2.1, r6.2.2.2)))))) else ((spec_l1Cur_one.f k l0_4 x1_4 x2_4 24).bind fun r8 => (cond r8.1 ((spec_l1Cur_anyLog.f k r8.2.1 r8.2.2.1 r8.2.2.2).bind fun r9 => (some (x10_4, x11_4, l12_4, x13_4, r9.1, r9.2.1, r9.2.2.1, r9.2.2.2.1, r9.2.2.2.2.1, r9.2.2.2.2.2))) (some (x10_4, x11_4, l12_4, x13_4, x14_4, x15_4, x16_4, r8.2.1, r8.2.2.1, r8.2.2.2)))))
def l4 : Nat → List Int → Int → Int → Int → Int → (List (Int × Int × Int × Int × Int)) → Int → ByteArray → ByteArray → Int → Int → Int → (List (Int × Int × Int × Int × Int)) → Int → ByteArray → ByteArray → Int → Int → Option (Int × Int × List (Int × Int × Int × Int × Int) × Int × ByteArray × ByteArray × Int × List Int × Int × Int)
  | 0, _, _, _, _, _, _, _, _, _, _, _, _, _, _, _, _, _, _ => none
  | k + 1, l0_4, x1_4, x2_4, x3_4, x4_4, l5_4, x6_4, x7_4, x8_4, x9_4, x10_4, x11_4, l12_4, x13_4, x14_4, x15_4, x16_4, x17_4 => b4 (spec_l1Cur_console.l4 k) k l0_4 x1_4 x2_4 x3_4 x4_4 l5_4 x6_4 x7_4 x8_4 x9_4 x10_4 x11_4 l12_4 x13_4 x14_4 x15_4 x16_4 x17_4
def m (o4 : List Int → Int → Int → Int → Int → (List (Int × Int × Int × Int × Int)) → Int → ByteArray → ByteArray → Int → Int → Int → (List (Int × Int × Int × Int × Int)) → Int → ByteArray → ByteArray → Int → Int → Option (Int × Int × List (Int × Int × Int × Int × Int) × Int × ByteArray × ByteArray × Int × List Int × Int × Int)) (k : Nat) (l0_0 : List Int) (a0_1 a0_2 : Int) : Option (Int × Int × List (Int × Int × Int × Int × Int) × Int × ByteArray × ByteArray × Int × List Int × Int × Int) := ((spec_l1Cur_shop.f k l0_0 a0_1 a0_2).bind fun r1 => ((spec_l1Cur_pick.f k r1.2.2.2.2.1 r1.2.2.2.2.2.1 r1.2.2.2.2.2.2 7).bind fun r2 => (o4 r2.2.1 r2.2.2.1 r2.2.2.2 0 0 [] 0 ByteArray.empty ByteArray.empty 0 r1.1 r1.2.1 r1.2.2.1 r1.2.2.2.1 ByteArray.empty ByteArray.empty 0 r2.1)))
def f (k : Nat) (l0_0 : List Int) (a0_1 a0_2 : Int) : Option (Int × Int × List (Int × Int × Int × Int × Int) × Int × ByteArray × ByteArray × Int × List Int × Int × Int) := m (spec_l1Cur_console.l4 k) k l0_0 a0_1 a0_2
noncomputable def spec (k : Nat) : FnSpec := ⟨[.bx [.d (.sl (.int .u8)) none, .d (.int .i64) none, .d (.int .u64) none]], [.ag [.d (.int .i64) none, .d (.int .i64) none, .d (.sl (.pair (.int .i64) (.pair (.int .i64) (.pair (.int .i64) (.pair (.int .i64) (.int .i64)))))) (some 108), .d (.int .i64) none, .d .str none, .d .str none, .d (.int .i64) none]], fun x => f k x.1 x.2.1 x.2.2⟩
def S4 (l0_4 : List Int) (x1_4 x2_4 x3_4 x4_4 : Int) (l5_4 : List (Int × Int × Int × Int × Int)) (x6_4 : Int) (x7_4 x8_4 : ByteArray) (x9_4 x10_4 x11_4 : Int) (l12_4 : List (Int × Int × Int × Int × Int)) (x13_4 : Int) (x14_4 x15_4 : ByteArray) (x16_4 x17_4 : Int) : St := ⟨[(0, .ptr 0 0), (2, .ptr 100 0), (3, .ptr 101 0), (4, .val (.int .i64) x17_4)], [(101, some (.box [.val (.int .i64) x10_4, .val (.int .i64) x11_4, .ref 102, .val (.int .i64) x13_4, .val .str x14_4, .val .str x15_4, .val (.int .i64) x16_4])), (102, some (.row 108 (.pair (.int .i64) (.pair (.int .i64) (.pair (.int .i64) (.pair (.int .i64) (.int .i64))))) l12_4)), (100, some (.box [.val (.int .i64) x3_4, .val (.int .i64) x4_4, .val (.sl (.pair (.int .i64) (.pair (.int .i64) (.pair (.int .i64) (.pair (.int .i64) (.int .i64)))))) l5_4, .val (.int .i64) x6_4, .val .str x7_4, .val .str x8_4, .val (.int .i64) x9_4])), (0, some (.box [.val (.sl (.int .u8)) l0_4, .val (.int .i64) x1_4, .val (.int .u64) x2_4]))], 1000⟩
noncomputable def T : FnText := ⟨(conv [] (bodyOf Tryz.f57) 0).1, Tryz.f57.results.toList, 32, [(4, [(0, .bx 0 [.rd (.sl (.int .u8)), .rd (.int .i64), .rd (.int .u64)]), (2, .bx 100 [.rd (.int .i64), .rd (.int .i64), .rd (.sl (.pair (.int .i64) (.pair (.int .i64) (.pair (.int .i64) (.pair (.int .i64) (.int .i64)))))), .rd (.int .i64), .rd .str, .rd .str, .rd (.int .i64)]), (3, .bx 101 [.rd (.int .i64), .rd (.int .i64), .own 108 (.pair (.int .i64) (.pair (.int .i64) (.pair (.int .i64) (.pair (.int .i64) (.int .i64))))) 102, .rd (.int .i64), .rd .str, .rd .str, .rd (.int .i64)]), (4, .rd (.int .i64))])], [.bx [.d (.sl (.int .u8)) none, .d (.int .i64) none, .d (.int .u64) none]], [.ag [.d (.int .i64) none, .d (.int .i64) none, .d (.sl (.pair (.int .i64) (.pair (.int .i64) (.pair (.int .i64) (.pair (.int .i64) (.int .i64)))))) (some 108), .d (.int .i64) none, .d .str none, .d .str none, .d (.int .i64) none]]⟩
noncomputable def tbl (k : Nat) : Tbl := [(105, spec_l1Cur_shop.spec k), (59, spec_l1Cur_pick.spec k), (44, spec_l28Good.spec k), (60, spec_l1Cur_command_2.spec k), (14, spec_ExecuteCommand.spec k), (58, spec_l1Cur_one.spec k), (106, spec_l1Cur_anyLog.spec k)]
theorem e4 (k : Nat) (o : Nat → St → Option (Int × Int × List (Int × Int × Int × Int × Int) × Int × ByteArray × ByteArray × Int × List Int × Int × Int)) (l0_4 : List Int) (x1_4 x2_4 x3_4 x4_4 : Int) (l5_4 : List (Int × Int × Int × Int × Int)) (x6_4 : Int) (x7_4 x8_4 : ByteArray) (x9_4 x10_4 x11_4 : Int) (l12_4 : List (Int × Int × Int × Int × Int)) (x13_4 : Int) (x14_4 x15_4 : ByteArray) (x16_4 x17_4 : Int) : T.step tyt (tbl k) o 4 (S4 l0_4 x1_4 x2_4 x3_4 x4_4 l5_4 x6_4 x7_4 x8_4 x9_4 x10_4 x11_4 l12_4 x13_4 x14_4 x15_4 x16_4 x17_4) = b4 (fun l0_4 x1_4 x2_4 x3_4 x4_4 l5_4 x6_4 x7_4 x8_4 x9_4 x10_4 x11_4 l12_4 x13_4 x14_4 x15_4 x16_4 x17_4 => o 4 (S4 l0_4 x1_4 x2_4 x3_4 x4_4 l5_4 x6_4 x7_4 x8_4 x9_4 x10_4 x11_4 l12_4 x13_4 x14_4 x15_4 x16_4 x17_4)) k l0_4 x1_4 x2_4 x3_4 x4_4 l5_4 x6_4 x7_4 x8_4 x9_4 x10_4 x11_4 l12_4 x13_4 x14_4 x15_4 x16_4 x17_4 := by kernel_rfl
theorem e (k : Nat) (o : Nat → St → Option (Int × Int × List (Int × Int × Int × Int × Int) × Int × ByteArray × ByteArray × Int × List Int × Int × Int)) (l0_0 : List Int) (a0_1 a0_2 : Int) : T.main tyt (tbl k) o (l0_0, a0_1, a0_2) = m (fun l0_4 x1_4 x2_4 x3_4 x4_4 l5_4 x6_4 x7_4 x8_4 x9_4 x10_4 x11_4 l12_4 x13_4 x14_4 x15_4 x16_4 x17_4 => o 4 (S4 l0_4 x1_4 x2_4 x3_4 x4_4 l5_4 x6_4 x7_4 x8_4 x9_4 x10_4 x11_4 l12_4 x13_4 x14_4 x15_4 x16_4 x17_4)) k l0_0 a0_1 a0_2 := by kernel_rfl
theorem ok : T.ok = true := by kernel_rfl
theorem run (k : Nat) : (∀ (l0_4 : List Int) (x1_4 x2_4 x3_4 x4_4 : Int) (l5_4 : List (Int × Int × Int × Int × Int)) (x6_4 : Int) (x7_4 x8_4 : ByteArray) (x9_4 x10_4 x11_4 : Int) (l12_4 : List (Int × Int × Int × Int × Int)) (x13_4 : Int) (x14_4 x15_4 : ByteArray) (x16_4 x17_4 : Int), T.run tyt tbl k 4 (S4 l0_4 x1_4 x2_4 x3_4 x4_4 l5_4 x6_4 x7_4 x8_4 x9_4 x10_4 x11_4 l12_4 x13_4 x14_4 x15_4 x16_4 x17_4) = spec_l1Cur_console.l4 k l0_4 x1_4 x2_4 x3_4 x4_4 l5_4 x6_4 x7_4 x8_4 x9_4 x10_4 x11_4 l12_4 x13_4 x14_4 x15_4 x16_4 x17_4) := by
  induction k with
  | zero => exact fun l0_4 x1_4 x2_4 x3_4 x4_4 l5_4 x6_4 x7_4 x8_4 x9_4 x10_4 x11_4 l12_4 x13_4 x14_4 x15_4 x16_4 x17_4 => rfl
  | succ k ih =>
    exact fun l0_4 x1_4 x2_4 x3_4 x4_4 l5_4 x6_4 x7_4 x8_4 x9_4 x10_4 x11_4 l12_4 x13_4 x14_4 x15_4 x16_4 x17_4 => by
      have q4 : (fun l0_4 x1_4 x2_4 x3_4 x4_4 l5_4 x6_4 x7_4 x8_4 x9_4 x10_4 x11_4 l12_4 x13_4 x14_4 x15_4 x16_4 x17_4 => T.run tyt tbl k 4 (S4 l0_4 x1_4 x2_4 x3_4 x4_4 l5_4 x6_4 x7_4 x8_4 x9_4 x10_4 x11_4 l12_4 x13_4 x14_4 x15_4 x16_4 x17_4)) = spec_l1Cur_console.l4 k := by funext l0_4 x1_4 x2_4 x3_4 x4_4 l5_4 x6_4 x7_4 x8_4 x9_4 x10_4 x11_4 l12_4 x13_4 x14_4 x15_4 x16_4 x17_4; exact ih l0_4 x1_4 x2_4 x3_4 x4_4 l5_4 x6_4 x7_4 x8_4 x9_4 x10_4 x11_4 l12_4 x13_4 x14_4 x15_4 x16_4 x17_4
      exact (e4 k (T.run tyt tbl k) l0_4 x1_4 x2_4 x3_4 x4_4 l5_4 x6_4 x7_4 x8_4 x9_4 x10_4 x11_4 l12_4 x13_4 x14_4 x15_4 x16_4 x17_4).trans (by rw [q4]; rfl)
theorem tblok (k : Nat) : TblOk Tryz.prog (tbl k) := TblOk.cons (spec_l1Cur_shop.sound k) (TblOk.cons (spec_l1Cur_pick.sound k) (TblOk.cons (spec_l28Good.sound k) (TblOk.cons (spec_l1Cur_command_2.sound k) (TblOk.cons (spec_ExecuteCommand.sound k) (TblOk.cons (spec_l1Cur_one.sound k) (TblOk.cons (spec_l1Cur_anyLog.sound k) (TblOk.nil _)))))))
theorem sound (k : Nat) : Sound Tryz.prog 57 (spec k) := by
  have h := fn_ok (F := T) (tbl := tbl) mixed tyok Tryz.func57 (by kernel_rfl) (c0 := bodyOf Tryz.f57) rfl (conv_code _ _ _) rfl rfl ok k (fun j _ => tblok j)
  have q4 : (fun l0_4 x1_4 x2_4 x3_4 x4_4 l5_4 x6_4 x7_4 x8_4 x9_4 x10_4 x11_4 l12_4 x13_4 x14_4 x15_4 x16_4 x17_4 => T.run tyt tbl k 4 (S4 l0_4 x1_4 x2_4 x3_4 x4_4 l5_4 x6_4 x7_4 x8_4 x9_4 x10_4 x11_4 l12_4 x13_4 x14_4 x15_4 x16_4 x17_4)) = spec_l1Cur_console.l4 k := by funext l0_4 x1_4 x2_4 x3_4 x4_4 l5_4 x6_4 x7_4 x8_4 x9_4 x10_4 x11_4 l12_4 x13_4 x14_4 x15_4 x16_4 x17_4; exact (run k) l0_4 x1_4 x2_4 x3_4 x4_4 l5_4 x6_4 x7_4 x8_4 x9_4 x10_4 x11_4 l12_4 x13_4 x14_4 x15_4 x16_4 x17_4
  have e : spec k = ⟨T.ps, T.rs, T.ev tyt tbl k⟩ := congrArg (FnSpec.mk _ _) (funext fun x => ((e k (T.run tyt tbl k) x.1 x.2.1 x.2.2).trans (by rw [q4]; rfl)).symm)
  rw [e]
  exact h
end spec_l1Cur_console


end Go.Proofs.YtiacidpjplmgaaaGreatDoor.DFnScript
