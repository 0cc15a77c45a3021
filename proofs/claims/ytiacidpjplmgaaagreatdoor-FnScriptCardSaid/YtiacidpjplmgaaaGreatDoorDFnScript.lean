-- Printed by this session's own program (wip/deep/drow.py); Lean checks it.
import Derived.Test.YtiacidpjplmgaaaGreatDoorDFnScriptp1
import Derived.Test.YtiacidpjplmgaaaGreatDoorProg
set_option linter.unusedVariables false
set_option maxRecDepth 100000
namespace Go.Proofs.YtiacidpjplmgaaaGreatDoor.DFnScript
open Go Go.Proofs.YtiacidpjplmgaaaGreatDoorD
namespace spec_DrawRunScript
/-! ### spec_DrawRunScript: function 31 -/
def b6 (o6 : Int → Int → (List (Int × Int × Int × Int × Int)) → Int → ByteArray → ByteArray → Int → List Int → Int → Int → Int → Int → (List (Int × Int × Int × Int × Int)) → Int → ByteArray → ByteArray → Int → ByteArray → Int → Option (Int × Int × List (Int × Int × Int × Int × Int) × Int × ByteArray × ByteArray × Int × ByteArray)) (o14 : Int → Int → (List (Int × Int × Int × Int × Int)) → Int → ByteArray → ByteArray → Int → Int → Int → (List (Int × Int × Int × Int × Int)) → Int → ByteArray → ByteArray → Int → ByteArray → Int → Option (Int × Int × List (Int × Int × Int × Int × Int) × Int × ByteArray × ByteArray × Int × ByteArray)) (k : Nat) (x0_6 x1_6 : Int) (l2_6 : List (Int × Int × Int × Int × Int)) (x3_6 : Int) (x4_6 x5_6 : ByteArray) (x6_6 : Int) (l7_6 : List Int) (x8_6 x9_6 x10_6 x11_6 : Int) (l12_6 : List (Int × Int × Int × Int × Int)) (x13_6 : Int) (x14_6 x15_6 : ByteArray) (x16_6 : Int) (x17_6 : ByteArray) (x18_6 : Int) : Option (Int × Int × List (Int × Int × Int × Int × Int) × Int × ByteArray × ByteArray × Int × ByteArray) := (if 0 < x18_6 then ((catS x17_6 (⟨#[10]⟩ : ByteArray)).bind fun s4 => ((spec_l1Cur_command_2.f k l7_6 x8_6 x9_6 x10_6 x11_6 l12_6 x13_6 x14_6 x15_6 x16_6).bind fun r5 => ((catS s4 r5.1).bind fun s6 => (o6 x0_6 x1_6 l2_6 x3_6 x4_6 x5_6 x6_6 r5.2.1 r5.2.2.1 r5.2.2.2.1 x10_6 x11_6 r5.2.2.2.2 x13_6 x14_6 x15_6 x16_6 s6 (w64 (x18_6 - 1)))))) else ((spec_l1Cur_one.f k l7_6 x8_6 x9_6 20).bind fun r7 => (cond r7.1 ((spec_l1Cur_pick.f k r7.2.1 r7.2.2.1 r7.2.2.2 2).bind fun r8 => (o14 x0_6 x1_6 l2_6 x3_6 x4_6 x5_6 x6_6 x10_6 x11_6 l12_6 x13_6 x14_6 x15_6 x16_6 (⟨#[]⟩ : ByteArray) (w64 (29 + r8.1)))) (some (x10_6, x11_6, l12_6, x13_6, x14_6, x15_6, x16_6, x17_6)))))
def b14 (o14 : Int → Int → (List (Int × Int × Int × Int × Int)) → Int → ByteArray → ByteArray → Int → Int → Int → (List (Int × Int × Int × Int × Int)) → Int → ByteArray → ByteArray → Int → ByteArray → Int → Option (Int × Int × List (Int × Int × Int × Int × Int) × Int × ByteArray × ByteArray × Int × ByteArray)) (k : Nat) (x0_14 x1_14 : Int) (l2_14 : List (Int × Int × Int × Int × Int)) (x3_14 : Int) (x4_14 x5_14 : ByteArray) (x6_14 x7_14 x8_14 : Int) (l9_14 : List (Int × Int × Int × Int × Int)) (x10_14 : Int) (x11_14 x12_14 : ByteArray) (x13_14 : Int) (x14_14 : ByteArray) (x15_14 : Int) : Option (Int × Int × List (Int × Int × Int × Int × Int) × Int × ByteArray × ByteArray × Int × ByteArray) := (if 0 < x15_14 then ((catS x14_14 (⟨#[10]⟩ : ByteArray)).bind fun s9 => (o14 x0_14 x1_14 l2_14 x3_14 x4_14 x5_14 x6_14 x7_14 x8_14 l9_14 x10_14 x11_14 x12_14 x13_14 s9 (w64 (x15_14 - 1)))) else (some (x7_14, x8_14, l9_14, x10_14, x11_14, x12_14, x13_14, x14_14)))
mutual
def l6 : Nat → Int → Int → (List (Int × Int × Int × Int × Int)) → Int → ByteArray → ByteArray → Int → List Int → Int → Int → Int → Int → (List (Int × Int × Int × Int × Int)) → Int → ByteArray → ByteArray → Int → ByteArray → Int → Option (Int × Int × List (Int × Int × Int × Int × Int) × Int × ByteArray × ByteArray × Int × ByteArray)
  | 0, _, _, _, _, _, _, _, _, _, _, _, _, _, _, _, _, _, _, _ => none
  | k + 1, x0_6, x1_6, l2_6, x3_6, x4_6, x5_6, x6_6, l7_6, x8_6, x9_6, x10_6, x11_6, l12_6, x13_6, x14_6, x15_6, x16_6, x17_6, x18_6 => b6 (spec_DrawRunScript.l6 k) (spec_DrawRunScript.l14 k) k x0_6 x1_6 l2_6 x3_6 x4_6 x5_6 x6_6 l7_6 x8_6 x9_6 x10_6 x11_6 l12_6 x13_6 x14_6 x15_6 x16_6 x17_6 x18_6
def l14 : Nat → Int → Int → (List (Int × Int × Int × Int × Int)) → Int → ByteArray → ByteArray → Int → Int → Int → (List (Int × Int × Int × Int × Int)) → Int → ByteArray → ByteArray → Int → ByteArray → Int → Option (Int × Int × List (Int × Int × Int × Int × Int) × Int × ByteArray × ByteArray × Int × ByteArray)
  | 0, _, _, _, _, _, _, _, _, _, _, _, _, _, _, _, _ => none
  | k + 1, x0_14, x1_14, l2_14, x3_14, x4_14, x5_14, x6_14, x7_14, x8_14, l9_14, x10_14, x11_14, x12_14, x13_14, x14_14, x15_14 => b14 (spec_DrawRunScript.l14 k) k x0_14 x1_14 l2_14 x3_14 x4_14 x5_14 x6_14 x7_14 x8_14 l9_14 x10_14 x11_14 x12_14 x13_14 x14_14 x15_14
end
def m (o6 : Int → Int → (List (Int × Int × Int × Int × Int)) → Int → ByteArray → ByteArray → Int → List Int → Int → Int → Int → Int → (List (Int × Int × Int × Int × Int)) → Int → ByteArray → ByteArray → Int → ByteArray → Int → Option (Int × Int × List (Int × Int × Int × Int × Int) × Int × ByteArray × ByteArray × Int × ByteArray)) (k : Nat) (l0 : List Int) : Option (Int × Int × List (Int × Int × Int × Int × Int) × Int × ByteArray × ByteArray × Int × ByteArray) := ((spec_l1Cur_console.f k l0 0 0).bind fun r1 => ((spec_l1Cur_command_2.f k r1.2.2.2.2.2.2.2.1 r1.2.2.2.2.2.2.2.2.1 r1.2.2.2.2.2.2.2.2.2 r1.1 r1.2.1 r1.2.2.1 r1.2.2.2.1 r1.2.2.2.2.1 r1.2.2.2.2.2.1 r1.2.2.2.2.2.2.1).bind fun r2 => ((spec_l1Cur_pick.f k r2.2.1 r2.2.2.1 r2.2.2.2.1 5).bind fun r3 => (o6 0 0 [] 0 ByteArray.empty ByteArray.empty 0 r3.2.1 r3.2.2.1 r3.2.2.2 r1.1 r1.2.1 r2.2.2.2.2 r1.2.2.2.1 r1.2.2.2.2.1 r1.2.2.2.2.2.1 r1.2.2.2.2.2.2.1 r2.1 r3.1))))
def f (k : Nat) (l0 : List Int) : Option (Int × Int × List (Int × Int × Int × Int × Int) × Int × ByteArray × ByteArray × Int × ByteArray) := m (spec_DrawRunScript.l6 k) k l0
noncomputable def spec (k : Nat) : FnSpec := ⟨[.d (.sl (.int .u8)) none], [.ag [.d (.int .i64) none, .d (.int .i64) none, .d (.sl (.pair (.int .i64) (.pair (.int .i64) (.pair (.int .i64) (.pair (.int .i64) (.int .i64)))))) (some 108), .d (.int .i64) none, .d .str none, .d .str none, .d (.int .i64) none], .d .str none], fun x => f k x⟩
def S6 (x0_6 x1_6 : Int) (l2_6 : List (Int × Int × Int × Int × Int)) (x3_6 : Int) (x4_6 x5_6 : ByteArray) (x6_6 : Int) (l7_6 : List Int) (x8_6 x9_6 x10_6 x11_6 : Int) (l12_6 : List (Int × Int × Int × Int × Int)) (x13_6 : Int) (x14_6 x15_6 : ByteArray) (x16_6 : Int) (x17_6 : ByteArray) (x18_6 : Int) : St := ⟨[(2, .ptr 100 0), (4, .ptr 101 0), (5, .ptr 102 0), (6, .val .str x17_6), (7, .val (.int .i64) x18_6)], [(102, some (.box [.val (.int .i64) x10_6, .val (.int .i64) x11_6, .ref 103, .val (.int .i64) x13_6, .val .str x14_6, .val .str x15_6, .val (.int .i64) x16_6])), (103, some (.row 108 (.pair (.int .i64) (.pair (.int .i64) (.pair (.int .i64) (.pair (.int .i64) (.int .i64))))) l12_6)), (101, some (.box [.val (.sl (.int .u8)) l7_6, .val (.int .i64) x8_6, .val (.int .u64) x9_6])), (100, some (.box [.val (.int .i64) x0_6, .val (.int .i64) x1_6, .val (.sl (.pair (.int .i64) (.pair (.int .i64) (.pair (.int .i64) (.pair (.int .i64) (.int .i64)))))) l2_6, .val (.int .i64) x3_6, .val .str x4_6, .val .str x5_6, .val (.int .i64) x6_6]))], 1000⟩
def S14 (x0_14 x1_14 : Int) (l2_14 : List (Int × Int × Int × Int × Int)) (x3_14 : Int) (x4_14 x5_14 : ByteArray) (x6_14 x7_14 x8_14 : Int) (l9_14 : List (Int × Int × Int × Int × Int)) (x10_14 : Int) (x11_14 x12_14 : ByteArray) (x13_14 : Int) (x14_14 : ByteArray) (x15_14 : Int) : St := ⟨[(2, .ptr 100 0), (5, .ptr 101 0), (6, .val .str x14_14), (8, .val (.int .i64) x15_14)], [(101, some (.box [.val (.int .i64) x7_14, .val (.int .i64) x8_14, .ref 102, .val (.int .i64) x10_14, .val .str x11_14, .val .str x12_14, .val (.int .i64) x13_14])), (102, some (.row 108 (.pair (.int .i64) (.pair (.int .i64) (.pair (.int .i64) (.pair (.int .i64) (.int .i64))))) l9_14)), (100, some (.box [.val (.int .i64) x0_14, .val (.int .i64) x1_14, .val (.sl (.pair (.int .i64) (.pair (.int .i64) (.pair (.int .i64) (.pair (.int .i64) (.int .i64)))))) l2_14, .val (.int .i64) x3_14, .val .str x4_14, .val .str x5_14, .val (.int .i64) x6_14]))], 1000⟩
noncomputable def T : FnText := ⟨(conv [] (bodyOf Tryz.f31) 0).1, Tryz.f31.results.toList, 42, [(6, [(2, .bx 100 [.rd (.int .i64), .rd (.int .i64), .rd (.sl (.pair (.int .i64) (.pair (.int .i64) (.pair (.int .i64) (.pair (.int .i64) (.int .i64)))))), .rd (.int .i64), .rd .str, .rd .str, .rd (.int .i64)]), (4, .bx 101 [.rd (.sl (.int .u8)), .rd (.int .i64), .rd (.int .u64)]), (5, .bx 102 [.rd (.int .i64), .rd (.int .i64), .own 108 (.pair (.int .i64) (.pair (.int .i64) (.pair (.int .i64) (.pair (.int .i64) (.int .i64))))) 103, .rd (.int .i64), .rd .str, .rd .str, .rd (.int .i64)]), (6, .rd .str), (7, .rd (.int .i64))]), (14, [(2, .bx 100 [.rd (.int .i64), .rd (.int .i64), .rd (.sl (.pair (.int .i64) (.pair (.int .i64) (.pair (.int .i64) (.pair (.int .i64) (.int .i64)))))), .rd (.int .i64), .rd .str, .rd .str, .rd (.int .i64)]), (5, .bx 101 [.rd (.int .i64), .rd (.int .i64), .own 108 (.pair (.int .i64) (.pair (.int .i64) (.pair (.int .i64) (.pair (.int .i64) (.int .i64))))) 102, .rd (.int .i64), .rd .str, .rd .str, .rd (.int .i64)]), (6, .rd .str), (8, .rd (.int .i64))])], [.d (.sl (.int .u8)) none], [.ag [.d (.int .i64) none, .d (.int .i64) none, .d (.sl (.pair (.int .i64) (.pair (.int .i64) (.pair (.int .i64) (.pair (.int .i64) (.int .i64)))))) (some 108), .d (.int .i64) none, .d .str none, .d .str none, .d (.int .i64) none], .d .str none]⟩
noncomputable def tbl (k : Nat) : Tbl := [(57, spec_l1Cur_console.spec k), (60, spec_l1Cur_command_2.spec k), (59, spec_l1Cur_pick.spec k), (58, spec_l1Cur_one.spec k)]
theorem e6 (k : Nat) (o : Nat → St → Option (Int × Int × List (Int × Int × Int × Int × Int) × Int × ByteArray × ByteArray × Int × ByteArray)) (x0_6 x1_6 : Int) (l2_6 : List (Int × Int × Int × Int × Int)) (x3_6 : Int) (x4_6 x5_6 : ByteArray) (x6_6 : Int) (l7_6 : List Int) (x8_6 x9_6 x10_6 x11_6 : Int) (l12_6 : List (Int × Int × Int × Int × Int)) (x13_6 : Int) (x14_6 x15_6 : ByteArray) (x16_6 : Int) (x17_6 : ByteArray) (x18_6 : Int) : T.step tyt (tbl k) o 6 (S6 x0_6 x1_6 l2_6 x3_6 x4_6 x5_6 x6_6 l7_6 x8_6 x9_6 x10_6 x11_6 l12_6 x13_6 x14_6 x15_6 x16_6 x17_6 x18_6) = b6 (fun x0_6 x1_6 l2_6 x3_6 x4_6 x5_6 x6_6 l7_6 x8_6 x9_6 x10_6 x11_6 l12_6 x13_6 x14_6 x15_6 x16_6 x17_6 x18_6 => o 6 (S6 x0_6 x1_6 l2_6 x3_6 x4_6 x5_6 x6_6 l7_6 x8_6 x9_6 x10_6 x11_6 l12_6 x13_6 x14_6 x15_6 x16_6 x17_6 x18_6)) (fun x0_14 x1_14 l2_14 x3_14 x4_14 x5_14 x6_14 x7_14 x8_14 l9_14 x10_14 x11_14 x12_14 x13_14 x14_14 x15_14 => o 14 (S14 x0_14 x1_14 l2_14 x3_14 x4_14 x5_14 x6_14 x7_14 x8_14 l9_14 x10_14 x11_14 x12_14 x13_14 x14_14 x15_14)) k x0_6 x1_6 l2_6 x3_6 x4_6 x5_6 x6_6 l7_6 x8_6 x9_6 x10_6 x11_6 l12_6 x13_6 x14_6 x15_6 x16_6 x17_6 x18_6 := by kernel_rfl
theorem e14 (k : Nat) (o : Nat → St → Option (Int × Int × List (Int × Int × Int × Int × Int) × Int × ByteArray × ByteArray × Int × ByteArray)) (x0_14 x1_14 : Int) (l2_14 : List (Int × Int × Int × Int × Int)) (x3_14 : Int) (x4_14 x5_14 : ByteArray) (x6_14 x7_14 x8_14 : Int) (l9_14 : List (Int × Int × Int × Int × Int)) (x10_14 : Int) (x11_14 x12_14 : ByteArray) (x13_14 : Int) (x14_14 : ByteArray) (x15_14 : Int) : T.step tyt (tbl k) o 14 (S14 x0_14 x1_14 l2_14 x3_14 x4_14 x5_14 x6_14 x7_14 x8_14 l9_14 x10_14 x11_14 x12_14 x13_14 x14_14 x15_14) = b14 (fun x0_14 x1_14 l2_14 x3_14 x4_14 x5_14 x6_14 x7_14 x8_14 l9_14 x10_14 x11_14 x12_14 x13_14 x14_14 x15_14 => o 14 (S14 x0_14 x1_14 l2_14 x3_14 x4_14 x5_14 x6_14 x7_14 x8_14 l9_14 x10_14 x11_14 x12_14 x13_14 x14_14 x15_14)) k x0_14 x1_14 l2_14 x3_14 x4_14 x5_14 x6_14 x7_14 x8_14 l9_14 x10_14 x11_14 x12_14 x13_14 x14_14 x15_14 := by kernel_rfl
theorem e (k : Nat) (o : Nat → St → Option (Int × Int × List (Int × Int × Int × Int × Int) × Int × ByteArray × ByteArray × Int × ByteArray)) (l0 : List Int) : T.main tyt (tbl k) o l0 = m (fun x0_6 x1_6 l2_6 x3_6 x4_6 x5_6 x6_6 l7_6 x8_6 x9_6 x10_6 x11_6 l12_6 x13_6 x14_6 x15_6 x16_6 x17_6 x18_6 => o 6 (S6 x0_6 x1_6 l2_6 x3_6 x4_6 x5_6 x6_6 l7_6 x8_6 x9_6 x10_6 x11_6 l12_6 x13_6 x14_6 x15_6 x16_6 x17_6 x18_6)) k l0 := by kernel_rfl
theorem ok : T.ok = true := by kernel_rfl
theorem run (k : Nat) : (∀ (x0_6 x1_6 : Int) (l2_6 : List (Int × Int × Int × Int × Int)) (x3_6 : Int) (x4_6 x5_6 : ByteArray) (x6_6 : Int) (l7_6 : List Int) (x8_6 x9_6 x10_6 x11_6 : Int) (l12_6 : List (Int × Int × Int × Int × Int)) (x13_6 : Int) (x14_6 x15_6 : ByteArray) (x16_6 : Int) (x17_6 : ByteArray) (x18_6 : Int), T.run tyt tbl k 6 (S6 x0_6 x1_6 l2_6 x3_6 x4_6 x5_6 x6_6 l7_6 x8_6 x9_6 x10_6 x11_6 l12_6 x13_6 x14_6 x15_6 x16_6 x17_6 x18_6) = spec_DrawRunScript.l6 k x0_6 x1_6 l2_6 x3_6 x4_6 x5_6 x6_6 l7_6 x8_6 x9_6 x10_6 x11_6 l12_6 x13_6 x14_6 x15_6 x16_6 x17_6 x18_6) ∧ (∀ (x0_14 x1_14 : Int) (l2_14 : List (Int × Int × Int × Int × Int)) (x3_14 : Int) (x4_14 x5_14 : ByteArray) (x6_14 x7_14 x8_14 : Int) (l9_14 : List (Int × Int × Int × Int × Int)) (x10_14 : Int) (x11_14 x12_14 : ByteArray) (x13_14 : Int) (x14_14 : ByteArray) (x15_14 : Int), T.run tyt tbl k 14 (S14 x0_14 x1_14 l2_14 x3_14 x4_14 x5_14 x6_14 x7_14 x8_14 l9_14 x10_14 x11_14 x12_14 x13_14 x14_14 x15_14) = spec_DrawRunScript.l14 k x0_14 x1_14 l2_14 x3_14 x4_14 x5_14 x6_14 x7_14 x8_14 l9_14 x10_14 x11_14 x12_14 x13_14 x14_14 x15_14) := by
  induction k with
  | zero => exact ⟨fun x0_6 x1_6 l2_6 x3_6 x4_6 x5_6 x6_6 l7_6 x8_6 x9_6 x10_6 x11_6 l12_6 x13_6 x14_6 x15_6 x16_6 x17_6 x18_6 => rfl, fun x0_14 x1_14 l2_14 x3_14 x4_14 x5_14 x6_14 x7_14 x8_14 l9_14 x10_14 x11_14 x12_14 x13_14 x14_14 x15_14 => rfl⟩
  | succ k ih =>
    exact ⟨fun x0_6 x1_6 l2_6 x3_6 x4_6 x5_6 x6_6 l7_6 x8_6 x9_6 x10_6 x11_6 l12_6 x13_6 x14_6 x15_6 x16_6 x17_6 x18_6 => by
      have q6 : (fun x0_6 x1_6 l2_6 x3_6 x4_6 x5_6 x6_6 l7_6 x8_6 x9_6 x10_6 x11_6 l12_6 x13_6 x14_6 x15_6 x16_6 x17_6 x18_6 => T.run tyt tbl k 6 (S6 x0_6 x1_6 l2_6 x3_6 x4_6 x5_6 x6_6 l7_6 x8_6 x9_6 x10_6 x11_6 l12_6 x13_6 x14_6 x15_6 x16_6 x17_6 x18_6)) = spec_DrawRunScript.l6 k := by funext x0_6 x1_6 l2_6 x3_6 x4_6 x5_6 x6_6 l7_6 x8_6 x9_6 x10_6 x11_6 l12_6 x13_6 x14_6 x15_6 x16_6 x17_6 x18_6; exact ih.1 x0_6 x1_6 l2_6 x3_6 x4_6 x5_6 x6_6 l7_6 x8_6 x9_6 x10_6 x11_6 l12_6 x13_6 x14_6 x15_6 x16_6 x17_6 x18_6
      have q14 : (fun x0_14 x1_14 l2_14 x3_14 x4_14 x5_14 x6_14 x7_14 x8_14 l9_14 x10_14 x11_14 x12_14 x13_14 x14_14 x15_14 => T.run tyt tbl k 14 (S14 x0_14 x1_14 l2_14 x3_14 x4_14 x5_14 x6_14 x7_14 x8_14 l9_14 x10_14 x11_14 x12_14 x13_14 x14_14 x15_14)) = spec_DrawRunScript.l14 k := by funext x0_14 x1_14 l2_14 x3_14 x4_14 x5_14 x6_14 x7_14 x8_14 l9_14 x10_14 x11_14 x12_14 x13_14 x14_14 x15_14; exact ih.2 x0_14 x1_14 l2_14 x3_14 x4_14 x5_14 x6_14 x7_14 x8_14 l9_14 x10_14 x11_14 x12_14 x13_14 x14_14 x15_14
      exact (e6 k (T.run tyt tbl k) x0_6 x1_6 l2_6 x3_6 x4_6 x5_6 x6_6 l7_6 x8_6 x9_6 x10_6 x11_6 l12_6 x13_6 x14_6 x15_6 x16_6 x17_6 x18_6).trans (by rw [q6, q14]; rfl), fun x0_14 x1_14 l2_14 x3_14 x4_14 x5_14 x6_14 x7_14 x8_14 l9_14 x10_14 x11_14 x12_14 x13_14 x14_14 x15_14 => by
      have q14 : (fun x0_14 x1_14 l2_14 x3_14 x4_14 x5_14 x6_14 x7_14 x8_14 l9_14 x10_14 x11_14 x12_14 x13_14 x14_14 x15_14 => T.run tyt tbl k 14 (S14 x0_14 x1_14 l2_14 x3_14 x4_14 x5_14 x6_14 x7_14 x8_14 l9_14 x10_14 x11_14 x12_14 x13_14 x14_14 x15_14)) = spec_DrawRunScript.l14 k := by funext x0_14 x1_14 l2_14 x3_14 x4_14 x5_14 x6_14 x7_14 x8_14 l9_14 x10_14 x11_14 x12_14 x13_14 x14_14 x15_14; exact ih.2 x0_14 x1_14 l2_14 x3_14 x4_14 x5_14 x6_14 x7_14 x8_14 l9_14 x10_14 x11_14 x12_14 x13_14 x14_14 x15_14
      exact (e14 k (T.run tyt tbl k) x0_14 x1_14 l2_14 x3_14 x4_14 x5_14 x6_14 x7_14 x8_14 l9_14 x10_14 x11_14 x12_14 x13_14 x14_14 x15_14).trans (by rw [q14]; rfl)⟩
theorem tblok (k : Nat) : TblOk Tryz.prog (tbl k) := TblOk.cons (spec_l1Cur_console.sound k) (TblOk.cons (spec_l1Cur_command_2.sound k) (TblOk.cons (spec_l1Cur_pick.sound k) (TblOk.cons (spec_l1Cur_one.sound k) (TblOk.nil _))))
theorem sound (k : Nat) : Sound Tryz.prog 31 (spec k) := by
  have h := fn_ok (F := T) (tbl := tbl) mixed tyok Tryz.func31 (by kernel_rfl) (c0 := bodyOf Tryz.f31) rfl (conv_code _ _ _) rfl rfl ok k (fun j _ => tblok j)
  have q6 : (fun x0_6 x1_6 l2_6 x3_6 x4_6 x5_6 x6_6 l7_6 x8_6 x9_6 x10_6 x11_6 l12_6 x13_6 x14_6 x15_6 x16_6 x17_6 x18_6 => T.run tyt tbl k 6 (S6 x0_6 x1_6 l2_6 x3_6 x4_6 x5_6 x6_6 l7_6 x8_6 x9_6 x10_6 x11_6 l12_6 x13_6 x14_6 x15_6 x16_6 x17_6 x18_6)) = spec_DrawRunScript.l6 k := by funext x0_6 x1_6 l2_6 x3_6 x4_6 x5_6 x6_6 l7_6 x8_6 x9_6 x10_6 x11_6 l12_6 x13_6 x14_6 x15_6 x16_6 x17_6 x18_6; exact (run k).1 x0_6 x1_6 l2_6 x3_6 x4_6 x5_6 x6_6 l7_6 x8_6 x9_6 x10_6 x11_6 l12_6 x13_6 x14_6 x15_6 x16_6 x17_6 x18_6
  have e : spec k = ⟨T.ps, T.rs, T.ev tyt tbl k⟩ := congrArg (FnSpec.mk _ _) (funext fun x => ((e k (T.run tyt tbl k) x).trans (by rw [q6]; rfl)).symm)
  rw [e]
  exact h
end spec_DrawRunScript

/-! ### strings_Split: function 67, by its contract -/
def strings_Split.f (k : Nat) (a0 : ByteArray) (a1 : ByteArray) : Option (List ByteArray) := splitF a0 a1
noncomputable def strings_Split.spec (k : Nat) : FnSpec := ⟨[.d .str none, .d .str none], [.d (.sl .str) none], fun x => strings_Split.f k x.1 x.2⟩
theorem strings_Split.sound (k : Nat) : Sound Go.Proofs.Tryz.prog 67 (strings_Split.spec k) := strSplit_ok

namespace impl_in
/-! ### impl_in: function 79 -/
def m (k : Nat) (a0 a1 a2 : Int) : Option (Bool) := (if a1 ≤ a0 then (some (decide (a0 ≤ a2))) else (some false))
def f (k : Nat) (a0 a1 a2 : Int) : Option (Bool) := m k a0 a1 a2
noncomputable def spec (k : Nat) : FnSpec := ⟨[.d (.int .i64) none, .d (.int .i64) none, .d (.int .i64) none], [.d .bool none], fun x => f k x.1 x.2.1 x.2.2⟩
noncomputable def T : FnText := ⟨(conv [] (bodyOf Tryz.f79) 0).1, Tryz.f79.results.toList, 15, [], [.d (.int .i64) none, .d (.int .i64) none, .d (.int .i64) none], [.d .bool none]⟩
noncomputable def tbl (k : Nat) : Tbl := []
theorem e (k : Nat) (o : Nat → St → Option (Bool)) (a0 a1 a2 : Int) : T.main tyt (tbl k) o (a0, a1, a2) = m k a0 a1 a2 := by kernel_rfl
theorem ok : T.ok = true := by kernel_rfl
theorem tblok (k : Nat) : TblOk Tryz.prog (tbl k) := TblOk.nil _
theorem sound (k : Nat) : Sound Tryz.prog 79 (spec k) := by
  have h := fn_ok (F := T) (tbl := tbl) mixed tyok Tryz.func79 (by kernel_rfl) (c0 := bodyOf Tryz.f79) rfl (conv_code _ _ _) rfl rfl ok k (fun j _ => tblok j)
  have e : spec k = ⟨T.ps, T.rs, T.ev tyt tbl k⟩ := congrArg (FnSpec.mk _ _) (funext fun x => ((e k (T.run tyt tbl k) x.1 x.2.1 x.2.2).trans (by rfl)).symm)
  rw [e]
  exact h
end impl_in

namespace impl_isDay
/-! ### impl_isDay: function 112 -/
def m (k : Nat) (a0 : Int) : Option (Bool) := ((impl_in.f k a0 0 4000).bind fun r1 => (some r1))
def f (k : Nat) (a0 : Int) : Option (Bool) := m k a0
noncomputable def spec (k : Nat) : FnSpec := ⟨[.d (.int .i64) none], [.d .bool none], fun x => f k x⟩
noncomputable def T : FnText := ⟨(conv [] (bodyOf Tryz.f112) 0).1, Tryz.f112.results.toList, 5, [], [.d (.int .i64) none], [.d .bool none]⟩
noncomputable def tbl (k : Nat) : Tbl := [(79, impl_in.spec k)]
theorem e (k : Nat) (o : Nat → St → Option (Bool)) (a0 : Int) : T.main tyt (tbl k) o a0 = m k a0 := by kernel_rfl
theorem ok : T.ok = true := by kernel_rfl
theorem tblok (k : Nat) : TblOk Tryz.prog (tbl k) := TblOk.cons (impl_in.sound k) (TblOk.nil _)
theorem sound (k : Nat) : Sound Tryz.prog 112 (spec k) := by
  have h := fn_ok (F := T) (tbl := tbl) mixed tyok Tryz.func112 (by kernel_rfl) (c0 := bodyOf Tryz.f112) rfl (conv_code _ _ _) rfl rfl ok k (fun j _ => tblok j)
  have e : spec k = ⟨T.ps, T.rs, T.ev tyt tbl k⟩ := congrArg (FnSpec.mk _ _) (funext fun x => ((e k (T.run tyt tbl k) x).trans (by rfl)).symm)
  rw [e]
  exact h
end impl_isDay

namespace impl_Shop_isCarpet
/-! ### impl_Shop_isCarpet: function 113 -/
def m (k : Nat) (a0_0 a0_1 : Int) (l0_2 : List (Int × Int × Int × Int × Int)) (a0_3 a1_0 a1_1 a1_2 a1_3 a1_4 : Int) : Option (Bool) := ((impl_in.f k a1_0 1 500).bind fun r1 => (cond (!r1) (some false) ((impl_in.f k a1_1 0 a1_0).bind fun r2 => (cond (!r2) (some false) ((impl_in.f k a1_2 0 4).bind fun r3 => (cond (!r3) (some false) ((impl_in.f k a1_4 0 a0_0).bind fun r4 => (cond (!r4) (some false) (if a1_2 = 0 then (if a1_1 = 0 then (some (decide (a1_3 = 0))) else (some false)) else (if a1_2 = 1 then ((impl_in.f k a1_3 1 a0_1).bind fun r5 => (some r5)) else (if a1_1 = a1_0 then (some (decide (a1_3 = 0))) else (some false))))))))))))
def f (k : Nat) (a0_0 a0_1 : Int) (l0_2 : List (Int × Int × Int × Int × Int)) (a0_3 a1_0 a1_1 a1_2 a1_3 a1_4 : Int) : Option (Bool) := m k a0_0 a0_1 l0_2 a0_3 a1_0 a1_1 a1_2 a1_3 a1_4
noncomputable def spec (k : Nat) : FnSpec := ⟨[.ag [.d (.int .i64) none, .d (.int .i64) none, .d (.sl (.pair (.int .i64) (.pair (.int .i64) (.pair (.int .i64) (.pair (.int .i64) (.int .i64)))))) none, .d (.int .i64) none], .ag [.d (.int .i64) none, .d (.int .i64) none, .d (.int .i64) none, .d (.int .i64) none, .d (.int .i64) none]], [.d .bool none], fun x => f k x.1 x.2.1 x.2.2.1 x.2.2.2.1 x.2.2.2.2.1 x.2.2.2.2.2.1 x.2.2.2.2.2.2.1 x.2.2.2.2.2.2.2.1 x.2.2.2.2.2.2.2.2⟩
noncomputable def T : FnText := ⟨(conv [] (bodyOf Tryz.f113) 0).1, Tryz.f113.results.toList, 60, [], [.ag [.d (.int .i64) none, .d (.int .i64) none, .d (.sl (.pair (.int .i64) (.pair (.int .i64) (.pair (.int .i64) (.pair (.int .i64) (.int .i64)))))) none, .d (.int .i64) none], .ag [.d (.int .i64) none, .d (.int .i64) none, .d (.int .i64) none, .d (.int .i64) none, .d (.int .i64) none]], [.d .bool none]⟩
noncomputable def tbl (k : Nat) : Tbl := [(79, impl_in.spec k)]
theorem e (k : Nat) (o : Nat → St → Option (Bool)) (a0_0 a0_1 : Int) (l0_2 : List (Int × Int × Int × Int × Int)) (a0_3 a1_0 a1_1 a1_2 a1_3 a1_4 : Int) : T.main tyt (tbl k) o (a0_0, a0_1, l0_2, a0_3, a1_0, a1_1, a1_2, a1_3, a1_4) = m k a0_0 a0_1 l0_2 a0_3 a1_0 a1_1 a1_2 a1_3 a1_4 := by kernel_rfl
theorem ok : T.ok = true := by kernel_rfl
theorem tblok (k : Nat) : TblOk Tryz.prog (tbl k) := TblOk.cons (impl_in.sound k) (TblOk.nil _)
theorem sound (k : Nat) : Sound Tryz.prog 113 (spec k) := by
  have h := fn_ok (F := T) (tbl := tbl) mixed tyok Tryz.func113 (by kernel_rfl) (c0 := bodyOf Tryz.f113) rfl (conv_code _ _ _) rfl rfl ok k (fun j _ => tblok j)
  have e : spec k = ⟨T.ps, T.rs, T.ev tyt tbl k⟩ := congrArg (FnSpec.mk _ _) (funext fun x => ((e k (T.run tyt tbl k) x.1 x.2.1 x.2.2.1 x.2.2.2.1 x.2.2.2.2.1 x.2.2.2.2.2.1 x.2.2.2.2.2.2.1 x.2.2.2.2.2.2.2.1 x.2.2.2.2.2.2.2.2).trans (by rfl)).symm)
  rw [e]
  exact h
end impl_Shop_isCarpet

namespace impl_Shop_onLoom_1
/-! ### impl_Shop_onLoom_1: function 152 -/
def m (k : Nat) (a0_0 a0_1 a0_2 a0_3 a0_4 a1_0 : Int) : Option (Bool) := (if a0_2 = 1 then (some (decide (a0_3 = a1_0))) else (some false))
def f (k : Nat) (a0_0 a0_1 a0_2 a0_3 a0_4 a1_0 : Int) : Option (Bool) := m k a0_0 a0_1 a0_2 a0_3 a0_4 a1_0
noncomputable def spec (k : Nat) : FnSpec := ⟨[.ag [.d (.int .i64) none, .d (.int .i64) none, .d (.int .i64) none, .d (.int .i64) none, .d (.int .i64) none], .rb [.d (.int .i64) none]], [.d .bool none], fun x => f k x.1 x.2.1 x.2.2.1 x.2.2.2.1 x.2.2.2.2.1 x.2.2.2.2.2⟩
noncomputable def T : FnText := ⟨(conv [] (bodyOf Tryz.f152) 0).1, Tryz.f152.results.toList, 13, [], [.ag [.d (.int .i64) none, .d (.int .i64) none, .d (.int .i64) none, .d (.int .i64) none, .d (.int .i64) none], .rb [.d (.int .i64) none]], [.d .bool none]⟩
noncomputable def tbl (k : Nat) : Tbl := []
theorem e (k : Nat) (o : Nat → St → Option (Bool)) (a0_0 a0_1 a0_2 a0_3 a0_4 a1_0 : Int) : T.main tyt (tbl k) o (a0_0, a0_1, a0_2, a0_3, a0_4, a1_0) = m k a0_0 a0_1 a0_2 a0_3 a0_4 a1_0 := by kernel_rfl
theorem ok : T.ok = true := by kernel_rfl
theorem tblok (k : Nat) : TblOk Tryz.prog (tbl k) := TblOk.nil _
theorem sound (k : Nat) : Sound Tryz.prog 152 (spec k) := by
  have h := fn_ok (F := T) (tbl := tbl) mixed tyok Tryz.func152 (by kernel_rfl) (c0 := bodyOf Tryz.f152) rfl (conv_code _ _ _) rfl rfl ok k (fun j _ => tblok j)
  have e : spec k = ⟨T.ps, T.rs, T.ev tyt tbl k⟩ := congrArg (FnSpec.mk _ _) (funext fun x => ((e k (T.run tyt tbl k) x.1 x.2.1 x.2.2.1 x.2.2.2.1 x.2.2.2.2.1 x.2.2.2.2.2).trans (by rfl)).symm)
  rw [e]
  exact h
end impl_Shop_onLoom_1

namespace slices_IndexFunc_impl_Carpet_impl_Carpet__impl_Shop_onLoom_1
/-! ### slices_IndexFunc_impl_Carpet_impl_Carpet__impl_Shop_onLoom_1: function 151 -/
def b3 (o3 : (List (Int × Int × Int × Int × Int)) → Int → Int → Int → Option (Int)) (k : Nat) (l0_3 : List (Int × Int × Int × Int × Int)) (x1_3 x2_3 x3_3 : Int) : Option (Int) := (if x3_3 < x2_3 then ((chk l0_3.length x3_3).bind fun i1 => ((impl_Shop_onLoom_1.f k ((l0_3.getD i1 (0, 0, 0, 0, 0)).1) (((l0_3.getD i1 (0, 0, 0, 0, 0)).2).1) ((((l0_3.getD i1 (0, 0, 0, 0, 0)).2).2).1) (((((l0_3.getD i1 (0, 0, 0, 0, 0)).2).2).2).1) (((((l0_3.getD i1 (0, 0, 0, 0, 0)).2).2).2).2) x1_3).bind fun r2 => (cond r2 (some x3_3) (o3 l0_3 x1_3 x2_3 (w64 (x3_3 + 1)))))) else (some (-1)))
def l3 : Nat → (List (Int × Int × Int × Int × Int)) → Int → Int → Int → Option (Int)
  | 0, _, _, _, _ => none
  | k + 1, l0_3, x1_3, x2_3, x3_3 => b3 (slices_IndexFunc_impl_Carpet_impl_Carpet__impl_Shop_onLoom_1.l3 k) k l0_3 x1_3 x2_3 x3_3
def m (o3 : (List (Int × Int × Int × Int × Int)) → Int → Int → Int → Option (Int)) (k : Nat) (l0 : List (Int × Int × Int × Int × Int)) (a1_0_0 : Int) : Option (Int) := (o3 l0 a1_0_0 (l0.length : Int) 0)
def f (k : Nat) (l0 : List (Int × Int × Int × Int × Int)) (a1_0_0 : Int) : Option (Int) := m (slices_IndexFunc_impl_Carpet_impl_Carpet__impl_Shop_onLoom_1.l3 k) k l0 a1_0_0
noncomputable def spec (k : Nat) : FnSpec := ⟨[.d (.sl (.pair (.int .i64) (.pair (.int .i64) (.pair (.int .i64) (.pair (.int .i64) (.int .i64)))))) none, .fv 152 [] [.rb [.d (.int .i64) none]]], [.d (.int .i64) none], fun x => f k x.1 x.2⟩
def S3 (l0_3 : List (Int × Int × Int × Int × Int)) (x1_3 x2_3 x3_3 : Int) : St := ⟨[(0, .val (.sl (.pair (.int .i64) (.pair (.int .i64) (.pair (.int .i64) (.pair (.int .i64) (.int .i64)))))) l0_3), (1, .fn 152 [] [.cptr [.val (.int .i64) x1_3] 0]), (7, .val (.int .i64) x2_3), (8, .val (.int .i64) x3_3)], [], 1000⟩
noncomputable def T : FnText := ⟨(conv [] (bodyOf Tryz.f151) 0).1, Tryz.f151.results.toList, 19, [(3, [(0, .rd (.sl (.pair (.int .i64) (.pair (.int .i64) (.pair (.int .i64) (.pair (.int .i64) (.int .i64))))))), (1, .as), (7, .rd (.int .i64)), (8, .rd (.int .i64))])], [.d (.sl (.pair (.int .i64) (.pair (.int .i64) (.pair (.int .i64) (.pair (.int .i64) (.int .i64)))))) none, .fv 152 [] [.rb [.d (.int .i64) none]]], [.d (.int .i64) none]⟩
noncomputable def tbl (k : Nat) : Tbl := [(152, impl_Shop_onLoom_1.spec k)]
theorem e3 (k : Nat) (o : Nat → St → Option (Int)) (l0_3 : List (Int × Int × Int × Int × Int)) (x1_3 x2_3 x3_3 : Int) : T.step tyt (tbl k) o 3 (S3 l0_3 x1_3 x2_3 x3_3) = b3 (fun l0_3 x1_3 x2_3 x3_3 => o 3 (S3 l0_3 x1_3 x2_3 x3_3)) k l0_3 x1_3 x2_3 x3_3 := by kernel_rfl
theorem e (k : Nat) (o : Nat → St → Option (Int)) (l0 : List (Int × Int × Int × Int × Int)) (a1_0_0 : Int) : T.main tyt (tbl k) o (l0, a1_0_0) = m (fun l0_3 x1_3 x2_3 x3_3 => o 3 (S3 l0_3 x1_3 x2_3 x3_3)) k l0 a1_0_0 := by kernel_rfl
theorem ok : T.ok = true := by kernel_rfl
theorem run (k : Nat) : (∀ (l0_3 : List (Int × Int × Int × Int × Int)) (x1_3 x2_3 x3_3 : Int), T.run tyt tbl k 3 (S3 l0_3 x1_3 x2_3 x3_3) = slices_IndexFunc_impl_Carpet_impl_Carpet__impl_Shop_onLoom_1.l3 k l0_3 x1_3 x2_3 x3_3) := by
  induction k with
  | zero => exact fun l0_3 x1_3 x2_3 x3_3 => rfl
  | succ k ih =>
    exact fun l0_3 x1_3 x2_3 x3_3 => by
      have q3 : (fun l0_3 x1_3 x2_3 x3_3 => T.run tyt tbl k 3 (S3 l0_3 x1_3 x2_3 x3_3)) = slices_IndexFunc_impl_Carpet_impl_Carpet__impl_Shop_onLoom_1.l3 k := by funext l0_3 x1_3 x2_3 x3_3; exact ih l0_3 x1_3 x2_3 x3_3
      exact (e3 k (T.run tyt tbl k) l0_3 x1_3 x2_3 x3_3).trans (by rw [q3]; rfl)
theorem tblok (k : Nat) : TblOk Tryz.prog (tbl k) := TblOk.cons (impl_Shop_onLoom_1.sound k) (TblOk.nil _)
theorem sound (k : Nat) : Sound Tryz.prog 151 (spec k) := by
  have h := fn_ok (F := T) (tbl := tbl) mixed tyok Tryz.func151 (by kernel_rfl) (c0 := bodyOf Tryz.f151) rfl (conv_code _ _ _) rfl rfl ok k (fun j _ => tblok j)
  have q3 : (fun l0_3 x1_3 x2_3 x3_3 => T.run tyt tbl k 3 (S3 l0_3 x1_3 x2_3 x3_3)) = slices_IndexFunc_impl_Carpet_impl_Carpet__impl_Shop_onLoom_1.l3 k := by funext l0_3 x1_3 x2_3 x3_3; exact (run k) l0_3 x1_3 x2_3 x3_3
  have e : spec k = ⟨T.ps, T.rs, T.ev tyt tbl k⟩ := congrArg (FnSpec.mk _ _) (funext fun x => ((e k (T.run tyt tbl k) x.1 x.2).trans (by rw [q3]; rfl)).symm)
  rw [e]
  exact h
end slices_IndexFunc_impl_Carpet_impl_Carpet__impl_Shop_onLoom_1

namespace impl_Shop_onLoom
/-! ### impl_Shop_onLoom: function 114 -/
def m (k : Nat) (a0_0 a0_1 : Int) (l0_2 : List (Int × Int × Int × Int × Int)) (a0_3 a1 : Int) : Option (Int) := ((slices_IndexFunc_impl_Carpet_impl_Carpet__impl_Shop_onLoom_1.f k l0_2 a1).bind fun r1 => (some r1))
def f (k : Nat) (a0_0 a0_1 : Int) (l0_2 : List (Int × Int × Int × Int × Int)) (a0_3 a1 : Int) : Option (Int) := m k a0_0 a0_1 l0_2 a0_3 a1
noncomputable def spec (k : Nat) : FnSpec := ⟨[.ag [.d (.int .i64) none, .d (.int .i64) none, .d (.sl (.pair (.int .i64) (.pair (.int .i64) (.pair (.int .i64) (.pair (.int .i64) (.int .i64)))))) none, .d (.int .i64) none], .d (.int .i64) none], [.d (.int .i64) none], fun x => f k x.1 x.2.1 x.2.2.1 x.2.2.2.1 x.2.2.2.2⟩
noncomputable def T : FnText := ⟨(conv [] (bodyOf Tryz.f114) 0).1, Tryz.f114.results.toList, 9, [], [.ag [.d (.int .i64) none, .d (.int .i64) none, .d (.sl (.pair (.int .i64) (.pair (.int .i64) (.pair (.int .i64) (.pair (.int .i64) (.int .i64)))))) none, .d (.int .i64) none], .d (.int .i64) none], [.d (.int .i64) none]⟩
noncomputable def tbl (k : Nat) : Tbl := [(151, slices_IndexFunc_impl_Carpet_impl_Carpet__impl_Shop_onLoom_1.spec k)]
theorem e (k : Nat) (o : Nat → St → Option (Int)) (a0_0 a0_1 : Int) (l0_2 : List (Int × Int × Int × Int × Int)) (a0_3 a1 : Int) : T.main tyt (tbl k) o (a0_0, a0_1, l0_2, a0_3, a1) = m k a0_0 a0_1 l0_2 a0_3 a1 := by kernel_rfl
theorem ok : T.ok = true := by kernel_rfl
theorem tblok (k : Nat) : TblOk Tryz.prog (tbl k) := TblOk.cons (slices_IndexFunc_impl_Carpet_impl_Carpet__impl_Shop_onLoom_1.sound k) (TblOk.nil _)
theorem sound (k : Nat) : Sound Tryz.prog 114 (spec k) := by
  have h := fn_ok (F := T) (tbl := tbl) mixed tyok Tryz.func114 (by kernel_rfl) (c0 := bodyOf Tryz.f114) rfl (conv_code _ _ _) rfl rfl ok k (fun j _ => tblok j)
  have e : spec k = ⟨T.ps, T.rs, T.ev tyt tbl k⟩ := congrArg (FnSpec.mk _ _) (funext fun x => ((e k (T.run tyt tbl k) x.1 x.2.1 x.2.2.1 x.2.2.2.1 x.2.2.2.2).trans (by rfl)).symm)
  rw [e]
  exact h
end impl_Shop_onLoom

namespace impl_IsShop
/-! ### impl_IsShop: function 63 -/
def b6 (o6 : Int → Int → (List (Int × Int × Int × Int × Int)) → Int → (List (Int × Int × Int × Int × Int)) → Int → Int → Option (Bool)) (k : Nat) (x0_6 x1_6 : Int) (l2_6 : List (Int × Int × Int × Int × Int)) (x3_6 : Int) (l4_6 : List (Int × Int × Int × Int × Int)) (x5_6 x6_6 : Int) : Option (Bool) := (if x6_6 < x5_6 then ((chk l4_6.length x6_6).bind fun i4 => ((impl_Shop_isCarpet.f k x0_6 x1_6 l2_6 x3_6 ((l4_6.getD i4 (0, 0, 0, 0, 0)).1) (((l4_6.getD i4 (0, 0, 0, 0, 0)).2).1) ((((l4_6.getD i4 (0, 0, 0, 0, 0)).2).2).1) (((((l4_6.getD i4 (0, 0, 0, 0, 0)).2).2).2).1) (((((l4_6.getD i4 (0, 0, 0, 0, 0)).2).2).2).2)).bind fun r5 => (cond (!r5) (some false) (if ((((l4_6.getD i4 (0, 0, 0, 0, 0)).2).2).1) = 1 then ((impl_Shop_onLoom.f k x0_6 x1_6 l2_6 x3_6 (((((l4_6.getD i4 (0, 0, 0, 0, 0)).2).2).2).1)).bind fun r6 => (if ¬ r6 = x6_6 then (some false) else (o6 x0_6 x1_6 l2_6 x3_6 l4_6 x5_6 (w64 (x6_6 + 1))))) else (o6 x0_6 x1_6 l2_6 x3_6 l4_6 x5_6 (w64 (x6_6 + 1))))))) else (some true))
def l6 : Nat → Int → Int → (List (Int × Int × Int × Int × Int)) → Int → (List (Int × Int × Int × Int × Int)) → Int → Int → Option (Bool)
  | 0, _, _, _, _, _, _, _ => none
  | k + 1, x0_6, x1_6, l2_6, x3_6, l4_6, x5_6, x6_6 => b6 (impl_IsShop.l6 k) k x0_6 x1_6 l2_6 x3_6 l4_6 x5_6 x6_6
def m (o6 : Int → Int → (List (Int × Int × Int × Int × Int)) → Int → (List (Int × Int × Int × Int × Int)) → Int → Int → Option (Bool)) (k : Nat) (a0_0 a0_1 : Int) (l0_2 : List (Int × Int × Int × Int × Int)) (a0_3 : Int) : Option (Bool) := ((impl_isDay.f k a0_0).bind fun r1 => (cond (!r1) (some false) ((impl_in.f k a0_1 1 4).bind fun r2 => (cond (!r2) (some false) (if 8 < (l0_2.length : Int) then (some false) else ((impl_in.f k a0_3 0 1000000).bind fun r3 => (cond (!r3) (some false) (o6 a0_0 a0_1 l0_2 a0_3 l0_2 (l0_2.length : Int) 0))))))))
def f (k : Nat) (a0_0 a0_1 : Int) (l0_2 : List (Int × Int × Int × Int × Int)) (a0_3 : Int) : Option (Bool) := m (impl_IsShop.l6 k) k a0_0 a0_1 l0_2 a0_3
noncomputable def spec (k : Nat) : FnSpec := ⟨[.ag [.d (.int .i64) none, .d (.int .i64) none, .d (.sl (.pair (.int .i64) (.pair (.int .i64) (.pair (.int .i64) (.pair (.int .i64) (.int .i64)))))) none, .d (.int .i64) none]], [.d .bool none], fun x => f k x.1 x.2.1 x.2.2.1 x.2.2.2⟩
def S6 (x0_6 x1_6 : Int) (l2_6 : List (Int × Int × Int × Int × Int)) (x3_6 : Int) (l4_6 : List (Int × Int × Int × Int × Int)) (x5_6 x6_6 : Int) : St := ⟨[(1, .ptr 100 0), (28, .val (.sl (.pair (.int .i64) (.pair (.int .i64) (.pair (.int .i64) (.pair (.int .i64) (.int .i64)))))) l4_6), (29, .val (.int .i64) x5_6), (30, .val (.int .i64) x6_6)], [(100, some (.box [.val (.int .i64) x0_6, .val (.int .i64) x1_6, .val (.sl (.pair (.int .i64) (.pair (.int .i64) (.pair (.int .i64) (.pair (.int .i64) (.int .i64)))))) l2_6, .val (.int .i64) x3_6]))], 1000⟩
noncomputable def T : FnText := ⟨(conv [] (bodyOf Tryz.f63) 0).1, Tryz.f63.results.toList, 53, [(6, [(1, .bx 100 [.rd (.int .i64), .rd (.int .i64), .rd (.sl (.pair (.int .i64) (.pair (.int .i64) (.pair (.int .i64) (.pair (.int .i64) (.int .i64)))))), .rd (.int .i64)]), (28, .rd (.sl (.pair (.int .i64) (.pair (.int .i64) (.pair (.int .i64) (.pair (.int .i64) (.int .i64))))))), (29, .rd (.int .i64)), (30, .rd (.int .i64))])], [.ag [.d (.int .i64) none, .d (.int .i64) none, .d (.sl (.pair (.int .i64) (.pair (.int .i64) (.pair (.int .i64) (.pair (.int .i64) (.int .i64)))))) none, .d (.int .i64) none]], [.d .bool none]⟩
noncomputable def tbl (k : Nat) : Tbl := [(112, impl_isDay.spec k), (79, impl_in.spec k), (113, impl_Shop_isCarpet.spec k), (114, impl_Shop_onLoom.spec k)]
theorem e6 (k : Nat) (o : Nat → St → Option (Bool)) (x0_6 x1_6 : Int) (l2_6 : List (Int × Int × Int × Int × Int)) (x3_6 : Int) (l4_6 : List (Int × Int × Int × Int × Int)) (x5_6 x6_6 : Int) : T.step tyt (tbl k) o 6 (S6 x0_6 x1_6 l2_6 x3_6 l4_6 x5_6 x6_6) = b6 (fun x0_6 x1_6 l2_6 x3_6 l4_6 x5_6 x6_6 => o 6 (S6 x0_6 x1_6 l2_6 x3_6 l4_6 x5_6 x6_6)) k x0_6 x1_6 l2_6 x3_6 l4_6 x5_6 x6_6 := by kernel_rfl
theorem e (k : Nat) (o : Nat → St → Option (Bool)) (a0_0 a0_1 : Int) (l0_2 : List (Int × Int × Int × Int × Int)) (a0_3 : Int) : T.main tyt (tbl k) o (a0_0, a0_1, l0_2, a0_3) = m (fun x0_6 x1_6 l2_6 x3_6 l4_6 x5_6 x6_6 => o 6 (S6 x0_6 x1_6 l2_6 x3_6 l4_6 x5_6 x6_6)) k a0_0 a0_1 l0_2 a0_3 := by kernel_rfl
theorem ok : T.ok = true := by kernel_rfl
theorem run (k : Nat) : (∀ (x0_6 x1_6 : Int) (l2_6 : List (Int × Int × Int × Int × Int)) (x3_6 : Int) (l4_6 : List (Int × Int × Int × Int × Int)) (x5_6 x6_6 : Int), T.run tyt tbl k 6 (S6 x0_6 x1_6 l2_6 x3_6 l4_6 x5_6 x6_6) = impl_IsShop.l6 k x0_6 x1_6 l2_6 x3_6 l4_6 x5_6 x6_6) := by
  induction k with
  | zero => exact fun x0_6 x1_6 l2_6 x3_6 l4_6 x5_6 x6_6 => rfl
  | succ k ih =>
    exact fun x0_6 x1_6 l2_6 x3_6 l4_6 x5_6 x6_6 => by
      have q6 : (fun x0_6 x1_6 l2_6 x3_6 l4_6 x5_6 x6_6 => T.run tyt tbl k 6 (S6 x0_6 x1_6 l2_6 x3_6 l4_6 x5_6 x6_6)) = impl_IsShop.l6 k := by funext x0_6 x1_6 l2_6 x3_6 l4_6 x5_6 x6_6; exact ih x0_6 x1_6 l2_6 x3_6 l4_6 x5_6 x6_6
      exact (e6 k (T.run tyt tbl k) x0_6 x1_6 l2_6 x3_6 l4_6 x5_6 x6_6).trans (by rw [q6]; rfl)
theorem tblok (k : Nat) : TblOk Tryz.prog (tbl k) := TblOk.cons (impl_isDay.sound k) (TblOk.cons (impl_in.sound k) (TblOk.cons (impl_Shop_isCarpet.sound k) (TblOk.cons (impl_Shop_onLoom.sound k) (TblOk.nil _))))
theorem sound (k : Nat) : Sound Tryz.prog 63 (spec k) := by
  have h := fn_ok (F := T) (tbl := tbl) mixed tyok Tryz.func63 (by kernel_rfl) (c0 := bodyOf Tryz.f63) rfl (conv_code _ _ _) rfl rfl ok k (fun j _ => tblok j)
  have q6 : (fun x0_6 x1_6 l2_6 x3_6 l4_6 x5_6 x6_6 => T.run tyt tbl k 6 (S6 x0_6 x1_6 l2_6 x3_6 l4_6 x5_6 x6_6)) = impl_IsShop.l6 k := by funext x0_6 x1_6 l2_6 x3_6 l4_6 x5_6 x6_6; exact (run k) x0_6 x1_6 l2_6 x3_6 l4_6 x5_6 x6_6
  have e : spec k = ⟨T.ps, T.rs, T.ev tyt tbl k⟩ := congrArg (FnSpec.mk _ _) (funext fun x => ((e k (T.run tyt tbl k) x.1 x.2.1 x.2.2.1 x.2.2.2).trans (by rw [q6]; rfl)).symm)
  rw [e]
  exact h
end impl_IsShop

/-! ### strings_Cut: function 157, by its contract -/
def strings_Cut.f (k : Nat) (a0 : ByteArray) (a1 : ByteArray) : Option (ByteArray × ByteArray × Bool) := cutF a0 a1
noncomputable def strings_Cut.spec (k : Nat) : FnSpec := ⟨[.d .str none, .d .str none], [.d .str none, .d .str none, .d .bool none], fun x => strings_Cut.f k x.1 x.2⟩
theorem strings_Cut.sound (k : Nat) : Sound Go.Proofs.Tryz.prog 157 (strings_Cut.spec k) := strCut_ok

namespace impl_Checksum
/-! ### impl_Checksum: function 167 -/
def b7 (o7 : ByteArray → Int → Int → Int → Option (Int × Bool)) (k : Nat) (x0_7 : ByteArray) (x1_7 x2_7 x3_7 : Int) : Option (Int × Bool) := (if x3_7 < x2_7 then ((chk x0_7.size x3_7).bind fun i1 => ((rem (w64 ((w64 ((w64 (41 * x1_7)) + (w64 ((byteAt x0_7 i1))))) + 1)) 999979).bind fun q2 => (o7 x0_7 q2 x2_7 (w64 (x3_7 + 1))))) else (some (x1_7, true)))
def l7 : Nat → ByteArray → Int → Int → Int → Option (Int × Bool)
  | 0, _, _, _, _ => none
  | k + 1, x0_7, x1_7, x2_7, x3_7 => b7 (impl_Checksum.l7 k) k x0_7 x1_7 x2_7 x3_7
def m (o7 : ByteArray → Int → Int → Int → Option (Int × Bool)) (k : Nat) (a0 : ByteArray) : Option (Int × Bool) := (if 4000 < (a0.size : Int) then (some (0, false)) else (o7 a0 7 (a0.size : Int) 0))
def f (k : Nat) (a0 : ByteArray) : Option (Int × Bool) := m (impl_Checksum.l7 k) k a0
noncomputable def spec (k : Nat) : FnSpec := ⟨[.d .str none], [.d (.int .i64) none, .d .bool none], fun x => f k x⟩
def S7 (x0_7 : ByteArray) (x1_7 x2_7 x3_7 : Int) : St := ⟨[(0, .val .str x0_7), (4, .val (.int .i64) x1_7), (10, .val (.int .i64) x2_7), (11, .val (.int .i64) x3_7)], [], 1000⟩
noncomputable def T : FnText := ⟨(conv [] (bodyOf Tryz.f167) 0).1, Tryz.f167.results.toList, 25, [(7, [(0, .rd .str), (4, .rd (.int .i64)), (10, .rd (.int .i64)), (11, .rd (.int .i64))])], [.d .str none], [.d (.int .i64) none, .d .bool none]⟩
noncomputable def tbl (k : Nat) : Tbl := []
theorem e7 (k : Nat) (o : Nat → St → Option (Int × Bool)) (x0_7 : ByteArray) (x1_7 x2_7 x3_7 : Int) : T.step tyt (tbl k) o 7 (S7 x0_7 x1_7 x2_7 x3_7) = b7 (fun x0_7 x1_7 x2_7 x3_7 => o 7 (S7 x0_7 x1_7 x2_7 x3_7)) k x0_7 x1_7 x2_7 x3_7 := by kernel_rfl
theorem e (k : Nat) (o : Nat → St → Option (Int × Bool)) (a0 : ByteArray) : T.main tyt (tbl k) o a0 = m (fun x0_7 x1_7 x2_7 x3_7 => o 7 (S7 x0_7 x1_7 x2_7 x3_7)) k a0 := by kernel_rfl
theorem ok : T.ok = true := by kernel_rfl
theorem run (k : Nat) : (∀ (x0_7 : ByteArray) (x1_7 x2_7 x3_7 : Int), T.run tyt tbl k 7 (S7 x0_7 x1_7 x2_7 x3_7) = impl_Checksum.l7 k x0_7 x1_7 x2_7 x3_7) := by
  induction k with
  | zero => exact fun x0_7 x1_7 x2_7 x3_7 => rfl
  | succ k ih =>
    exact fun x0_7 x1_7 x2_7 x3_7 => by
      have q7 : (fun x0_7 x1_7 x2_7 x3_7 => T.run tyt tbl k 7 (S7 x0_7 x1_7 x2_7 x3_7)) = impl_Checksum.l7 k := by funext x0_7 x1_7 x2_7 x3_7; exact ih x0_7 x1_7 x2_7 x3_7
      exact (e7 k (T.run tyt tbl k) x0_7 x1_7 x2_7 x3_7).trans (by rw [q7]; rfl)
theorem tblok (k : Nat) : TblOk Tryz.prog (tbl k) := TblOk.nil _
theorem sound (k : Nat) : Sound Tryz.prog 167 (spec k) := by
  have h := fn_ok (F := T) (tbl := tbl) mixed tyok Tryz.func167 (by kernel_rfl) (c0 := bodyOf Tryz.f167) rfl (conv_code _ _ _) rfl rfl ok k (fun j _ => tblok j)
  have q7 : (fun x0_7 x1_7 x2_7 x3_7 => T.run tyt tbl k 7 (S7 x0_7 x1_7 x2_7 x3_7)) = impl_Checksum.l7 k := by funext x0_7 x1_7 x2_7 x3_7; exact (run k) x0_7 x1_7 x2_7 x3_7
  have e : spec k = ⟨T.ps, T.rs, T.ev tyt tbl k⟩ := congrArg (FnSpec.mk _ _) (funext fun x => ((e k (T.run tyt tbl k) x).trans (by rw [q7]; rfl)).symm)
  rw [e]
  exact h
end impl_Checksum

/-! ### strconv_Itoa: function 117, by its contract -/
def strconv_Itoa.f (k : Nat) (a0 : Int) : Option (ByteArray) := itoaF a0
noncomputable def strconv_Itoa.spec (k : Nat) : FnSpec := ⟨[.d (.int .i64) none], [.d .str none], fun x => strconv_Itoa.f k x⟩
theorem strconv_Itoa.sound (k : Nat) : Sound Go.Proofs.Tryz.prog 117 (strconv_Itoa.spec k) := strItoa_ok

namespace impl_decimal
/-! ### impl_decimal: function 71 -/
def m (k : Nat) (a0 : Int) : Option (ByteArray) := ((strconv_Itoa.f k a0).bind fun r1 => (some r1))
def f (k : Nat) (a0 : Int) : Option (ByteArray) := m k a0
noncomputable def spec (k : Nat) : FnSpec := ⟨[.d (.int .i64) none], [.d .str none], fun x => f k x⟩
noncomputable def T : FnText := ⟨(conv [] (bodyOf Tryz.f71) 0).1, Tryz.f71.results.toList, 5, [], [.d (.int .i64) none], [.d .str none]⟩
noncomputable def tbl (k : Nat) : Tbl := [(117, strconv_Itoa.spec k)]
theorem e (k : Nat) (o : Nat → St → Option (ByteArray)) (a0 : Int) : T.main tyt (tbl k) o a0 = m k a0 := by kernel_rfl
theorem ok : T.ok = true := by kernel_rfl
theorem tblok (k : Nat) : TblOk Tryz.prog (tbl k) := TblOk.cons (strconv_Itoa.sound k) (TblOk.nil _)
theorem sound (k : Nat) : Sound Tryz.prog 71 (spec k) := by
  have h := fn_ok (F := T) (tbl := tbl) mixed tyok Tryz.func71 (by kernel_rfl) (c0 := bodyOf Tryz.f71) rfl (conv_code _ _ _) rfl rfl ok k (fun j _ => tblok j)
  have e : spec k = ⟨T.ps, T.rs, T.ev tyt tbl k⟩ := congrArg (FnSpec.mk _ _) (funext fun x => ((e k (T.run tyt tbl k) x).trans (by rfl)).symm)
  rw [e]
  exact h
end impl_decimal

/-! ### strings_Contains: function 95, by its contract -/
def strings_Contains.f (k : Nat) (a0 : ByteArray) (a1 : ByteArray) : Option (Bool) := containsF a0 a1
noncomputable def strings_Contains.spec (k : Nat) : FnSpec := ⟨[.d .str none, .d .str none], [.d .bool none], fun x => strings_Contains.f k x.1 x.2⟩
theorem strings_Contains.sound (k : Nat) : Sound Go.Proofs.Tryz.prog 95 (strings_Contains.spec k) := strContains_ok

namespace impl_AppendChecksum
/-! ### impl_AppendChecksum: function 146 -/
def m (k : Nat) (a0 : ByteArray) : Option (ByteArray × Bool) := ((impl_Checksum.f k a0).bind fun r1 => ((catS a0 (⟨#[35]⟩ : ByteArray)).bind fun s2 => ((impl_decimal.f k r1.1).bind fun r3 => ((catS s2 r3).bind fun s4 => (cond (!r1.2) (some ((⟨#[]⟩ : ByteArray), false)) ((strings_Contains.f k a0 (⟨#[35]⟩ : ByteArray)).bind fun r5 => (cond r5 (some ((⟨#[]⟩ : ByteArray), false)) (if 4000 < (s4.size : Int) then (some ((⟨#[]⟩ : ByteArray), false)) else (some (s4, true))))))))))
def f (k : Nat) (a0 : ByteArray) : Option (ByteArray × Bool) := m k a0
noncomputable def spec (k : Nat) : FnSpec := ⟨[.d .str none], [.d .str none, .d .bool none], fun x => f k x⟩
noncomputable def T : FnText := ⟨(conv [] (bodyOf Tryz.f146) 0).1, Tryz.f146.results.toList, 29, [], [.d .str none], [.d .str none, .d .bool none]⟩
noncomputable def tbl (k : Nat) : Tbl := [(167, impl_Checksum.spec k), (71, impl_decimal.spec k), (95, strings_Contains.spec k)]
theorem e (k : Nat) (o : Nat → St → Option (ByteArray × Bool)) (a0 : ByteArray) : T.main tyt (tbl k) o a0 = m k a0 := by kernel_rfl
theorem ok : T.ok = true := by kernel_rfl
theorem tblok (k : Nat) : TblOk Tryz.prog (tbl k) := TblOk.cons (impl_Checksum.sound k) (TblOk.cons (impl_decimal.sound k) (TblOk.cons (strings_Contains.sound k) (TblOk.nil _)))
theorem sound (k : Nat) : Sound Tryz.prog 146 (spec k) := by
  have h := fn_ok (F := T) (tbl := tbl) mixed tyok Tryz.func146 (by kernel_rfl) (c0 := bodyOf Tryz.f146) rfl (conv_code _ _ _) rfl rfl ok k (fun j _ => tblok j)
  have e : spec k = ⟨T.ps, T.rs, T.ev tyt tbl k⟩ := congrArg (FnSpec.mk _ _) (funext fun x => ((e k (T.run tyt tbl k) x).trans (by rfl)).symm)
  rw [e]
  exact h
end impl_AppendChecksum

namespace impl_VerifyChecksum
/-! ### impl_VerifyChecksum: function 158 -/
def m (k : Nat) (a0 : ByteArray) : Option (ByteArray × Bool) := ((strings_Cut.f k a0 (⟨#[35]⟩ : ByteArray)).bind fun r1 => ((impl_AppendChecksum.f k r1.1).bind fun r2 => (cond (!r2.2) (some ((⟨#[]⟩ : ByteArray), false)) (if ¬ r2.1 = a0 then (some ((⟨#[]⟩ : ByteArray), false)) else (some (r1.1, true))))))
def f (k : Nat) (a0 : ByteArray) : Option (ByteArray × Bool) := m k a0
noncomputable def spec (k : Nat) : FnSpec := ⟨[.d .str none], [.d .str none, .d .bool none], fun x => f k x⟩
noncomputable def T : FnText := ⟨(conv [] (bodyOf Tryz.f158) 0).1, Tryz.f158.results.toList, 28, [], [.d .str none], [.d .str none, .d .bool none]⟩
noncomputable def tbl (k : Nat) : Tbl := [(157, strings_Cut.spec k), (146, impl_AppendChecksum.spec k)]
theorem e (k : Nat) (o : Nat → St → Option (ByteArray × Bool)) (a0 : ByteArray) : T.main tyt (tbl k) o a0 = m k a0 := by kernel_rfl
theorem ok : T.ok = true := by kernel_rfl
theorem tblok (k : Nat) : TblOk Tryz.prog (tbl k) := TblOk.cons (strings_Cut.sound k) (TblOk.cons (impl_AppendChecksum.sound k) (TblOk.nil _))
theorem sound (k : Nat) : Sound Tryz.prog 158 (spec k) := by
  have h := fn_ok (F := T) (tbl := tbl) mixed tyok Tryz.func158 (by kernel_rfl) (c0 := bodyOf Tryz.f158) rfl (conv_code _ _ _) rfl rfl ok k (fun j _ => tblok j)
  have e : spec k = ⟨T.ps, T.rs, T.ev tyt tbl k⟩ := congrArg (FnSpec.mk _ _) (funext fun x => ((e k (T.run tyt tbl k) x).trans (by rfl)).symm)
  rw [e]
  exact h
end impl_VerifyChecksum

namespace impl_isPlain_1
/-! ### impl_isPlain_1: function 135 -/
def m (k : Nat) (a0 : Int) : Option (Bool) := (if 32 ≤ a0 then (if a0 ≤ 126 then (some (decide (¬ a0 = 35))) else (some false)) else (some false))
def f (k : Nat) (a0 : Int) : Option (Bool) := m k a0
noncomputable def spec (k : Nat) : FnSpec := ⟨[.d (.int .u8) none], [.d .bool none], fun x => f k x⟩
noncomputable def T : FnText := ⟨(conv [] (bodyOf Tryz.f135) 0).1, Tryz.f135.results.toList, 13, [], [.d (.int .u8) none], [.d .bool none]⟩
noncomputable def tbl (k : Nat) : Tbl := []
theorem e (k : Nat) (o : Nat → St → Option (Bool)) (a0 : Int) : T.main tyt (tbl k) o a0 = m k a0 := by kernel_rfl
theorem ok : T.ok = true := by kernel_rfl
theorem tblok (k : Nat) : TblOk Tryz.prog (tbl k) := TblOk.nil _
theorem sound (k : Nat) : Sound Tryz.prog 135 (spec k) := by
  have h := fn_ok (F := T) (tbl := tbl) mixed tyok Tryz.func135 (by kernel_rfl) (c0 := bodyOf Tryz.f135) rfl (conv_code _ _ _) rfl rfl ok k (fun j _ => tblok j)
  have e : spec k = ⟨T.ps, T.rs, T.ev tyt tbl k⟩ := congrArg (FnSpec.mk _ _) (funext fun x => ((e k (T.run tyt tbl k) x).trans (by rfl)).symm)
  rw [e]
  exact h
end impl_isPlain_1

namespace impl_areAll_byte_1__impl_isPlain_1
/-! ### impl_areAll_byte_1__impl_isPlain_1: function 163 -/
def m (k : Nat) (a0 : Int) : Option (Bool) := ((impl_isPlain_1.f k a0).bind fun r1 => (some (!r1)))
def f (k : Nat) (a0 : Int) : Option (Bool) := m k a0
noncomputable def spec (k : Nat) : FnSpec := ⟨[.d (.int .u8) none, .rb [.fv 135 [] []]], [.d .bool none], fun x => f k x⟩
noncomputable def T : FnText := ⟨(conv [] (bodyOf Tryz.f163) 0).1, Tryz.f163.results.toList, 8, [], [.d (.int .u8) none, .rb [.fv 135 [] []]], [.d .bool none]⟩
noncomputable def tbl (k : Nat) : Tbl := [(135, impl_isPlain_1.spec k)]
theorem e (k : Nat) (o : Nat → St → Option (Bool)) (a0 : Int) : T.main tyt (tbl k) o a0 = m k a0 := by kernel_rfl
theorem ok : T.ok = true := by kernel_rfl
theorem tblok (k : Nat) : TblOk Tryz.prog (tbl k) := TblOk.cons (impl_isPlain_1.sound k) (TblOk.nil _)
theorem sound (k : Nat) : Sound Tryz.prog 163 (spec k) := by
  have h := fn_ok (F := T) (tbl := tbl) mixed tyok Tryz.func163 (by kernel_rfl) (c0 := bodyOf Tryz.f163) rfl (conv_code _ _ _) rfl rfl ok k (fun j _ => tblok j)
  have e : spec k = ⟨T.ps, T.rs, T.ev tyt tbl k⟩ := congrArg (FnSpec.mk _ _) (funext fun x => ((e k (T.run tyt tbl k) x).trans (by rfl)).symm)
  rw [e]
  exact h
end impl_areAll_byte_1__impl_isPlain_1

namespace slices_IndexFunc_byte_byte__impl_areAll_byte_1__impl_isPlain_1
/-! ### slices_IndexFunc_byte_byte__impl_areAll_byte_1__impl_isPlain_1: function 177 -/
def b3 (o3 : List Int → Int → Int → Option (Int)) (k : Nat) (l0_3 : List Int) (x1_3 x2_3 : Int) : Option (Int) := (if x2_3 < x1_3 then ((chk l0_3.length x2_3).bind fun i1 => ((impl_areAll_byte_1__impl_isPlain_1.f k (l0_3.getD i1 0)).bind fun r2 => (cond r2 (some x2_3) (o3 l0_3 x1_3 (w64 (x2_3 + 1)))))) else (some (-1)))
def l3 : Nat → List Int → Int → Int → Option (Int)
  | 0, _, _, _ => none
  | k + 1, l0_3, x1_3, x2_3 => b3 (slices_IndexFunc_byte_byte__impl_areAll_byte_1__impl_isPlain_1.l3 k) k l0_3 x1_3 x2_3
def m (o3 : List Int → Int → Int → Option (Int)) (k : Nat) (l0 : List Int) : Option (Int) := (o3 l0 (l0.length : Int) 0)
def f (k : Nat) (l0 : List Int) : Option (Int) := m (slices_IndexFunc_byte_byte__impl_areAll_byte_1__impl_isPlain_1.l3 k) k l0
noncomputable def spec (k : Nat) : FnSpec := ⟨[.d (.sl (.int .u8)) none, .fv 163 [] [.rb [.fv 135 [] []]]], [.d (.int .i64) none], fun x => f k x⟩
def S3 (l0_3 : List Int) (x1_3 x2_3 : Int) : St := ⟨[(0, .val (.sl (.int .u8)) l0_3), (1, .fn 163 [] [.cptr [.fn 135 [] []] 0]), (7, .val (.int .i64) x1_3), (8, .val (.int .i64) x2_3)], [], 1000⟩
noncomputable def T : FnText := ⟨(conv [] (bodyOf Tryz.f177) 0).1, Tryz.f177.results.toList, 19, [(3, [(0, .rd (.sl (.int .u8))), (1, .as), (7, .rd (.int .i64)), (8, .rd (.int .i64))])], [.d (.sl (.int .u8)) none, .fv 163 [] [.rb [.fv 135 [] []]]], [.d (.int .i64) none]⟩
noncomputable def tbl (k : Nat) : Tbl := [(163, impl_areAll_byte_1__impl_isPlain_1.spec k)]
theorem e3 (k : Nat) (o : Nat → St → Option (Int)) (l0_3 : List Int) (x1_3 x2_3 : Int) : T.step tyt (tbl k) o 3 (S3 l0_3 x1_3 x2_3) = b3 (fun l0_3 x1_3 x2_3 => o 3 (S3 l0_3 x1_3 x2_3)) k l0_3 x1_3 x2_3 := by kernel_rfl
theorem e (k : Nat) (o : Nat → St → Option (Int)) (l0 : List Int) : T.main tyt (tbl k) o l0 = m (fun l0_3 x1_3 x2_3 => o 3 (S3 l0_3 x1_3 x2_3)) k l0 := by kernel_rfl
theorem ok : T.ok = true := by kernel_rfl
theorem run (k : Nat) : (∀ (l0_3 : List Int) (x1_3 x2_3 : Int), T.run tyt tbl k 3 (S3 l0_3 x1_3 x2_3) = slices_IndexFunc_byte_byte__impl_areAll_byte_1__impl_isPlain_1.l3 k l0_3 x1_3 x2_3) := by
  induction k with
  | zero => exact fun l0_3 x1_3 x2_3 => rfl
  | succ k ih =>
    exact fun l0_3 x1_3 x2_3 => by
      have q3 : (fun l0_3 x1_3 x2_3 => T.run tyt tbl k 3 (S3 l0_3 x1_3 x2_3)) = slices_IndexFunc_byte_byte__impl_areAll_byte_1__impl_isPlain_1.l3 k := by funext l0_3 x1_3 x2_3; exact ih l0_3 x1_3 x2_3
      exact (e3 k (T.run tyt tbl k) l0_3 x1_3 x2_3).trans (by rw [q3]; rfl)
theorem tblok (k : Nat) : TblOk Tryz.prog (tbl k) := TblOk.cons (impl_areAll_byte_1__impl_isPlain_1.sound k) (TblOk.nil _)
theorem sound (k : Nat) : Sound Tryz.prog 177 (spec k) := by
  have h := fn_ok (F := T) (tbl := tbl) mixed tyok Tryz.func177 (by kernel_rfl) (c0 := bodyOf Tryz.f177) rfl (conv_code _ _ _) rfl rfl ok k (fun j _ => tblok j)
  have q3 : (fun l0_3 x1_3 x2_3 => T.run tyt tbl k 3 (S3 l0_3 x1_3 x2_3)) = slices_IndexFunc_byte_byte__impl_areAll_byte_1__impl_isPlain_1.l3 k := by funext l0_3 x1_3 x2_3; exact (run k) l0_3 x1_3 x2_3
  have e : spec k = ⟨T.ps, T.rs, T.ev tyt tbl k⟩ := congrArg (FnSpec.mk _ _) (funext fun x => ((e k (T.run tyt tbl k) x).trans (by rw [q3]; rfl)).symm)
  rw [e]
  exact h
end slices_IndexFunc_byte_byte__impl_areAll_byte_1__impl_isPlain_1

namespace slices_ContainsFunc_byte_byte__impl_areAll_byte_1__impl_isPlain_1
/-! ### slices_ContainsFunc_byte_byte__impl_areAll_byte_1__impl_isPlain_1: function 162 -/
def m (k : Nat) (l0 : List Int) : Option (Bool) := ((slices_IndexFunc_byte_byte__impl_areAll_byte_1__impl_isPlain_1.f k l0).bind fun r1 => (some (decide (0 ≤ r1))))
def f (k : Nat) (l0 : List Int) : Option (Bool) := m k l0
noncomputable def spec (k : Nat) : FnSpec := ⟨[.d (.sl (.int .u8)) none, .fv 163 [] [.rb [.fv 135 [] []]]], [.d .bool none], fun x => f k x⟩
noncomputable def T : FnText := ⟨(conv [] (bodyOf Tryz.f162) 0).1, Tryz.f162.results.toList, 9, [], [.d (.sl (.int .u8)) none, .fv 163 [] [.rb [.fv 135 [] []]]], [.d .bool none]⟩
noncomputable def tbl (k : Nat) : Tbl := [(177, slices_IndexFunc_byte_byte__impl_areAll_byte_1__impl_isPlain_1.spec k)]
theorem e (k : Nat) (o : Nat → St → Option (Bool)) (l0 : List Int) : T.main tyt (tbl k) o l0 = m k l0 := by kernel_rfl
theorem ok : T.ok = true := by kernel_rfl
theorem tblok (k : Nat) : TblOk Tryz.prog (tbl k) := TblOk.cons (slices_IndexFunc_byte_byte__impl_areAll_byte_1__impl_isPlain_1.sound k) (TblOk.nil _)
theorem sound (k : Nat) : Sound Tryz.prog 162 (spec k) := by
  have h := fn_ok (F := T) (tbl := tbl) mixed tyok Tryz.func162 (by kernel_rfl) (c0 := bodyOf Tryz.f162) rfl (conv_code _ _ _) rfl rfl ok k (fun j _ => tblok j)
  have e : spec k = ⟨T.ps, T.rs, T.ev tyt tbl k⟩ := congrArg (FnSpec.mk _ _) (funext fun x => ((e k (T.run tyt tbl k) x).trans (by rfl)).symm)
  rw [e]
  exact h
end slices_ContainsFunc_byte_byte__impl_areAll_byte_1__impl_isPlain_1

namespace impl_areAll_byte__impl_isPlain_1
/-! ### impl_areAll_byte__impl_isPlain_1: function 134 -/
def m (k : Nat) (l0 : List Int) : Option (Bool) := ((slices_ContainsFunc_byte_byte__impl_areAll_byte_1__impl_isPlain_1.f k l0).bind fun r1 => (some (!r1)))
def f (k : Nat) (l0 : List Int) : Option (Bool) := m k l0
noncomputable def spec (k : Nat) : FnSpec := ⟨[.d (.sl (.int .u8)) none, .fv 135 [] []], [.d .bool none], fun x => f k x⟩
noncomputable def T : FnText := ⟨(conv [] (bodyOf Tryz.f134) 0).1, Tryz.f134.results.toList, 9, [], [.d (.sl (.int .u8)) none, .fv 135 [] []], [.d .bool none]⟩
noncomputable def tbl (k : Nat) : Tbl := [(162, slices_ContainsFunc_byte_byte__impl_areAll_byte_1__impl_isPlain_1.spec k)]
theorem e (k : Nat) (o : Nat → St → Option (Bool)) (l0 : List Int) : T.main tyt (tbl k) o l0 = m k l0 := by kernel_rfl
theorem ok : T.ok = true := by kernel_rfl
theorem tblok (k : Nat) : TblOk Tryz.prog (tbl k) := TblOk.cons (slices_ContainsFunc_byte_byte__impl_areAll_byte_1__impl_isPlain_1.sound k) (TblOk.nil _)
theorem sound (k : Nat) : Sound Tryz.prog 134 (spec k) := by
  have h := fn_ok (F := T) (tbl := tbl) mixed tyok Tryz.func134 (by kernel_rfl) (c0 := bodyOf Tryz.f134) rfl (conv_code _ _ _) rfl rfl ok k (fun j _ => tblok j)
  have e : spec k = ⟨T.ps, T.rs, T.ev tyt tbl k⟩ := congrArg (FnSpec.mk _ _) (funext fun x => ((e k (T.run tyt tbl k) x).trans (by rfl)).symm)
  rw [e]
  exact h
end impl_areAll_byte__impl_isPlain_1

namespace impl_isPlain
/-! ### impl_isPlain: function 94 -/
def m (k : Nat) (a0 : ByteArray) : Option (Bool) := ((impl_areAll_byte__impl_isPlain_1.f k (bytesOf a0)).bind fun r1 => (some r1))
def f (k : Nat) (a0 : ByteArray) : Option (Bool) := m k a0
noncomputable def spec (k : Nat) : FnSpec := ⟨[.d .str none], [.d .bool none], fun x => f k x⟩
noncomputable def T : FnText := ⟨(conv [] (bodyOf Tryz.f94) 0).1, Tryz.f94.results.toList, 6, [], [.d .str none], [.d .bool none]⟩
noncomputable def tbl (k : Nat) : Tbl := [(134, impl_areAll_byte__impl_isPlain_1.spec k)]
theorem e (k : Nat) (o : Nat → St → Option (Bool)) (a0 : ByteArray) : T.main tyt (tbl k) o a0 = m k a0 := by kernel_rfl
theorem ok : T.ok = true := by kernel_rfl
theorem tblok (k : Nat) : TblOk Tryz.prog (tbl k) := TblOk.cons (impl_areAll_byte__impl_isPlain_1.sound k) (TblOk.nil _)
theorem sound (k : Nat) : Sound Tryz.prog 94 (spec k) := by
  have h := fn_ok (F := T) (tbl := tbl) mixed tyok Tryz.func94 (by kernel_rfl) (c0 := bodyOf Tryz.f94) rfl (conv_code _ _ _) rfl rfl ok k (fun j _ => tblok j)
  have e : spec k = ⟨T.ps, T.rs, T.ev tyt tbl k⟩ := congrArg (FnSpec.mk _ _) (funext fun x => ((e k (T.run tyt tbl k) x).trans (by rfl)).symm)
  rw [e]
  exact h
end impl_isPlain

namespace impl_IsValidRecord
/-! ### impl_IsValidRecord: function 50 -/
def b1 (k : Nat) (x0_1 x1_1 : ByteArray) (x2_1 : Bool) : Option (Bool) := (cond x2_1 (if (x1_1.size : Int) ≤ 200 then ((impl_isPlain.f k x1_1).bind fun r4 => (some r4)) else (some false)) (some false))
def l1 : Nat → ByteArray → ByteArray → Bool → Option (Bool)
  | 0, _, _, _ => none
  | k + 1, x0_1, x1_1, x2_1 => b1 k x0_1 x1_1 x2_1
def m (o1 : ByteArray → ByteArray → Bool → Option (Bool)) (k : Nat) (a0_0 a0_1 : ByteArray) : Option (Bool) := ((impl_in.f k (a0_0.size : Int) 1 160).bind fun r1 => (cond r1 ((impl_isPlain.f k a0_0).bind fun r2 => (cond r2 ((strings_Contains.f k a0_0 (⟨#[64]⟩ : ByteArray)).bind fun r3 => (o1 a0_0 a0_1 (!r3))) (o1 a0_0 a0_1 false))) (o1 a0_0 a0_1 false)))
def f (k : Nat) (a0_0 a0_1 : ByteArray) : Option (Bool) := m (impl_IsValidRecord.l1 k) k a0_0 a0_1
noncomputable def spec (k : Nat) : FnSpec := ⟨[.ag [.d .str none, .d .str none]], [.d .bool none], fun x => f k x.1 x.2⟩
def S1 (x0_1 x1_1 : ByteArray) (x2_1 : Bool) : St := ⟨[(1, .ptr 100 0), (3, .val .bool x2_1)], [(100, some (.box [.val .str x0_1, .val .str x1_1]))], 1000⟩
noncomputable def T : FnText := ⟨(conv [1] (bodyOf Tryz.f50) 0).1, Tryz.f50.results.toList, 31, [(1, [(1, .bx 100 [.rd .str, .rd .str]), (3, .rd .bool)])], [.ag [.d .str none, .d .str none]], [.d .bool none]⟩
noncomputable def tbl (k : Nat) : Tbl := [(79, impl_in.spec k), (94, impl_isPlain.spec k), (95, strings_Contains.spec k)]
theorem e1 (k : Nat) (o : Nat → St → Option (Bool)) (x0_1 x1_1 : ByteArray) (x2_1 : Bool) : T.step tyt (tbl k) o 1 (S1 x0_1 x1_1 x2_1) = b1 k x0_1 x1_1 x2_1 := by kernel_rfl
theorem e (k : Nat) (o : Nat → St → Option (Bool)) (a0_0 a0_1 : ByteArray) : T.main tyt (tbl k) o (a0_0, a0_1) = m (fun x0_1 x1_1 x2_1 => o 1 (S1 x0_1 x1_1 x2_1)) k a0_0 a0_1 := by kernel_rfl
theorem ok : T.ok = true := by kernel_rfl
theorem run (k : Nat) : (∀ (x0_1 x1_1 : ByteArray) (x2_1 : Bool), T.run tyt tbl k 1 (S1 x0_1 x1_1 x2_1) = impl_IsValidRecord.l1 k x0_1 x1_1 x2_1) := by
  induction k with
  | zero => exact fun x0_1 x1_1 x2_1 => rfl
  | succ k ih =>
    exact fun x0_1 x1_1 x2_1 => by
      exact (e1 k (T.run tyt tbl k) x0_1 x1_1 x2_1).trans (by rfl)
theorem tblok (k : Nat) : TblOk Tryz.prog (tbl k) := TblOk.cons (impl_in.sound k) (TblOk.cons (impl_isPlain.sound k) (TblOk.cons (strings_Contains.sound k) (TblOk.nil _)))
theorem sound (k : Nat) : Sound Tryz.prog 50 (spec k) := by
  have h := fn_ok (F := T) (tbl := tbl) mixed tyok Tryz.func50 (by kernel_rfl) (c0 := bodyOf Tryz.f50) rfl (conv_code _ _ _) rfl rfl ok k (fun j _ => tblok j)
  have q1 : (fun x0_1 x1_1 x2_1 => T.run tyt tbl k 1 (S1 x0_1 x1_1 x2_1)) = impl_IsValidRecord.l1 k := by funext x0_1 x1_1 x2_1; exact (run k) x0_1 x1_1 x2_1
  have e : spec k = ⟨T.ps, T.rs, T.ev tyt tbl k⟩ := congrArg (FnSpec.mk _ _) (funext fun x => ((e k (T.run tyt tbl k) x.1 x.2).trans (by rw [q1]; rfl)).symm)
  rw [e]
  exact h
end impl_IsValidRecord

namespace impl_EncodeRecord
/-! ### impl_EncodeRecord: function 101 -/
def m (k : Nat) (a0 : Int) (a1_0 a1_1 : ByteArray) : Option (ByteArray × Bool) := ((impl_in.f k a0 0 59).bind fun r1 => (cond (!r1) (some ((⟨#[]⟩ : ByteArray), false)) ((impl_IsValidRecord.f k a1_0 a1_1).bind fun r2 => (cond (!r2) (some ((⟨#[]⟩ : ByteArray), false)) ((impl_decimal.f k a0).bind fun r3 => ((catS r3 (⟨#[32]⟩ : ByteArray)).bind fun s4 => ((catS s4 a1_0).bind fun s5 => ((catS s5 (⟨#[64]⟩ : ByteArray)).bind fun s6 => ((catS s6 a1_1).bind fun s7 => ((impl_AppendChecksum.f k s7).bind fun r8 => ((catS r8.1 (⟨#[10]⟩ : ByteArray)).bind fun s9 => (some (s9, true)))))))))))))
def f (k : Nat) (a0 : Int) (a1_0 a1_1 : ByteArray) : Option (ByteArray × Bool) := m k a0 a1_0 a1_1
noncomputable def spec (k : Nat) : FnSpec := ⟨[.d (.int .i64) none, .ag [.d .str none, .d .str none]], [.d .str none, .d .bool none], fun x => f k x.1 x.2.1 x.2.2⟩
noncomputable def T : FnText := ⟨(conv [] (bodyOf Tryz.f101) 0).1, Tryz.f101.results.toList, 32, [], [.d (.int .i64) none, .ag [.d .str none, .d .str none]], [.d .str none, .d .bool none]⟩
noncomputable def tbl (k : Nat) : Tbl := [(79, impl_in.spec k), (50, impl_IsValidRecord.spec k), (71, impl_decimal.spec k), (146, impl_AppendChecksum.spec k)]
theorem e (k : Nat) (o : Nat → St → Option (ByteArray × Bool)) (a0 : Int) (a1_0 a1_1 : ByteArray) : T.main tyt (tbl k) o (a0, a1_0, a1_1) = m k a0 a1_0 a1_1 := by kernel_rfl
theorem ok : T.ok = true := by kernel_rfl
theorem tblok (k : Nat) : TblOk Tryz.prog (tbl k) := TblOk.cons (impl_in.sound k) (TblOk.cons (impl_IsValidRecord.sound k) (TblOk.cons (impl_decimal.sound k) (TblOk.cons (impl_AppendChecksum.sound k) (TblOk.nil _))))
theorem sound (k : Nat) : Sound Tryz.prog 101 (spec k) := by
  have h := fn_ok (F := T) (tbl := tbl) mixed tyok Tryz.func101 (by kernel_rfl) (c0 := bodyOf Tryz.f101) rfl (conv_code _ _ _) rfl rfl ok k (fun j _ => tblok j)
  have e : spec k = ⟨T.ps, T.rs, T.ev tyt tbl k⟩ := congrArg (FnSpec.mk _ _) (funext fun x => ((e k (T.run tyt tbl k) x.1 x.2.1 x.2.2).trans (by rfl)).symm)
  rw [e]
  exact h
end impl_EncodeRecord

namespace internal_stringslite_HasPrefix
/-! ### internal_stringslite_HasPrefix: function 176 -/
def m (k : Nat) (a0 a1 : ByteArray) : Option (Bool) := (if (a1.size : Int) ≤ (a0.size : Int) then ((cutTo a0.size (a1.size : Int)).bind fun m2 => (some (decide ((a0.extract 0 m2) = a1)))) else (some false))
def f (k : Nat) (a0 a1 : ByteArray) : Option (Bool) := m k a0 a1
noncomputable def spec (k : Nat) : FnSpec := ⟨[.d .str none, .d .str none], [.d .bool none], fun x => f k x.1 x.2⟩
noncomputable def T : FnText := ⟨(conv [] (bodyOf Tryz.f176) 0).1, Tryz.f176.results.toList, 18, [], [.d .str none, .d .str none], [.d .bool none]⟩
noncomputable def tbl (k : Nat) : Tbl := []
theorem e (k : Nat) (o : Nat → St → Option (Bool)) (a0 a1 : ByteArray) : T.main tyt (tbl k) o (a0, a1) = m k a0 a1 := by kernel_rfl
theorem ok : T.ok = true := by kernel_rfl
theorem tblok (k : Nat) : TblOk Tryz.prog (tbl k) := TblOk.nil _
theorem sound (k : Nat) : Sound Tryz.prog 176 (spec k) := by
  have h := fn_ok (F := T) (tbl := tbl) mixed tyok Tryz.func176 (by kernel_rfl) (c0 := bodyOf Tryz.f176) rfl (conv_code _ _ _) rfl rfl ok k (fun j _ => tblok j)
  have e : spec k = ⟨T.ps, T.rs, T.ev tyt tbl k⟩ := congrArg (FnSpec.mk _ _) (funext fun x => ((e k (T.run tyt tbl k) x.1 x.2).trans (by rfl)).symm)
  rw [e]
  exact h
end internal_stringslite_HasPrefix

namespace strings_HasPrefix
/-! ### strings_HasPrefix: function 159 -/
def m (k : Nat) (a0 a1 : ByteArray) : Option (Bool) := ((internal_stringslite_HasPrefix.f k a0 a1).bind fun r1 => (some r1))
def f (k : Nat) (a0 a1 : ByteArray) : Option (Bool) := m k a0 a1
noncomputable def spec (k : Nat) : FnSpec := ⟨[.d .str none, .d .str none], [.d .bool none], fun x => f k x.1 x.2⟩
noncomputable def T : FnText := ⟨(conv [] (bodyOf Tryz.f159) 0).1, Tryz.f159.results.toList, 8, [], [.d .str none, .d .str none], [.d .bool none]⟩
noncomputable def tbl (k : Nat) : Tbl := [(176, internal_stringslite_HasPrefix.spec k)]
theorem e (k : Nat) (o : Nat → St → Option (Bool)) (a0 a1 : ByteArray) : T.main tyt (tbl k) o (a0, a1) = m k a0 a1 := by kernel_rfl
theorem ok : T.ok = true := by kernel_rfl
theorem tblok (k : Nat) : TblOk Tryz.prog (tbl k) := TblOk.cons (internal_stringslite_HasPrefix.sound k) (TblOk.nil _)
theorem sound (k : Nat) : Sound Tryz.prog 159 (spec k) := by
  have h := fn_ok (F := T) (tbl := tbl) mixed tyok Tryz.func159 (by kernel_rfl) (c0 := bodyOf Tryz.f159) rfl (conv_code _ _ _) rfl rfl ok k (fun j _ => tblok j)
  have e : spec k = ⟨T.ps, T.rs, T.ev tyt tbl k⟩ := congrArg (FnSpec.mk _ _) (funext fun x => ((e k (T.run tyt tbl k) x.1 x.2).trans (by rfl)).symm)
  rw [e]
  exact h
end strings_HasPrefix

namespace impl_cutRecord
/-! ### impl_cutRecord: function 119 -/
def m (k : Nat) (a0 : ByteArray) (a1 : Int) : Option (ByteArray × ByteArray × Int) := ((strings_Cut.f k a0 (⟨#[10]⟩ : ByteArray)).bind fun r1 => ((impl_VerifyChecksum.f k r1.1).bind fun r2 => ((strings_Cut.f k r2.1 (⟨#[32]⟩ : ByteArray)).bind fun r3 => ((strings_Cut.f k r3.2.1 (⟨#[64]⟩ : ByteArray)).bind fun r4 => ((impl_EncodeRecord.f k a1 r4.1 r4.2.1).bind fun r5 => (cond (!r5.2) (some (ByteArray.empty, ByteArray.empty, 0)) ((strings_HasPrefix.f k a0 r5.1).bind fun r6 => (cond (!r6) (some (ByteArray.empty, ByteArray.empty, 0)) (some (r4.1, r4.2.1, (r5.1.size : Int)))))))))))
def f (k : Nat) (a0 : ByteArray) (a1 : Int) : Option (ByteArray × ByteArray × Int) := m k a0 a1
noncomputable def spec (k : Nat) : FnSpec := ⟨[.d .str none, .d (.int .i64) none], [.ag [.d .str none, .d .str none], .d (.int .i64) none], fun x => f k x.1 x.2⟩
noncomputable def T : FnText := ⟨(conv [] (bodyOf Tryz.f119) 0).1, Tryz.f119.results.toList, 64, [], [.d .str none, .d (.int .i64) none], [.ag [.d .str none, .d .str none], .d (.int .i64) none]⟩
noncomputable def tbl (k : Nat) : Tbl := [(157, strings_Cut.spec k), (158, impl_VerifyChecksum.spec k), (101, impl_EncodeRecord.spec k), (159, strings_HasPrefix.spec k)]
theorem e (k : Nat) (o : Nat → St → Option (ByteArray × ByteArray × Int)) (a0 : ByteArray) (a1 : Int) : T.main tyt (tbl k) o (a0, a1) = m k a0 a1 := by kernel_rfl
theorem ok : T.ok = true := by kernel_rfl
theorem tblok (k : Nat) : TblOk Tryz.prog (tbl k) := TblOk.cons (strings_Cut.sound k) (TblOk.cons (impl_VerifyChecksum.sound k) (TblOk.cons (impl_EncodeRecord.sound k) (TblOk.cons (strings_HasPrefix.sound k) (TblOk.nil _))))
theorem sound (k : Nat) : Sound Tryz.prog 119 (spec k) := by
  have h := fn_ok (F := T) (tbl := tbl) mixed tyok Tryz.func119 (by kernel_rfl) (c0 := bodyOf Tryz.f119) rfl (conv_code _ _ _) rfl rfl ok k (fun j _ => tblok j)
  have e : spec k = ⟨T.ps, T.rs, T.ev tyt tbl k⟩ := congrArg (FnSpec.mk _ _) (funext fun x => ((e k (T.run tyt tbl k) x.1 x.2).trans (by rfl)).symm)
  rw [e]
  exact h
end impl_cutRecord

namespace impl_readLog
/-! ### impl_readLog: function 80 -/
def b3 (o3 : ByteArray → (List (ByteArray × ByteArray)) → List Int → Int → Option (List (ByteArray × ByteArray) × List Int)) (k : Nat) (x0_3 : ByteArray) (l1_3 : List (ByteArray × ByteArray)) (l2_3 : List Int) (x3_3 : Int) : Option (List (ByteArray × ByteArray) × List Int) := (if (l1_3.length : Int) < 60 then ((cut x0_3.size x3_3 (x0_3.size : Int)).bind fun c1 => ((impl_cutRecord.f k (x0_3.extract c1.1 (c1.1 + c1.2)) (l1_3.length : Int)).bind fun r2 => (if r2.2.2 = 0 then (some (l1_3, l2_3)) else ((app 4398046511104 l1_3 [(r2.1, r2.2.1)]).bind fun l3 => ((app 17592186044416 l2_3 [(w64 (x3_3 + r2.2.2))]).bind fun l4 => (o3 x0_3 l3 l4 (w64 (x3_3 + r2.2.2)))))))) else (some (l1_3, l2_3)))
def l3 : Nat → ByteArray → (List (ByteArray × ByteArray)) → List Int → Int → Option (List (ByteArray × ByteArray) × List Int)
  | 0, _, _, _, _ => none
  | k + 1, x0_3, l1_3, l2_3, x3_3 => b3 (impl_readLog.l3 k) k x0_3 l1_3 l2_3 x3_3
def m (o3 : ByteArray → (List (ByteArray × ByteArray)) → List Int → Int → Option (List (ByteArray × ByteArray) × List Int)) (k : Nat) (a0 : ByteArray) : Option (List (ByteArray × ByteArray) × List Int) := (o3 a0 [] [] 0)
def f (k : Nat) (a0 : ByteArray) : Option (List (ByteArray × ByteArray) × List Int) := m (impl_readLog.l3 k) k a0
noncomputable def spec (k : Nat) : FnSpec := ⟨[.d .str none], [.d (.sl (.pair .str .str)) (some 55), .d (.sl (.int .i64)) (some 3)], fun x => f k x⟩
def S3 (x0_3 : ByteArray) (l1_3 : List (ByteArray × ByteArray)) (l2_3 : List Int) (x3_3 : Int) : St := ⟨[(0, .val .str x0_3), (2, .ref 100), (3, .ref 101), (4, .val (.int .i64) x3_3)], [(101, some (.row 3 (.int .i64) l2_3)), (100, some (.row 55 (.pair .str .str) l1_3))], 1000⟩
noncomputable def T : FnText := ⟨(conv [] (bodyOf Tryz.f80) 0).1, Tryz.f80.results.toList, 34, [(3, [(0, .rd .str), (2, .own 55 (.pair .str .str) 100), (3, .own 3 (.int .i64) 101), (4, .rd (.int .i64))])], [.d .str none], [.d (.sl (.pair .str .str)) (some 55), .d (.sl (.int .i64)) (some 3)]⟩
noncomputable def tbl (k : Nat) : Tbl := [(119, impl_cutRecord.spec k)]
theorem e3 (k : Nat) (o : Nat → St → Option (List (ByteArray × ByteArray) × List Int)) (x0_3 : ByteArray) (l1_3 : List (ByteArray × ByteArray)) (l2_3 : List Int) (x3_3 : Int) : T.step tyt (tbl k) o 3 (S3 x0_3 l1_3 l2_3 x3_3) = b3 (fun x0_3 l1_3 l2_3 x3_3 => o 3 (S3 x0_3 l1_3 l2_3 x3_3)) k x0_3 l1_3 l2_3 x3_3 := by kernel_rfl
theorem e (k : Nat) (o : Nat → St → Option (List (ByteArray × ByteArray) × List Int)) (a0 : ByteArray) : T.main tyt (tbl k) o a0 = m (fun x0_3 l1_3 l2_3 x3_3 => o 3 (S3 x0_3 l1_3 l2_3 x3_3)) k a0 := by kernel_rfl
theorem ok : T.ok = true := by kernel_rfl
theorem run (k : Nat) : (∀ (x0_3 : ByteArray) (l1_3 : List (ByteArray × ByteArray)) (l2_3 : List Int) (x3_3 : Int), T.run tyt tbl k 3 (S3 x0_3 l1_3 l2_3 x3_3) = impl_readLog.l3 k x0_3 l1_3 l2_3 x3_3) := by
  induction k with
  | zero => exact fun x0_3 l1_3 l2_3 x3_3 => rfl
  | succ k ih =>
    exact fun x0_3 l1_3 l2_3 x3_3 => by
      have q3 : (fun x0_3 l1_3 l2_3 x3_3 => T.run tyt tbl k 3 (S3 x0_3 l1_3 l2_3 x3_3)) = impl_readLog.l3 k := by funext x0_3 l1_3 l2_3 x3_3; exact ih x0_3 l1_3 l2_3 x3_3
      exact (e3 k (T.run tyt tbl k) x0_3 l1_3 l2_3 x3_3).trans (by rw [q3]; rfl)
theorem tblok (k : Nat) : TblOk Tryz.prog (tbl k) := TblOk.cons (impl_cutRecord.sound k) (TblOk.nil _)
theorem sound (k : Nat) : Sound Tryz.prog 80 (spec k) := by
  have h := fn_ok (F := T) (tbl := tbl) mixed tyok Tryz.func80 (by kernel_rfl) (c0 := bodyOf Tryz.f80) rfl (conv_code _ _ _) rfl rfl ok k (fun j _ => tblok j)
  have q3 : (fun x0_3 l1_3 l2_3 x3_3 => T.run tyt tbl k 3 (S3 x0_3 l1_3 l2_3 x3_3)) = impl_readLog.l3 k := by funext x0_3 l1_3 l2_3 x3_3; exact (run k) x0_3 l1_3 l2_3 x3_3
  have e : spec k = ⟨T.ps, T.rs, T.ev tyt tbl k⟩ := congrArg (FnSpec.mk _ _) (funext fun x => ((e k (T.run tyt tbl k) x).trans (by rw [q3]; rfl)).symm)
  rw [e]
  exact h
end impl_readLog

namespace impl_Log_records
/-! ### impl_Log_records: function 65 -/
def b8 (o8 : ByteArray → ByteArray → Int → (List (ByteArray × ByteArray)) → Int → Bool → List Int → Int → Int → Option (List (ByteArray × ByteArray) × Bool)) (k : Nat) (x0_8 x1_8 : ByteArray) (x2_8 : Int) (l3_8 : List (ByteArray × ByteArray)) (x4_8 : Int) (x5_8 : Bool) (l6_8 : List Int) (x7_8 x8_8 : Int) : Option (List (ByteArray × ByteArray) × Bool) := (if x8_8 < x7_8 then ((chk l6_8.length x8_8).bind fun i3 => (cond x5_8 (o8 x0_8 x1_8 x2_8 l3_8 (l6_8.getD i3 0) true l6_8 x7_8 (w64 (x8_8 + 1))) (o8 x0_8 x1_8 x2_8 l3_8 (l6_8.getD i3 0) (decide ((l6_8.getD i3 0) = (x0_8.size : Int))) l6_8 x7_8 (w64 (x8_8 + 1))))) else (cond x5_8 (if x4_8 = (w64 ((x0_8.size : Int) + (x1_8.size : Int))) then (some (l3_8, (decide (x2_8 = (l3_8.length : Int))))) else (some (l3_8, false))) (some (l3_8, false))))
def l8 : Nat → ByteArray → ByteArray → Int → (List (ByteArray × ByteArray)) → Int → Bool → List Int → Int → Int → Option (List (ByteArray × ByteArray) × Bool)
  | 0, _, _, _, _, _, _, _, _, _ => none
  | k + 1, x0_8, x1_8, x2_8, l3_8, x4_8, x5_8, l6_8, x7_8, x8_8 => b8 (impl_Log_records.l8 k) k x0_8 x1_8 x2_8 l3_8 x4_8 x5_8 l6_8 x7_8 x8_8
def m (o8 : ByteArray → ByteArray → Int → (List (ByteArray × ByteArray)) → Int → Bool → List Int → Int → Int → Option (List (ByteArray × ByteArray) × Bool)) (k : Nat) (a0_0 a0_1 : ByteArray) (a0_2 : Int) : Option (List (ByteArray × ByteArray) × Bool) := (if 30000 < (w64 ((a0_0.size : Int) + (a0_1.size : Int))) then (some ([], false)) else ((catS a0_0 a0_1).bind fun s1 => ((impl_readLog.f k s1).bind fun r2 => (o8 a0_0 a0_1 a0_2 r2.1 0 (decide (a0_0 = (⟨#[]⟩ : ByteArray))) r2.2 (r2.2.length : Int) 0))))
def f (k : Nat) (a0_0 a0_1 : ByteArray) (a0_2 : Int) : Option (List (ByteArray × ByteArray) × Bool) := m (impl_Log_records.l8 k) k a0_0 a0_1 a0_2
noncomputable def spec (k : Nat) : FnSpec := ⟨[.ag [.d .str none, .d .str none, .d (.int .i64) none]], [.d (.sl (.pair .str .str)) (some 55), .d .bool none], fun x => f k x.1 x.2.1 x.2.2⟩
def S8 (x0_8 x1_8 : ByteArray) (x2_8 : Int) (l3_8 : List (ByteArray × ByteArray)) (x4_8 : Int) (x5_8 : Bool) (l6_8 : List Int) (x7_8 x8_8 : Int) : St := ⟨[(1, .ptr 100 0), (4, .ref 101), (6, .val (.int .i64) x4_8), (7, .val .bool x5_8), (30, .ref 102), (31, .val (.int .i64) x7_8), (32, .val (.int .i64) x8_8)], [(102, some (.row 3 (.int .i64) l6_8)), (101, some (.row 55 (.pair .str .str) l3_8)), (100, some (.box [.val .str x0_8, .val .str x1_8, .val (.int .i64) x2_8]))], 1000⟩
noncomputable def T : FnText := ⟨(conv [] (bodyOf Tryz.f65) 0).1, Tryz.f65.results.toList, 66, [(8, [(1, .bx 100 [.rd .str, .rd .str, .rd (.int .i64)]), (4, .own 55 (.pair .str .str) 101), (6, .rd (.int .i64)), (7, .rd .bool), (30, .own 3 (.int .i64) 102), (31, .rd (.int .i64)), (32, .rd (.int .i64))])], [.ag [.d .str none, .d .str none, .d (.int .i64) none]], [.d (.sl (.pair .str .str)) (some 55), .d .bool none]⟩
noncomputable def tbl (k : Nat) : Tbl := [(80, impl_readLog.spec k)]
theorem e8 (k : Nat) (o : Nat → St → Option (List (ByteArray × ByteArray) × Bool)) (x0_8 x1_8 : ByteArray) (x2_8 : Int) (l3_8 : List (ByteArray × ByteArray)) (x4_8 : Int) (x5_8 : Bool) (l6_8 : List Int) (x7_8 x8_8 : Int) : T.step tyt (tbl k) o 8 (S8 x0_8 x1_8 x2_8 l3_8 x4_8 x5_8 l6_8 x7_8 x8_8) = b8 (fun x0_8 x1_8 x2_8 l3_8 x4_8 x5_8 l6_8 x7_8 x8_8 => o 8 (S8 x0_8 x1_8 x2_8 l3_8 x4_8 x5_8 l6_8 x7_8 x8_8)) k x0_8 x1_8 x2_8 l3_8 x4_8 x5_8 l6_8 x7_8 x8_8 := by kernel_rfl
theorem e (k : Nat) (o : Nat → St → Option (List (ByteArray × ByteArray) × Bool)) (a0_0 a0_1 : ByteArray) (a0_2 : Int) : T.main tyt (tbl k) o (a0_0, a0_1, a0_2) = m (fun x0_8 x1_8 x2_8 l3_8 x4_8 x5_8 l6_8 x7_8 x8_8 => o 8 (S8 x0_8 x1_8 x2_8 l3_8 x4_8 x5_8 l6_8 x7_8 x8_8)) k a0_0 a0_1 a0_2 := by kernel_rfl
theorem ok : T.ok = true := by kernel_rfl
theorem run (k : Nat) : (∀ (x0_8 x1_8 : ByteArray) (x2_8 : Int) (l3_8 : List (ByteArray × ByteArray)) (x4_8 : Int) (x5_8 : Bool) (l6_8 : List Int) (x7_8 x8_8 : Int), T.run tyt tbl k 8 (S8 x0_8 x1_8 x2_8 l3_8 x4_8 x5_8 l6_8 x7_8 x8_8) = impl_Log_records.l8 k x0_8 x1_8 x2_8 l3_8 x4_8 x5_8 l6_8 x7_8 x8_8) := by
  induction k with
  | zero => exact fun x0_8 x1_8 x2_8 l3_8 x4_8 x5_8 l6_8 x7_8 x8_8 => rfl
  | succ k ih =>
    exact fun x0_8 x1_8 x2_8 l3_8 x4_8 x5_8 l6_8 x7_8 x8_8 => by
      have q8 : (fun x0_8 x1_8 x2_8 l3_8 x4_8 x5_8 l6_8 x7_8 x8_8 => T.run tyt tbl k 8 (S8 x0_8 x1_8 x2_8 l3_8 x4_8 x5_8 l6_8 x7_8 x8_8)) = impl_Log_records.l8 k := by funext x0_8 x1_8 x2_8 l3_8 x4_8 x5_8 l6_8 x7_8 x8_8; exact ih x0_8 x1_8 x2_8 l3_8 x4_8 x5_8 l6_8 x7_8 x8_8
      exact (e8 k (T.run tyt tbl k) x0_8 x1_8 x2_8 l3_8 x4_8 x5_8 l6_8 x7_8 x8_8).trans (by rw [q8]; rfl)
theorem tblok (k : Nat) : TblOk Tryz.prog (tbl k) := TblOk.cons (impl_readLog.sound k) (TblOk.nil _)
theorem sound (k : Nat) : Sound Tryz.prog 65 (spec k) := by
  have h := fn_ok (F := T) (tbl := tbl) mixed tyok Tryz.func65 (by kernel_rfl) (c0 := bodyOf Tryz.f65) rfl (conv_code _ _ _) rfl rfl ok k (fun j _ => tblok j)
  have q8 : (fun x0_8 x1_8 x2_8 l3_8 x4_8 x5_8 l6_8 x7_8 x8_8 => T.run tyt tbl k 8 (S8 x0_8 x1_8 x2_8 l3_8 x4_8 x5_8 l6_8 x7_8 x8_8)) = impl_Log_records.l8 k := by funext x0_8 x1_8 x2_8 l3_8 x4_8 x5_8 l6_8 x7_8 x8_8; exact (run k) x0_8 x1_8 x2_8 l3_8 x4_8 x5_8 l6_8 x7_8 x8_8
  have e : spec k = ⟨T.ps, T.rs, T.ev tyt tbl k⟩ := congrArg (FnSpec.mk _ _) (funext fun x => ((e k (T.run tyt tbl k) x.1 x.2.1 x.2.2).trans (by rw [q8]; rfl)).symm)
  rw [e]
  exact h
end impl_Log_records

namespace impl_IsValidLog
/-! ### impl_IsValidLog: function 64 -/
def m (k : Nat) (a0_0 a0_1 : ByteArray) (a0_2 : Int) : Option (Bool) := ((impl_Log_records.f k a0_0 a0_1 a0_2).bind fun r1 => (some r1.2))
def f (k : Nat) (a0_0 a0_1 : ByteArray) (a0_2 : Int) : Option (Bool) := m k a0_0 a0_1 a0_2
noncomputable def spec (k : Nat) : FnSpec := ⟨[.ag [.d .str none, .d .str none, .d (.int .i64) none]], [.d .bool none], fun x => f k x.1 x.2.1 x.2.2⟩
noncomputable def T : FnText := ⟨(conv [] (bodyOf Tryz.f64) 0).1, Tryz.f64.results.toList, 11, [], [.ag [.d .str none, .d .str none, .d (.int .i64) none]], [.d .bool none]⟩
noncomputable def tbl (k : Nat) : Tbl := [(65, impl_Log_records.spec k)]
theorem e (k : Nat) (o : Nat → St → Option (Bool)) (a0_0 a0_1 : ByteArray) (a0_2 : Int) : T.main tyt (tbl k) o (a0_0, a0_1, a0_2) = m k a0_0 a0_1 a0_2 := by kernel_rfl
theorem ok : T.ok = true := by kernel_rfl
theorem tblok (k : Nat) : TblOk Tryz.prog (tbl k) := TblOk.cons (impl_Log_records.sound k) (TblOk.nil _)
theorem sound (k : Nat) : Sound Tryz.prog 64 (spec k) := by
  have h := fn_ok (F := T) (tbl := tbl) mixed tyok Tryz.func64 (by kernel_rfl) (c0 := bodyOf Tryz.f64) rfl (conv_code _ _ _) rfl rfl ok k (fun j _ => tblok j)
  have e : spec k = ⟨T.ps, T.rs, T.ev tyt tbl k⟩ := congrArg (FnSpec.mk _ _) (funext fun x => ((e k (T.run tyt tbl k) x.1 x.2.1 x.2.2).trans (by rfl)).symm)
  rw [e]
  exact h
end impl_IsValidLog

namespace impl_IsValidConsole
/-! ### impl_IsValidConsole: function 23 -/
def m (k : Nat) (a0_0 a0_1 : Int) (l0_2 : List (Int × Int × Int × Int × Int)) (a0_3 : Int) (a0_4 a0_5 : ByteArray) (a0_6 : Int) : Option (Bool) := ((impl_IsShop.f k a0_0 a0_1 l0_2 a0_3).bind fun r1 => (cond r1 ((impl_IsValidLog.f k a0_4 a0_5 a0_6).bind fun r2 => (some r2)) (some false)))
def f (k : Nat) (a0_0 a0_1 : Int) (l0_2 : List (Int × Int × Int × Int × Int)) (a0_3 : Int) (a0_4 a0_5 : ByteArray) (a0_6 : Int) : Option (Bool) := m k a0_0 a0_1 l0_2 a0_3 a0_4 a0_5 a0_6
noncomputable def spec (k : Nat) : FnSpec := ⟨[.ag [.d (.int .i64) none, .d (.int .i64) none, .d (.sl (.pair (.int .i64) (.pair (.int .i64) (.pair (.int .i64) (.pair (.int .i64) (.int .i64)))))) none, .d (.int .i64) none, .d .str none, .d .str none, .d (.int .i64) none]], [.d .bool none], fun x => f k x.1 x.2.1 x.2.2.1 x.2.2.2.1 x.2.2.2.2.1 x.2.2.2.2.2.1 x.2.2.2.2.2.2⟩
noncomputable def T : FnText := ⟨(conv [] (bodyOf Tryz.f23) 0).1, Tryz.f23.results.toList, 11, [], [.ag [.d (.int .i64) none, .d (.int .i64) none, .d (.sl (.pair (.int .i64) (.pair (.int .i64) (.pair (.int .i64) (.pair (.int .i64) (.int .i64)))))) none, .d (.int .i64) none, .d .str none, .d .str none, .d (.int .i64) none]], [.d .bool none]⟩
noncomputable def tbl (k : Nat) : Tbl := [(63, impl_IsShop.spec k), (64, impl_IsValidLog.spec k)]
theorem e (k : Nat) (o : Nat → St → Option (Bool)) (a0_0 a0_1 : Int) (l0_2 : List (Int × Int × Int × Int × Int)) (a0_3 : Int) (a0_4 a0_5 : ByteArray) (a0_6 : Int) : T.main tyt (tbl k) o (a0_0, a0_1, l0_2, a0_3, a0_4, a0_5, a0_6) = m k a0_0 a0_1 l0_2 a0_3 a0_4 a0_5 a0_6 := by kernel_rfl
theorem ok : T.ok = true := by kernel_rfl
theorem tblok (k : Nat) : TblOk Tryz.prog (tbl k) := TblOk.cons (impl_IsShop.sound k) (TblOk.cons (impl_IsValidLog.sound k) (TblOk.nil _))
theorem sound (k : Nat) : Sound Tryz.prog 23 (spec k) := by
  have h := fn_ok (F := T) (tbl := tbl) mixed tyok Tryz.func23 (by kernel_rfl) (c0 := bodyOf Tryz.f23) rfl (conv_code _ _ _) rfl rfl ok k (fun j _ => tblok j)
  have e : spec k = ⟨T.ps, T.rs, T.ev tyt tbl k⟩ := congrArg (FnSpec.mk _ _) (funext fun x => ((e k (T.run tyt tbl k) x.1 x.2.1 x.2.2.1 x.2.2.2.1 x.2.2.2.2.1 x.2.2.2.2.2.1 x.2.2.2.2.2.2).trans (by rfl)).symm)
  rw [e]
  exact h
end impl_IsValidConsole

/-! ### slices_Clone_impl_Carpet_impl_Carpet: function 133, by hand -/
def slices_Clone_impl_Carpet_impl_Carpet.f (k : Nat) (l0 : List (Int × Int × Int × Int × Int)) : Option (List (Int × Int × Int × Int × Int)) := app 3518437208883 ([] : List (Int × Int × Int × Int × Int)) l0
noncomputable def slices_Clone_impl_Carpet_impl_Carpet.spec (k : Nat) : FnSpec := ⟨[.d (.sl (.pair (.int .i64) (.pair (.int .i64) (.pair (.int .i64) (.pair (.int .i64) (.int .i64)))))) none], [.d (.sl (.pair (.int .i64) (.pair (.int .i64) (.pair (.int .i64) (.pair (.int .i64) (.int .i64)))))) (some 108)], fun x => slices_Clone_impl_Carpet_impl_Carpet.f k x⟩
theorem slices_Clone_impl_Carpet_impl_Carpet.sound (k : Nat) : Sound Go.Proofs.Tryz.prog 133 (slices_Clone_impl_Carpet_impl_Carpet.spec k) := clone_ok (t := 36) (e := 108) (ti := tyt36) (ei := tyt108) (nt := Go.Proofs.Tryz.f133.ntmps) tyok Go.Proofs.Tryz.func133 (by kernel_rfl) rfl rfl rfl rfl (by decide) rfl rfl ⟨rfl, rfl, rfl⟩ ⟨rfl, rfl, rfl⟩ ⟨rfl, rfl, rfl⟩ ⟨rfl, rfl, rfl⟩ ⟨rfl, rfl, rfl⟩ ⟨rfl, rfl, rfl⟩ ⟨rfl, rfl, rfl⟩ ⟨rfl, rfl, rfl⟩
namespace impl_Shop_copied
/-! ### impl_Shop_copied: function 93 -/
def m (k : Nat) (a0_0 a0_1 : Int) (l0_2 : List (Int × Int × Int × Int × Int)) (a0_3 : Int) : Option (Int × Int × List (Int × Int × Int × Int × Int) × Int) := ((slices_Clone_impl_Carpet_impl_Carpet.f k l0_2).bind fun r1 => (some (a0_0, a0_1, r1, a0_3)))
def f (k : Nat) (a0_0 a0_1 : Int) (l0_2 : List (Int × Int × Int × Int × Int)) (a0_3 : Int) : Option (Int × Int × List (Int × Int × Int × Int × Int) × Int) := m k a0_0 a0_1 l0_2 a0_3
noncomputable def spec (k : Nat) : FnSpec := ⟨[.ag [.d (.int .i64) none, .d (.int .i64) none, .d (.sl (.pair (.int .i64) (.pair (.int .i64) (.pair (.int .i64) (.pair (.int .i64) (.int .i64)))))) none, .d (.int .i64) none]], [.ag [.d (.int .i64) none, .d (.int .i64) none, .d (.sl (.pair (.int .i64) (.pair (.int .i64) (.pair (.int .i64) (.pair (.int .i64) (.int .i64)))))) (some 108), .d (.int .i64) none]], fun x => f k x.1 x.2.1 x.2.2.1 x.2.2.2⟩
noncomputable def T : FnText := ⟨(conv [] (bodyOf Tryz.f93) 0).1, Tryz.f93.results.toList, 8, [], [.ag [.d (.int .i64) none, .d (.int .i64) none, .d (.sl (.pair (.int .i64) (.pair (.int .i64) (.pair (.int .i64) (.pair (.int .i64) (.int .i64)))))) none, .d (.int .i64) none]], [.ag [.d (.int .i64) none, .d (.int .i64) none, .d (.sl (.pair (.int .i64) (.pair (.int .i64) (.pair (.int .i64) (.pair (.int .i64) (.int .i64)))))) (some 108), .d (.int .i64) none]]⟩
noncomputable def tbl (k : Nat) : Tbl := [(133, slices_Clone_impl_Carpet_impl_Carpet.spec k)]
theorem e (k : Nat) (o : Nat → St → Option (Int × Int × List (Int × Int × Int × Int × Int) × Int)) (a0_0 a0_1 : Int) (l0_2 : List (Int × Int × Int × Int × Int)) (a0_3 : Int) : T.main tyt (tbl k) o (a0_0, a0_1, l0_2, a0_3) = m k a0_0 a0_1 l0_2 a0_3 := by kernel_rfl
theorem ok : T.ok = true := by kernel_rfl
theorem tblok (k : Nat) : TblOk Tryz.prog (tbl k) := TblOk.cons (slices_Clone_impl_Carpet_impl_Carpet.sound k) (TblOk.nil _)
theorem sound (k : Nat) : Sound Tryz.prog 93 (spec k) := by
  have h := fn_ok (F := T) (tbl := tbl) mixed tyok Tryz.func93 (by kernel_rfl) (c0 := bodyOf Tryz.f93) rfl (conv_code _ _ _) rfl rfl ok k (fun j _ => tblok j)
  have e : spec k = ⟨T.ps, T.rs, T.ev tyt tbl k⟩ := congrArg (FnSpec.mk _ _) (funext fun x => ((e k (T.run tyt tbl k) x.1 x.2.1 x.2.2.1 x.2.2.2).trans (by rfl)).symm)
  rw [e]
  exact h
end impl_Shop_copied

namespace impl_Console_copied
/-! ### impl_Console_copied: function 49 -/
def m (k : Nat) (a0_0 a0_1 : Int) (l0_2 : List (Int × Int × Int × Int × Int)) (a0_3 : Int) (a0_4 a0_5 : ByteArray) (a0_6 : Int) : Option (Int × Int × List (Int × Int × Int × Int × Int) × Int × ByteArray × ByteArray × Int) := ((impl_Shop_copied.f k a0_0 a0_1 l0_2 a0_3).bind fun r1 => (some (r1.1, r1.2.1, r1.2.2.1, r1.2.2.2, a0_4, a0_5, a0_6)))
def f (k : Nat) (a0_0 a0_1 : Int) (l0_2 : List (Int × Int × Int × Int × Int)) (a0_3 : Int) (a0_4 a0_5 : ByteArray) (a0_6 : Int) : Option (Int × Int × List (Int × Int × Int × Int × Int) × Int × ByteArray × ByteArray × Int) := m k a0_0 a0_1 l0_2 a0_3 a0_4 a0_5 a0_6
noncomputable def spec (k : Nat) : FnSpec := ⟨[.ag [.d (.int .i64) none, .d (.int .i64) none, .d (.sl (.pair (.int .i64) (.pair (.int .i64) (.pair (.int .i64) (.pair (.int .i64) (.int .i64)))))) none, .d (.int .i64) none, .d .str none, .d .str none, .d (.int .i64) none]], [.ag [.d (.int .i64) none, .d (.int .i64) none, .d (.sl (.pair (.int .i64) (.pair (.int .i64) (.pair (.int .i64) (.pair (.int .i64) (.int .i64)))))) (some 108), .d (.int .i64) none, .d .str none, .d .str none, .d (.int .i64) none]], fun x => f k x.1 x.2.1 x.2.2.1 x.2.2.2.1 x.2.2.2.2.1 x.2.2.2.2.2.1 x.2.2.2.2.2.2⟩
noncomputable def T : FnText := ⟨(conv [] (bodyOf Tryz.f49) 0).1, Tryz.f49.results.toList, 8, [], [.ag [.d (.int .i64) none, .d (.int .i64) none, .d (.sl (.pair (.int .i64) (.pair (.int .i64) (.pair (.int .i64) (.pair (.int .i64) (.int .i64)))))) none, .d (.int .i64) none, .d .str none, .d .str none, .d (.int .i64) none]], [.ag [.d (.int .i64) none, .d (.int .i64) none, .d (.sl (.pair (.int .i64) (.pair (.int .i64) (.pair (.int .i64) (.pair (.int .i64) (.int .i64)))))) (some 108), .d (.int .i64) none, .d .str none, .d .str none, .d (.int .i64) none]]⟩
noncomputable def tbl (k : Nat) : Tbl := [(93, impl_Shop_copied.spec k)]
theorem e (k : Nat) (o : Nat → St → Option (Int × Int × List (Int × Int × Int × Int × Int) × Int × ByteArray × ByteArray × Int)) (a0_0 a0_1 : Int) (l0_2 : List (Int × Int × Int × Int × Int)) (a0_3 : Int) (a0_4 a0_5 : ByteArray) (a0_6 : Int) : T.main tyt (tbl k) o (a0_0, a0_1, l0_2, a0_3, a0_4, a0_5, a0_6) = m k a0_0 a0_1 l0_2 a0_3 a0_4 a0_5 a0_6 := by kernel_rfl
theorem ok : T.ok = true := by kernel_rfl
theorem tblok (k : Nat) : TblOk Tryz.prog (tbl k) := TblOk.cons (impl_Shop_copied.sound k) (TblOk.nil _)
theorem sound (k : Nat) : Sound Tryz.prog 49 (spec k) := by
  have h := fn_ok (F := T) (tbl := tbl) mixed tyok Tryz.func49 (by kernel_rfl) (c0 := bodyOf Tryz.f49) rfl (conv_code _ _ _) rfl rfl ok k (fun j _ => tblok j)
  have e : spec k = ⟨T.ps, T.rs, T.ev tyt tbl k⟩ := congrArg (FnSpec.mk _ _) (funext fun x => ((e k (T.run tyt tbl k) x.1 x.2.1 x.2.2.1 x.2.2.2.1 x.2.2.2.2.1 x.2.2.2.2.2.1 x.2.2.2.2.2.2).trans (by rfl)).symm)
  rw [e]
  exact h
end impl_Console_copied

/-! ### impl_ParseInt: function 137, by its contract -/
def impl_ParseInt.f (k : Nat) (a0 : ByteArray) : Option (Int × Bool) := parseIntF a0
noncomputable def impl_ParseInt.spec (k : Nat) : FnSpec := ⟨[.d .str none], [.d (.int .i64) none, .d .bool none], fun x => impl_ParseInt.f k x⟩
theorem impl_ParseInt.sound (k : Nat) : Sound Go.Proofs.Tryz.prog 137 (impl_ParseInt.spec k) := strParseInt_ok

namespace impl_parseInts
/-! ### impl_parseInts: function 96 -/
def b4 (o4 : List Int → List ByteArray → Int → Int → Option (List Int × Bool)) (k : Nat) (l0_4 : List Int) (l1_4 : List ByteArray) (x2_4 x3_4 : Int) : Option (List Int × Bool) := (if x3_4 < x2_4 then ((chk l1_4.length x3_4).bind fun i1 => ((impl_ParseInt.f k (l1_4.getD i1 ByteArray.empty)).bind fun r2 => (cond (!r2.2) (some ([], false)) ((app 17592186044416 l0_4 [r2.1]).bind fun l3 => (o4 l3 l1_4 x2_4 (w64 (x3_4 + 1))))))) else (some (l0_4, true)))
def l4 : Nat → List Int → List ByteArray → Int → Int → Option (List Int × Bool)
  | 0, _, _, _, _ => none
  | k + 1, l0_4, l1_4, x2_4, x3_4 => b4 (impl_parseInts.l4 k) k l0_4 l1_4 x2_4 x3_4
def m (o4 : List Int → List ByteArray → Int → Int → Option (List Int × Bool)) (k : Nat) (l0 : List ByteArray) : Option (List Int × Bool) := (o4 ([] : List (Int)) l0 (l0.length : Int) 0)
def f (k : Nat) (l0 : List ByteArray) : Option (List Int × Bool) := m (impl_parseInts.l4 k) k l0
noncomputable def spec (k : Nat) : FnSpec := ⟨[.d (.sl .str) none], [.d (.sl (.int .i64)) (some 3), .d .bool none], fun x => f k x⟩
def S4 (l0_4 : List Int) (l1_4 : List ByteArray) (x2_4 x3_4 : Int) : St := ⟨[(4, .ref 100), (10, .val (.sl .str) l1_4), (11, .val (.int .i64) x2_4), (12, .val (.int .i64) x3_4)], [(100, some (.row 3 (.int .i64) l0_4))], 1000⟩
noncomputable def T : FnText := ⟨(conv [] (bodyOf Tryz.f96) 0).1, Tryz.f96.results.toList, 29, [(4, [(4, .own 3 (.int .i64) 100), (10, .rd (.sl .str)), (11, .rd (.int .i64)), (12, .rd (.int .i64))])], [.d (.sl .str) none], [.d (.sl (.int .i64)) (some 3), .d .bool none]⟩
noncomputable def tbl (k : Nat) : Tbl := [(137, impl_ParseInt.spec k)]
theorem e4 (k : Nat) (o : Nat → St → Option (List Int × Bool)) (l0_4 : List Int) (l1_4 : List ByteArray) (x2_4 x3_4 : Int) : T.step tyt (tbl k) o 4 (S4 l0_4 l1_4 x2_4 x3_4) = b4 (fun l0_4 l1_4 x2_4 x3_4 => o 4 (S4 l0_4 l1_4 x2_4 x3_4)) k l0_4 l1_4 x2_4 x3_4 := by kernel_rfl
theorem e (k : Nat) (o : Nat → St → Option (List Int × Bool)) (l0 : List ByteArray) : T.main tyt (tbl k) o l0 = m (fun l0_4 l1_4 x2_4 x3_4 => o 4 (S4 l0_4 l1_4 x2_4 x3_4)) k l0 := by kernel_rfl
theorem ok : T.ok = true := by kernel_rfl
theorem run (k : Nat) : (∀ (l0_4 : List Int) (l1_4 : List ByteArray) (x2_4 x3_4 : Int), T.run tyt tbl k 4 (S4 l0_4 l1_4 x2_4 x3_4) = impl_parseInts.l4 k l0_4 l1_4 x2_4 x3_4) := by
  induction k with
  | zero => exact fun l0_4 l1_4 x2_4 x3_4 => rfl
  | succ k ih =>
    exact fun l0_4 l1_4 x2_4 x3_4 => by
      have q4 : (fun l0_4 l1_4 x2_4 x3_4 => T.run tyt tbl k 4 (S4 l0_4 l1_4 x2_4 x3_4)) = impl_parseInts.l4 k := by funext l0_4 l1_4 x2_4 x3_4; exact ih l0_4 l1_4 x2_4 x3_4
      exact (e4 k (T.run tyt tbl k) l0_4 l1_4 x2_4 x3_4).trans (by rw [q4]; rfl)
theorem tblok (k : Nat) : TblOk Tryz.prog (tbl k) := TblOk.cons (impl_ParseInt.sound k) (TblOk.nil _)
theorem sound (k : Nat) : Sound Tryz.prog 96 (spec k) := by
  have h := fn_ok (F := T) (tbl := tbl) mixed tyok Tryz.func96 (by kernel_rfl) (c0 := bodyOf Tryz.f96) rfl (conv_code _ _ _) rfl rfl ok k (fun j _ => tblok j)
  have q4 : (fun l0_4 l1_4 x2_4 x3_4 => T.run tyt tbl k 4 (S4 l0_4 l1_4 x2_4 x3_4)) = impl_parseInts.l4 k := by funext l0_4 l1_4 x2_4 x3_4; exact (run k) l0_4 l1_4 x2_4 x3_4
  have e : spec k = ⟨T.ps, T.rs, T.ev tyt tbl k⟩ := congrArg (FnSpec.mk _ _) (funext fun x => ((e k (T.run tyt tbl k) x).trans (by rw [q4]; rfl)).symm)
  rw [e]
  exact h
end impl_parseInts

/-! ### impl_stepOf: function 97, by its contract -/
def impl_stepOf.f (k : Nat) (a0 : ByteArray) (a1 : List Int) : Option (Int × Int × Int × Bool) := stepOfF a0 a1
noncomputable def impl_stepOf.spec (k : Nat) : FnSpec := ⟨[.d .str none, .d (.sl (.int .i64)) none], [.ag [.d (.int .i64) none, .d (.int .i64) none, .d (.int .i64) none], .d .bool none], fun x => impl_stepOf.f k x.1 x.2⟩
theorem impl_stepOf.sound (k : Nat) : Sound Go.Proofs.Tryz.prog 97 (impl_stepOf.spec k) := strStepOf_ok

namespace impl_ShopStep_isValid
/-! ### impl_ShopStep_isValid: function 138 -/
def b3 (o6 : Int → Int → Int → Int → Bool → Option (Bool)) (k : Nat) (x0_3 x1_3 x2_3 x3_3 : Int) (x4_3 : Bool) : Option (Bool) := (cond x4_3 (if x1_3 = 0 then (some (decide (1 ≤ x2_3))) else (some false)) (if x3_3 = 3 then (o6 x0_3 x1_3 x2_3 x3_3 (decide (x3_3 = 3))) else (o6 x0_3 x1_3 x2_3 x3_3 (decide (x3_3 = 7)))))
def b6 (k : Nat) (x0_6 x1_6 x2_6 x3_6 : Int) (x4_6 : Bool) : Option (Bool) := (cond x4_6 (some (decide (1 ≤ x2_6))) (if x3_6 = 4 then ((impl_in.f k x2_6 1 20).bind fun r1 => (some r1)) else (if x0_6 = 5 then (some (decide (x2_6 = 0))) else (if x0_6 = 6 then (some (decide (x2_6 = 0))) else (some false)))))
mutual
def l3 : Nat → Int → Int → Int → Int → Bool → Option (Bool)
  | 0, _, _, _, _, _ => none
  | k + 1, x0_3, x1_3, x2_3, x3_3, x4_3 => b3 (impl_ShopStep_isValid.l6 k) k x0_3 x1_3 x2_3 x3_3 x4_3
def l6 : Nat → Int → Int → Int → Int → Bool → Option (Bool)
  | 0, _, _, _, _, _ => none
  | k + 1, x0_6, x1_6, x2_6, x3_6, x4_6 => b6 k x0_6 x1_6 x2_6 x3_6 x4_6
end
def m (o3 : Int → Int → Int → Int → Bool → Option (Bool)) (k : Nat) (a0_0 a0_1 a0_2 : Int) : Option (Bool) := (if a0_0 = 1 then (o3 a0_0 a0_1 a0_2 a0_0 (decide (a0_0 = 1))) else (o3 a0_0 a0_1 a0_2 a0_0 (decide (a0_0 = 2))))
def f (k : Nat) (a0_0 a0_1 a0_2 : Int) : Option (Bool) := m (impl_ShopStep_isValid.l3 k) k a0_0 a0_1 a0_2
noncomputable def spec (k : Nat) : FnSpec := ⟨[.ag [.d (.int .i64) none, .d (.int .i64) none, .d (.int .i64) none]], [.d .bool none], fun x => f k x.1 x.2.1 x.2.2⟩
def S3 (x0_3 x1_3 x2_3 x3_3 : Int) (x4_3 : Bool) : St := ⟨[(1, .ptr 100 0), (4, .val (.int .i64) x3_3), (5, .val .bool x4_3)], [(100, some (.box [.val (.int .i64) x0_3, .val (.int .i64) x1_3, .val (.int .i64) x2_3]))], 1000⟩
def S6 (x0_6 x1_6 x2_6 x3_6 : Int) (x4_6 : Bool) : St := ⟨[(1, .ptr 100 0), (4, .val (.int .i64) x3_6), (16, .val .bool x4_6)], [(100, some (.box [.val (.int .i64) x0_6, .val (.int .i64) x1_6, .val (.int .i64) x2_6]))], 1000⟩
noncomputable def T : FnText := ⟨(conv [3, 6] (bodyOf Tryz.f138) 0).1, Tryz.f138.results.toList, 40, [(3, [(1, .bx 100 [.rd (.int .i64), .rd (.int .i64), .rd (.int .i64)]), (4, .rd (.int .i64)), (5, .rd .bool)]), (6, [(1, .bx 100 [.rd (.int .i64), .rd (.int .i64), .rd (.int .i64)]), (4, .rd (.int .i64)), (16, .rd .bool)])], [.ag [.d (.int .i64) none, .d (.int .i64) none, .d (.int .i64) none]], [.d .bool none]⟩
noncomputable def tbl (k : Nat) : Tbl := [(79, impl_in.spec k)]
theorem e3 (k : Nat) (o : Nat → St → Option (Bool)) (x0_3 x1_3 x2_3 x3_3 : Int) (x4_3 : Bool) : T.step tyt (tbl k) o 3 (S3 x0_3 x1_3 x2_3 x3_3 x4_3) = b3 (fun x0_6 x1_6 x2_6 x3_6 x4_6 => o 6 (S6 x0_6 x1_6 x2_6 x3_6 x4_6)) k x0_3 x1_3 x2_3 x3_3 x4_3 := by kernel_rfl
theorem e6 (k : Nat) (o : Nat → St → Option (Bool)) (x0_6 x1_6 x2_6 x3_6 : Int) (x4_6 : Bool) : T.step tyt (tbl k) o 6 (S6 x0_6 x1_6 x2_6 x3_6 x4_6) = b6 k x0_6 x1_6 x2_6 x3_6 x4_6 := by kernel_rfl
theorem e (k : Nat) (o : Nat → St → Option (Bool)) (a0_0 a0_1 a0_2 : Int) : T.main tyt (tbl k) o (a0_0, a0_1, a0_2) = m (fun x0_3 x1_3 x2_3 x3_3 x4_3 => o 3 (S3 x0_3 x1_3 x2_3 x3_3 x4_3)) k a0_0 a0_1 a0_2 := by kernel_rfl
theorem ok : T.ok = true := by kernel_rfl
theorem run (k : Nat) : (∀ (x0_3 x1_3 x2_3 x3_3 : Int) (x4_3 : Bool), T.run tyt tbl k 3 (S3 x0_3 x1_3 x2_3 x3_3 x4_3) = impl_ShopStep_isValid.l3 k x0_3 x1_3 x2_3 x3_3 x4_3) ∧ (∀ (x0_6 x1_6 x2_6 x3_6 : Int) (x4_6 : Bool), T.run tyt tbl k 6 (S6 x0_6 x1_6 x2_6 x3_6 x4_6) = impl_ShopStep_isValid.l6 k x0_6 x1_6 x2_6 x3_6 x4_6) := by
  induction k with
  | zero => exact ⟨fun x0_3 x1_3 x2_3 x3_3 x4_3 => rfl, fun x0_6 x1_6 x2_6 x3_6 x4_6 => rfl⟩
  | succ k ih =>
    exact ⟨fun x0_3 x1_3 x2_3 x3_3 x4_3 => by
      have q6 : (fun x0_6 x1_6 x2_6 x3_6 x4_6 => T.run tyt tbl k 6 (S6 x0_6 x1_6 x2_6 x3_6 x4_6)) = impl_ShopStep_isValid.l6 k := by funext x0_6 x1_6 x2_6 x3_6 x4_6; exact ih.2 x0_6 x1_6 x2_6 x3_6 x4_6
      exact (e3 k (T.run tyt tbl k) x0_3 x1_3 x2_3 x3_3 x4_3).trans (by rw [q6]; rfl), fun x0_6 x1_6 x2_6 x3_6 x4_6 => by
      exact (e6 k (T.run tyt tbl k) x0_6 x1_6 x2_6 x3_6 x4_6).trans (by rfl)⟩
theorem tblok (k : Nat) : TblOk Tryz.prog (tbl k) := TblOk.cons (impl_in.sound k) (TblOk.nil _)
theorem sound (k : Nat) : Sound Tryz.prog 138 (spec k) := by
  have h := fn_ok (F := T) (tbl := tbl) mixed tyok Tryz.func138 (by kernel_rfl) (c0 := bodyOf Tryz.f138) rfl (conv_code _ _ _) rfl rfl ok k (fun j _ => tblok j)
  have q3 : (fun x0_3 x1_3 x2_3 x3_3 x4_3 => T.run tyt tbl k 3 (S3 x0_3 x1_3 x2_3 x3_3 x4_3)) = impl_ShopStep_isValid.l3 k := by funext x0_3 x1_3 x2_3 x3_3 x4_3; exact (run k).1 x0_3 x1_3 x2_3 x3_3 x4_3
  have e : spec k = ⟨T.ps, T.rs, T.ev tyt tbl k⟩ := congrArg (FnSpec.mk _ _) (funext fun x => ((e k (T.run tyt tbl k) x.1 x.2.1 x.2.2).trans (by rw [q3]; rfl)).symm)
  rw [e]
  exact h
end impl_ShopStep_isValid

namespace impl_Shop_canChange
/-! ### impl_Shop_canChange: function 139 -/
def m (k : Nat) (a0_0 a0_1 : Int) (l0_2 : List (Int × Int × Int × Int × Int)) (a0_3 a1_0 a1_1 a1_2 a2_0 a2_1 a2_2 a2_3 a2_4 : Int) : Option (Bool) := (if a1_0 = 3 then (if a2_2 = 0 then ((impl_Shop_onLoom.f k a0_0 a0_1 l0_2 a0_3 a1_2).bind fun r1 => (some (decide (r1 < 0)))) else (some false)) else (if a1_0 = 4 then (if a2_2 = 1 then (if 1 ≤ (w64 (a0_0 - a2_4)) then (some (decide (a1_2 ≤ (w64 (a2_0 - a2_1))))) else (some false)) else (some false)) else (if a1_0 = 5 then (if a2_2 = 1 then (some (decide (a2_1 = a2_0))) else (some false)) else (if a1_0 = 6 then (some (decide (a2_2 = 2))) else (if a2_2 = 3 then (some (decide (3 ≤ (w64 (a0_0 - a2_4))))) else (some false))))))
def f (k : Nat) (a0_0 a0_1 : Int) (l0_2 : List (Int × Int × Int × Int × Int)) (a0_3 a1_0 a1_1 a1_2 a2_0 a2_1 a2_2 a2_3 a2_4 : Int) : Option (Bool) := m k a0_0 a0_1 l0_2 a0_3 a1_0 a1_1 a1_2 a2_0 a2_1 a2_2 a2_3 a2_4
noncomputable def spec (k : Nat) : FnSpec := ⟨[.ag [.d (.int .i64) none, .d (.int .i64) none, .d (.sl (.pair (.int .i64) (.pair (.int .i64) (.pair (.int .i64) (.pair (.int .i64) (.int .i64)))))) none, .d (.int .i64) none], .ag [.d (.int .i64) none, .d (.int .i64) none, .d (.int .i64) none], .ag [.d (.int .i64) none, .d (.int .i64) none, .d (.int .i64) none, .d (.int .i64) none, .d (.int .i64) none]], [.d .bool none], fun x => f k x.1 x.2.1 x.2.2.1 x.2.2.2.1 x.2.2.2.2.1 x.2.2.2.2.2.1 x.2.2.2.2.2.2.1 x.2.2.2.2.2.2.2.1 x.2.2.2.2.2.2.2.2.1 x.2.2.2.2.2.2.2.2.2.1 x.2.2.2.2.2.2.2.2.2.2.1 x.2.2.2.2.2.2.2.2.2.2.2⟩
noncomputable def T : FnText := ⟨(conv [] (bodyOf Tryz.f139) 0).1, Tryz.f139.results.toList, 70, [], [.ag [.d (.int .i64) none, .d (.int .i64) none, .d (.sl (.pair (.int .i64) (.pair (.int .i64) (.pair (.int .i64) (.pair (.int .i64) (.int .i64)))))) none, .d (.int .i64) none], .ag [.d (.int .i64) none, .d (.int .i64) none, .d (.int .i64) none], .ag [.d (.int .i64) none, .d (.int .i64) none, .d (.int .i64) none, .d (.int .i64) none, .d (.int .i64) none]], [.d .bool none]⟩
noncomputable def tbl (k : Nat) : Tbl := [(114, impl_Shop_onLoom.spec k)]
theorem e (k : Nat) (o : Nat → St → Option (Bool)) (a0_0 a0_1 : Int) (l0_2 : List (Int × Int × Int × Int × Int)) (a0_3 a1_0 a1_1 a1_2 a2_0 a2_1 a2_2 a2_3 a2_4 : Int) : T.main tyt (tbl k) o (a0_0, a0_1, l0_2, a0_3, a1_0, a1_1, a1_2, a2_0, a2_1, a2_2, a2_3, a2_4) = m k a0_0 a0_1 l0_2 a0_3 a1_0 a1_1 a1_2 a2_0 a2_1 a2_2 a2_3 a2_4 := by kernel_rfl
theorem ok : T.ok = true := by kernel_rfl
theorem tblok (k : Nat) : TblOk Tryz.prog (tbl k) := TblOk.cons (impl_Shop_onLoom.sound k) (TblOk.nil _)
theorem sound (k : Nat) : Sound Tryz.prog 139 (spec k) := by
  have h := fn_ok (F := T) (tbl := tbl) mixed tyok Tryz.func139 (by kernel_rfl) (c0 := bodyOf Tryz.f139) rfl (conv_code _ _ _) rfl rfl ok k (fun j _ => tblok j)
  have e : spec k = ⟨T.ps, T.rs, T.ev tyt tbl k⟩ := congrArg (FnSpec.mk _ _) (funext fun x => ((e k (T.run tyt tbl k) x.1 x.2.1 x.2.2.1 x.2.2.2.1 x.2.2.2.2.1 x.2.2.2.2.2.1 x.2.2.2.2.2.2.1 x.2.2.2.2.2.2.2.1 x.2.2.2.2.2.2.2.2.1 x.2.2.2.2.2.2.2.2.2.1 x.2.2.2.2.2.2.2.2.2.2.1 x.2.2.2.2.2.2.2.2.2.2.2).trans (by rfl)).symm)
  rw [e]
  exact h
end impl_Shop_canChange

namespace impl_Shop_change
/-! ### impl_Shop_change: function 140 -/
def m (k : Nat) (a0_0 a0_1 : Int) (l0_2 : List (Int × Int × Int × Int × Int)) (a0_3 a1_0 a1_1 a1_2 : Int) : Option (Int × Int × List (Int × Int × Int × Int × Int) × Int) := ((chk l0_2.length a1_1).bind fun i1 => (if a1_0 = 3 then (some (a0_0, a0_1, (upd (upd (upd l0_2 i1 (0, 0, 0, 0, 0) fun e2 => (e2.1, e2.2.1, e2.2.2.1, e2.2.2.2.1, a0_0)) i1 (0, 0, 0, 0, 0) fun e3 => (e3.1, e3.2.1, 1, e3.2.2.2.1, e3.2.2.2.2)) i1 (0, 0, 0, 0, 0) fun e4 => (e4.1, e4.2.1, e4.2.2.1, a1_2, e4.2.2.2.2)), a0_3)) else (if a1_0 = 4 then (some (a0_0, a0_1, (upd (upd l0_2 i1 (0, 0, 0, 0, 0) fun e2 => (e2.1, e2.2.1, e2.2.2.1, e2.2.2.2.1, a0_0)) i1 (0, 0, 0, 0, 0) fun e5 => (e5.1, (w64 (((((upd l0_2 i1 (0, 0, 0, 0, 0) fun e2 => (e2.1, e2.2.1, e2.2.2.1, e2.2.2.2.1, a0_0)).getD i1 (0, 0, 0, 0, 0)).2).1) + a1_2)), e5.2.2.1, e5.2.2.2.1, e5.2.2.2.2)), a0_3)) else (if a1_0 = 5 then (some (a0_0, a0_1, (upd (upd (upd l0_2 i1 (0, 0, 0, 0, 0) fun e2 => (e2.1, e2.2.1, e2.2.2.1, e2.2.2.2.1, a0_0)) i1 (0, 0, 0, 0, 0) fun e6 => (e6.1, e6.2.1, 2, e6.2.2.2.1, e6.2.2.2.2)) i1 (0, 0, 0, 0, 0) fun e7 => (e7.1, e7.2.1, e7.2.2.1, 0, e7.2.2.2.2)), a0_3)) else (if a1_0 = 6 then (some (a0_0, a0_1, (upd (upd l0_2 i1 (0, 0, 0, 0, 0) fun e2 => (e2.1, e2.2.1, e2.2.2.1, e2.2.2.2.1, a0_0)) i1 (0, 0, 0, 0, 0) fun e8 => (e8.1, e8.2.1, 3, e8.2.2.2.1, e8.2.2.2.2)), a0_3)) else (if a1_0 = 7 then (some (a0_0, a0_1, (upd (upd l0_2 i1 (0, 0, 0, 0, 0) fun e2 => (e2.1, e2.2.1, e2.2.2.1, e2.2.2.2.1, a0_0)) i1 (0, 0, 0, 0, 0) fun e9 => (e9.1, e9.2.1, 4, e9.2.2.2.1, e9.2.2.2.2)), (w64 (a0_3 + a1_2)))) else (some (a0_0, a0_1, (upd l0_2 i1 (0, 0, 0, 0, 0) fun e2 => (e2.1, e2.2.1, e2.2.2.1, e2.2.2.2.1, a0_0)), a0_3))))))))
def f (k : Nat) (a0_0 a0_1 : Int) (l0_2 : List (Int × Int × Int × Int × Int)) (a0_3 a1_0 a1_1 a1_2 : Int) : Option (Int × Int × List (Int × Int × Int × Int × Int) × Int) := m k a0_0 a0_1 l0_2 a0_3 a1_0 a1_1 a1_2
noncomputable def spec (k : Nat) : FnSpec := ⟨[.bx [.d (.int .i64) none, .d (.int .i64) none, .d (.sl (.pair (.int .i64) (.pair (.int .i64) (.pair (.int .i64) (.pair (.int .i64) (.int .i64)))))) (some 108), .d (.int .i64) none], .ag [.d (.int .i64) none, .d (.int .i64) none, .d (.int .i64) none]], [], fun x => f k x.1 x.2.1 x.2.2.1 x.2.2.2.1 x.2.2.2.2.1 x.2.2.2.2.2.1 x.2.2.2.2.2.2⟩
noncomputable def T : FnText := ⟨(conv [] (bodyOf Tryz.f140) 0).1, Tryz.f140.results.toList, 69, [], [.bx [.d (.int .i64) none, .d (.int .i64) none, .d (.sl (.pair (.int .i64) (.pair (.int .i64) (.pair (.int .i64) (.pair (.int .i64) (.int .i64)))))) (some 108), .d (.int .i64) none], .ag [.d (.int .i64) none, .d (.int .i64) none, .d (.int .i64) none]], []⟩
noncomputable def tbl (k : Nat) : Tbl := []
theorem e (k : Nat) (o : Nat → St → Option (Int × Int × List (Int × Int × Int × Int × Int) × Int)) (a0_0 a0_1 : Int) (l0_2 : List (Int × Int × Int × Int × Int)) (a0_3 a1_0 a1_1 a1_2 : Int) : T.main tyt (tbl k) o (a0_0, a0_1, l0_2, a0_3, a1_0, a1_1, a1_2) = m k a0_0 a0_1 l0_2 a0_3 a1_0 a1_1 a1_2 := by kernel_rfl
theorem ok : T.ok = true := by kernel_rfl
theorem tblok (k : Nat) : TblOk Tryz.prog (tbl k) := TblOk.nil _
theorem sound (k : Nat) : Sound Tryz.prog 140 (spec k) := by
  have h := fn_ok (F := T) (tbl := tbl) mixed tyok Tryz.func140 (by kernel_rfl) (c0 := bodyOf Tryz.f140) rfl (conv_code _ _ _) rfl rfl ok k (fun j _ => tblok j)
  have e : spec k = ⟨T.ps, T.rs, T.ev tyt tbl k⟩ := congrArg (FnSpec.mk _ _) (funext fun x => ((e k (T.run tyt tbl k) x.1 x.2.1 x.2.2.1 x.2.2.2.1 x.2.2.2.2.1 x.2.2.2.2.2.1 x.2.2.2.2.2.2).trans (by rfl)).symm)
  rw [e]
  exact h
end impl_Shop_change

namespace impl_Shop_step
/-! ### impl_Shop_step: function 98 -/
def b5 (k : Nat) (x0_5 x1_5 : Int) (l2_5 : List (Int × Int × Int × Int × Int)) (x3_5 x4_5 x5_5 : Int) (l6_5 : List (Int × Int × Int × Int × Int)) (x7_5 : Int) : Option (Int × Int × List (Int × Int × Int × Int × Int) × Int × Bool) := ((impl_IsShop.f k x4_5 x5_5 l6_5 x7_5).bind fun r8 => (cond (!r8) (some (0, 0, [], 0, false)) (some (x4_5, x5_5, l6_5, x7_5, true))))
def l5 : Nat → Int → Int → (List (Int × Int × Int × Int × Int)) → Int → Int → Int → (List (Int × Int × Int × Int × Int)) → Int → Option (Int × Int × List (Int × Int × Int × Int × Int) × Int × Bool)
  | 0, _, _, _, _, _, _, _, _ => none
  | k + 1, x0_5, x1_5, l2_5, x3_5, x4_5, x5_5, l6_5, x7_5 => b5 k x0_5 x1_5 l2_5 x3_5 x4_5 x5_5 l6_5 x7_5
def m (o5 : Int → Int → (List (Int × Int × Int × Int × Int)) → Int → Int → Int → (List (Int × Int × Int × Int × Int)) → Int → Option (Int × Int × List (Int × Int × Int × Int × Int) × Int × Bool)) (k : Nat) (a0_0 a0_1 : Int) (l0_2 : List (Int × Int × Int × Int × Int)) (a0_3 a1_0 a1_1 a1_2 : Int) : Option (Int × Int × List (Int × Int × Int × Int × Int) × Int × Bool) := ((impl_ShopStep_isValid.f k a1_0 a1_1 a1_2).bind fun r1 => (cond (!r1) (some (0, 0, [], 0, false)) ((impl_Shop_copied.f k a0_0 a0_1 l0_2 a0_3).bind fun r2 => (if a1_0 = 1 then (o5 0 0 [] 0 (w64 (r2.1 + a1_2)) r2.2.1 r2.2.2.1 r2.2.2.2) else (if a1_0 = 2 then ((app 3518437208883 r2.2.2.1 [(a1_2, 0, 0, 0, a0_0)]).bind fun l3 => (o5 0 0 [] 0 r2.1 r2.2.1 l3 r2.2.2.2)) else ((impl_in.f k a1_1 0 (w64 ((l0_2.length : Int) - 1))).bind fun r4 => (cond (!r4) (some (0, 0, [], 0, false)) ((chk l0_2.length a1_1).bind fun i5 => ((impl_Shop_canChange.f k a0_0 a0_1 l0_2 a0_3 a1_0 a1_1 a1_2 ((l0_2.getD i5 (0, 0, 0, 0, 0)).1) (((l0_2.getD i5 (0, 0, 0, 0, 0)).2).1) ((((l0_2.getD i5 (0, 0, 0, 0, 0)).2).2).1) (((((l0_2.getD i5 (0, 0, 0, 0, 0)).2).2).2).1) (((((l0_2.getD i5 (0, 0, 0, 0, 0)).2).2).2).2)).bind fun r6 => (cond (!r6) (some (0, 0, [], 0, false)) ((impl_Shop_change.f k r2.1 r2.2.1 r2.2.2.1 r2.2.2.2 a1_0 a1_1 a1_2).bind fun r7 => (o5 0 0 [] 0 r7.1 r7.2.1 r7.2.2.1 r7.2.2.2))))))))))))
def f (k : Nat) (a0_0 a0_1 : Int) (l0_2 : List (Int × Int × Int × Int × Int)) (a0_3 a1_0 a1_1 a1_2 : Int) : Option (Int × Int × List (Int × Int × Int × Int × Int) × Int × Bool) := m (impl_Shop_step.l5 k) k a0_0 a0_1 l0_2 a0_3 a1_0 a1_1 a1_2
noncomputable def spec (k : Nat) : FnSpec := ⟨[.ag [.d (.int .i64) none, .d (.int .i64) none, .d (.sl (.pair (.int .i64) (.pair (.int .i64) (.pair (.int .i64) (.pair (.int .i64) (.int .i64)))))) none, .d (.int .i64) none], .ag [.d (.int .i64) none, .d (.int .i64) none, .d (.int .i64) none]], [.ag [.d (.int .i64) none, .d (.int .i64) none, .d (.sl (.pair (.int .i64) (.pair (.int .i64) (.pair (.int .i64) (.pair (.int .i64) (.int .i64)))))) (some 108), .d (.int .i64) none], .d .bool none], fun x => f k x.1 x.2.1 x.2.2.1 x.2.2.2.1 x.2.2.2.2.1 x.2.2.2.2.2.1 x.2.2.2.2.2.2⟩
def S5 (x0_5 x1_5 : Int) (l2_5 : List (Int × Int × Int × Int × Int)) (x3_5 x4_5 x5_5 : Int) (l6_5 : List (Int × Int × Int × Int × Int)) (x7_5 : Int) : St := ⟨[(4, .ptr 100 0), (6, .ptr 101 0)], [(101, some (.box [.val (.int .i64) x4_5, .val (.int .i64) x5_5, .ref 102, .val (.int .i64) x7_5])), (102, some (.row 108 (.pair (.int .i64) (.pair (.int .i64) (.pair (.int .i64) (.pair (.int .i64) (.int .i64))))) l6_5)), (100, some (.box [.val (.int .i64) x0_5, .val (.int .i64) x1_5, .val (.sl (.pair (.int .i64) (.pair (.int .i64) (.pair (.int .i64) (.pair (.int .i64) (.int .i64)))))) l2_5, .val (.int .i64) x3_5]))], 1000⟩
noncomputable def T : FnText := ⟨(conv [5] (bodyOf Tryz.f98) 0).1, Tryz.f98.results.toList, 63, [(5, [(4, .bx 100 [.rd (.int .i64), .rd (.int .i64), .rd (.sl (.pair (.int .i64) (.pair (.int .i64) (.pair (.int .i64) (.pair (.int .i64) (.int .i64)))))), .rd (.int .i64)]), (6, .bx 101 [.rd (.int .i64), .rd (.int .i64), .own 108 (.pair (.int .i64) (.pair (.int .i64) (.pair (.int .i64) (.pair (.int .i64) (.int .i64))))) 102, .rd (.int .i64)])])], [.ag [.d (.int .i64) none, .d (.int .i64) none, .d (.sl (.pair (.int .i64) (.pair (.int .i64) (.pair (.int .i64) (.pair (.int .i64) (.int .i64)))))) none, .d (.int .i64) none], .ag [.d (.int .i64) none, .d (.int .i64) none, .d (.int .i64) none]], [.ag [.d (.int .i64) none, .d (.int .i64) none, .d (.sl (.pair (.int .i64) (.pair (.int .i64) (.pair (.int .i64) (.pair (.int .i64) (.int .i64)))))) (some 108), .d (.int .i64) none], .d .bool none]⟩
noncomputable def tbl (k : Nat) : Tbl := [(138, impl_ShopStep_isValid.spec k), (93, impl_Shop_copied.spec k), (79, impl_in.spec k), (139, impl_Shop_canChange.spec k), (140, impl_Shop_change.spec k), (63, impl_IsShop.spec k)]
theorem e5 (k : Nat) (o : Nat → St → Option (Int × Int × List (Int × Int × Int × Int × Int) × Int × Bool)) (x0_5 x1_5 : Int) (l2_5 : List (Int × Int × Int × Int × Int)) (x3_5 x4_5 x5_5 : Int) (l6_5 : List (Int × Int × Int × Int × Int)) (x7_5 : Int) : T.step tyt (tbl k) o 5 (S5 x0_5 x1_5 l2_5 x3_5 x4_5 x5_5 l6_5 x7_5) = b5 k x0_5 x1_5 l2_5 x3_5 x4_5 x5_5 l6_5 x7_5 := by kernel_rfl
theorem e (k : Nat) (o : Nat → St → Option (Int × Int × List (Int × Int × Int × Int × Int) × Int × Bool)) (a0_0 a0_1 : Int) (l0_2 : List (Int × Int × Int × Int × Int)) (a0_3 a1_0 a1_1 a1_2 : Int) : T.main tyt (tbl k) o (a0_0, a0_1, l0_2, a0_3, a1_0, a1_1, a1_2) = m (fun x0_5 x1_5 l2_5 x3_5 x4_5 x5_5 l6_5 x7_5 => o 5 (S5 x0_5 x1_5 l2_5 x3_5 x4_5 x5_5 l6_5 x7_5)) k a0_0 a0_1 l0_2 a0_3 a1_0 a1_1 a1_2 := by kernel_rfl
theorem ok : T.ok = true := by kernel_rfl
theorem run (k : Nat) : (∀ (x0_5 x1_5 : Int) (l2_5 : List (Int × Int × Int × Int × Int)) (x3_5 x4_5 x5_5 : Int) (l6_5 : List (Int × Int × Int × Int × Int)) (x7_5 : Int), T.run tyt tbl k 5 (S5 x0_5 x1_5 l2_5 x3_5 x4_5 x5_5 l6_5 x7_5) = impl_Shop_step.l5 k x0_5 x1_5 l2_5 x3_5 x4_5 x5_5 l6_5 x7_5) := by
  induction k with
  | zero => exact fun x0_5 x1_5 l2_5 x3_5 x4_5 x5_5 l6_5 x7_5 => rfl
  | succ k ih =>
    exact fun x0_5 x1_5 l2_5 x3_5 x4_5 x5_5 l6_5 x7_5 => by
      exact (e5 k (T.run tyt tbl k) x0_5 x1_5 l2_5 x3_5 x4_5 x5_5 l6_5 x7_5).trans (by rfl)
theorem tblok (k : Nat) : TblOk Tryz.prog (tbl k) := TblOk.cons (impl_ShopStep_isValid.sound k) (TblOk.cons (impl_Shop_copied.sound k) (TblOk.cons (impl_in.sound k) (TblOk.cons (impl_Shop_canChange.sound k) (TblOk.cons (impl_Shop_change.sound k) (TblOk.cons (impl_IsShop.sound k) (TblOk.nil _))))))
theorem sound (k : Nat) : Sound Tryz.prog 98 (spec k) := by
  have h := fn_ok (F := T) (tbl := tbl) mixed tyok Tryz.func98 (by kernel_rfl) (c0 := bodyOf Tryz.f98) rfl (conv_code _ _ _) rfl rfl ok k (fun j _ => tblok j)
  have q5 : (fun x0_5 x1_5 l2_5 x3_5 x4_5 x5_5 l6_5 x7_5 => T.run tyt tbl k 5 (S5 x0_5 x1_5 l2_5 x3_5 x4_5 x5_5 l6_5 x7_5)) = impl_Shop_step.l5 k := by funext x0_5 x1_5 l2_5 x3_5 x4_5 x5_5 l6_5 x7_5; exact (run k) x0_5 x1_5 l2_5 x3_5 x4_5 x5_5 l6_5 x7_5
  have e : spec k = ⟨T.ps, T.rs, T.ev tyt tbl k⟩ := congrArg (FnSpec.mk _ _) (funext fun x => ((e k (T.run tyt tbl k) x.1 x.2.1 x.2.2.1 x.2.2.2.1 x.2.2.2.2.1 x.2.2.2.2.2.1 x.2.2.2.2.2.2).trans (by rw [q5]; rfl)).symm)
  rw [e]
  exact h
end impl_Shop_step

namespace impl_CarpetText
/-! ### impl_CarpetText: function 69 -/
def b6 (k : Nat) (x0_6 x1_6 x2_6 x3_6 x4_6 : Int) (x5_6 : ByteArray) : Option (ByteArray × Bool) := (if 0 < x3_6 then ((impl_decimal.f k x3_6).bind fun r34 => ((catS (⟨#[32, 111, 110, 32]⟩ : ByteArray) r34).bind fun s35 => ((catS x5_6 s35).bind fun s36 => (some (s36, true))))) else (some (x5_6, true)))
def l6 : Nat → Int → Int → Int → Int → Int → ByteArray → Option (ByteArray × Bool)
  | 0, _, _, _, _, _, _ => none
  | k + 1, x0_6, x1_6, x2_6, x3_6, x4_6, x5_6 => b6 k x0_6 x1_6 x2_6 x3_6 x4_6 x5_6
def m (o6 : Int → Int → Int → Int → Int → ByteArray → Option (ByteArray × Bool)) (k : Nat) (a0_0 a0_1 : Int) (l0_2 : List (Int × Int × Int × Int × Int)) (a0_3 a1 : Int) : Option (ByteArray × Bool) := ((impl_IsShop.f k a0_0 a0_1 l0_2 a0_3).bind fun r1 => (cond (!r1) (some ((⟨#[]⟩ : ByteArray), false)) ((impl_in.f k a1 0 (w64 ((l0_2.length : Int) - 1))).bind fun r2 => (cond (!r2) (some ((⟨#[]⟩ : ByteArray), false)) ((chk l0_2.length a1).bind fun i3 => (if ((((l0_2.getD i3 (0, 0, 0, 0, 0)).2).2).1) = 4 then ((catS (⟨#[115, 111, 108, 100]⟩ : ByteArray) (⟨#[32]⟩ : ByteArray)).bind fun s28 => ((impl_decimal.f k (((l0_2.getD i3 (0, 0, 0, 0, 0)).2).1)).bind fun r29 => ((catS s28 r29).bind fun s30 => ((catS s30 (⟨#[47]⟩ : ByteArray)).bind fun s31 => ((impl_decimal.f k ((l0_2.getD i3 (0, 0, 0, 0, 0)).1)).bind fun r32 => ((catS s31 r32).bind fun s33 => (o6 ((l0_2.getD i3 (0, 0, 0, 0, 0)).1) (((l0_2.getD i3 (0, 0, 0, 0, 0)).2).1) ((((l0_2.getD i3 (0, 0, 0, 0, 0)).2).2).1) (((((l0_2.getD i3 (0, 0, 0, 0, 0)).2).2).2).1) (((((l0_2.getD i3 (0, 0, 0, 0, 0)).2).2).2).2) s33))))))) else (if ((((l0_2.getD i3 (0, 0, 0, 0, 0)).2).2).1) = 3 then ((catS (⟨#[119, 97, 115, 104, 101, 100]⟩ : ByteArray) (⟨#[32]⟩ : ByteArray)).bind fun s22 => ((impl_decimal.f k (((l0_2.getD i3 (0, 0, 0, 0, 0)).2).1)).bind fun r23 => ((catS s22 r23).bind fun s24 => ((catS s24 (⟨#[47]⟩ : ByteArray)).bind fun s25 => ((impl_decimal.f k ((l0_2.getD i3 (0, 0, 0, 0, 0)).1)).bind fun r26 => ((catS s25 r26).bind fun s27 => (o6 ((l0_2.getD i3 (0, 0, 0, 0, 0)).1) (((l0_2.getD i3 (0, 0, 0, 0, 0)).2).1) ((((l0_2.getD i3 (0, 0, 0, 0, 0)).2).2).1) (((((l0_2.getD i3 (0, 0, 0, 0, 0)).2).2).2).1) (((((l0_2.getD i3 (0, 0, 0, 0, 0)).2).2).2).2) s27))))))) else (if ((((l0_2.getD i3 (0, 0, 0, 0, 0)).2).2).1) = 2 then ((catS (⟨#[111, 102, 102]⟩ : ByteArray) (⟨#[32]⟩ : ByteArray)).bind fun s16 => ((impl_decimal.f k (((l0_2.getD i3 (0, 0, 0, 0, 0)).2).1)).bind fun r17 => ((catS s16 r17).bind fun s18 => ((catS s18 (⟨#[47]⟩ : ByteArray)).bind fun s19 => ((impl_decimal.f k ((l0_2.getD i3 (0, 0, 0, 0, 0)).1)).bind fun r20 => ((catS s19 r20).bind fun s21 => (o6 ((l0_2.getD i3 (0, 0, 0, 0, 0)).1) (((l0_2.getD i3 (0, 0, 0, 0, 0)).2).1) ((((l0_2.getD i3 (0, 0, 0, 0, 0)).2).2).1) (((((l0_2.getD i3 (0, 0, 0, 0, 0)).2).2).2).1) (((((l0_2.getD i3 (0, 0, 0, 0, 0)).2).2).2).2) s21))))))) else (if ((((l0_2.getD i3 (0, 0, 0, 0, 0)).2).2).1) = 1 then ((catS (⟨#[119, 111, 118, 101, 110]⟩ : ByteArray) (⟨#[32]⟩ : ByteArray)).bind fun s10 => ((impl_decimal.f k (((l0_2.getD i3 (0, 0, 0, 0, 0)).2).1)).bind fun r11 => ((catS s10 r11).bind fun s12 => ((catS s12 (⟨#[47]⟩ : ByteArray)).bind fun s13 => ((impl_decimal.f k ((l0_2.getD i3 (0, 0, 0, 0, 0)).1)).bind fun r14 => ((catS s13 r14).bind fun s15 => (o6 ((l0_2.getD i3 (0, 0, 0, 0, 0)).1) (((l0_2.getD i3 (0, 0, 0, 0, 0)).2).1) ((((l0_2.getD i3 (0, 0, 0, 0, 0)).2).2).1) (((((l0_2.getD i3 (0, 0, 0, 0, 0)).2).2).2).1) (((((l0_2.getD i3 (0, 0, 0, 0, 0)).2).2).2).2) s15))))))) else (if ((((l0_2.getD i3 (0, 0, 0, 0, 0)).2).2).1) = 0 then ((catS (⟨#[119, 97, 105, 116, 115]⟩ : ByteArray) (⟨#[32]⟩ : ByteArray)).bind fun s4 => ((impl_decimal.f k (((l0_2.getD i3 (0, 0, 0, 0, 0)).2).1)).bind fun r5 => ((catS s4 r5).bind fun s6 => ((catS s6 (⟨#[47]⟩ : ByteArray)).bind fun s7 => ((impl_decimal.f k ((l0_2.getD i3 (0, 0, 0, 0, 0)).1)).bind fun r8 => ((catS s7 r8).bind fun s9 => (o6 ((l0_2.getD i3 (0, 0, 0, 0, 0)).1) (((l0_2.getD i3 (0, 0, 0, 0, 0)).2).1) ((((l0_2.getD i3 (0, 0, 0, 0, 0)).2).2).1) (((((l0_2.getD i3 (0, 0, 0, 0, 0)).2).2).2).1) (((((l0_2.getD i3 (0, 0, 0, 0, 0)).2).2).2).2) s9))))))) else none))))))))))
def f (k : Nat) (a0_0 a0_1 : Int) (l0_2 : List (Int × Int × Int × Int × Int)) (a0_3 a1 : Int) : Option (ByteArray × Bool) := m (impl_CarpetText.l6 k) k a0_0 a0_1 l0_2 a0_3 a1
noncomputable def spec (k : Nat) : FnSpec := ⟨[.ag [.d (.int .i64) none, .d (.int .i64) none, .d (.sl (.pair (.int .i64) (.pair (.int .i64) (.pair (.int .i64) (.pair (.int .i64) (.int .i64)))))) none, .d (.int .i64) none], .d (.int .i64) none], [.d .str none, .d .bool none], fun x => f k x.1 x.2.1 x.2.2.1 x.2.2.2.1 x.2.2.2.2⟩
def S6 (x0_6 x1_6 x2_6 x3_6 x4_6 : Int) (x5_6 : ByteArray) : St := ⟨[(6, .ptr 100 0), (8, .val .str x5_6)], [(100, some (.box [.val (.int .i64) x0_6, .val (.int .i64) x1_6, .val (.int .i64) x2_6, .val (.int .i64) x3_6, .val (.int .i64) x4_6]))], 1000⟩
noncomputable def T : FnText := ⟨(conv [6] (bodyOf Tryz.f69) 0).1, Tryz.f69.results.toList, 51, [(6, [(6, .bx 100 [.rd (.int .i64), .rd (.int .i64), .rd (.int .i64), .rd (.int .i64), .rd (.int .i64)]), (8, .rd .str)])], [.ag [.d (.int .i64) none, .d (.int .i64) none, .d (.sl (.pair (.int .i64) (.pair (.int .i64) (.pair (.int .i64) (.pair (.int .i64) (.int .i64)))))) none, .d (.int .i64) none], .d (.int .i64) none], [.d .str none, .d .bool none]⟩
noncomputable def tbl (k : Nat) : Tbl := [(63, impl_IsShop.spec k), (79, impl_in.spec k), (71, impl_decimal.spec k)]
theorem e6 (k : Nat) (o : Nat → St → Option (ByteArray × Bool)) (x0_6 x1_6 x2_6 x3_6 x4_6 : Int) (x5_6 : ByteArray) : T.step tyt (tbl k) o 6 (S6 x0_6 x1_6 x2_6 x3_6 x4_6 x5_6) = b6 k x0_6 x1_6 x2_6 x3_6 x4_6 x5_6 := by kernel_rfl
theorem e (k : Nat) (o : Nat → St → Option (ByteArray × Bool)) (a0_0 a0_1 : Int) (l0_2 : List (Int × Int × Int × Int × Int)) (a0_3 a1 : Int) : T.main tyt (tbl k) o (a0_0, a0_1, l0_2, a0_3, a1) = m (fun x0_6 x1_6 x2_6 x3_6 x4_6 x5_6 => o 6 (S6 x0_6 x1_6 x2_6 x3_6 x4_6 x5_6)) k a0_0 a0_1 l0_2 a0_3 a1 := by kernel_rfl
theorem ok : T.ok = true := by kernel_rfl
theorem run (k : Nat) : (∀ (x0_6 x1_6 x2_6 x3_6 x4_6 : Int) (x5_6 : ByteArray), T.run tyt tbl k 6 (S6 x0_6 x1_6 x2_6 x3_6 x4_6 x5_6) = impl_CarpetText.l6 k x0_6 x1_6 x2_6 x3_6 x4_6 x5_6) := by
  induction k with
  | zero => exact fun x0_6 x1_6 x2_6 x3_6 x4_6 x5_6 => rfl
  | succ k ih =>
    exact fun x0_6 x1_6 x2_6 x3_6 x4_6 x5_6 => by
      exact (e6 k (T.run tyt tbl k) x0_6 x1_6 x2_6 x3_6 x4_6 x5_6).trans (by rfl)
theorem tblok (k : Nat) : TblOk Tryz.prog (tbl k) := TblOk.cons (impl_IsShop.sound k) (TblOk.cons (impl_in.sound k) (TblOk.cons (impl_decimal.sound k) (TblOk.nil _)))
theorem sound (k : Nat) : Sound Tryz.prog 69 (spec k) := by
  have h := fn_ok (F := T) (tbl := tbl) mixed tyok Tryz.func69 (by kernel_rfl) (c0 := bodyOf Tryz.f69) rfl (conv_code _ _ _) rfl rfl ok k (fun j _ => tblok j)
  have q6 : (fun x0_6 x1_6 x2_6 x3_6 x4_6 x5_6 => T.run tyt tbl k 6 (S6 x0_6 x1_6 x2_6 x3_6 x4_6 x5_6)) = impl_CarpetText.l6 k := by funext x0_6 x1_6 x2_6 x3_6 x4_6 x5_6; exact (run k) x0_6 x1_6 x2_6 x3_6 x4_6 x5_6
  have e : spec k = ⟨T.ps, T.rs, T.ev tyt tbl k⟩ := congrArg (FnSpec.mk _ _) (funext fun x => ((e k (T.run tyt tbl k) x.1 x.2.1 x.2.2.1 x.2.2.2.1 x.2.2.2.2).trans (by rw [q6]; rfl)).symm)
  rw [e]
  exact h
end impl_CarpetText

namespace impl_Shop_stepReply
/-! ### impl_Shop_stepReply: function 99 -/
def m (k : Nat) (a0_0 a0_1 : Int) (l0_2 : List (Int × Int × Int × Int × Int)) (a0_3 a1_0 a1_1 a1_2 : Int) : Option (ByteArray) := (if a1_0 = 1 then ((impl_decimal.f k a0_0).bind fun r1 => (some r1)) else (if a1_0 = 2 then ((impl_decimal.f k (w64 ((l0_2.length : Int) - 1))).bind fun r2 => (some r2)) else (if a1_0 = 7 then ((impl_decimal.f k a0_3).bind fun r3 => (some r3)) else ((impl_CarpetText.f k a0_0 a0_1 l0_2 a0_3 a1_1).bind fun r4 => (some r4.1)))))
def f (k : Nat) (a0_0 a0_1 : Int) (l0_2 : List (Int × Int × Int × Int × Int)) (a0_3 a1_0 a1_1 a1_2 : Int) : Option (ByteArray) := m k a0_0 a0_1 l0_2 a0_3 a1_0 a1_1 a1_2
noncomputable def spec (k : Nat) : FnSpec := ⟨[.ag [.d (.int .i64) none, .d (.int .i64) none, .d (.sl (.pair (.int .i64) (.pair (.int .i64) (.pair (.int .i64) (.pair (.int .i64) (.int .i64)))))) none, .d (.int .i64) none], .ag [.d (.int .i64) none, .d (.int .i64) none, .d (.int .i64) none]], [.d .str none], fun x => f k x.1 x.2.1 x.2.2.1 x.2.2.2.1 x.2.2.2.2.1 x.2.2.2.2.2.1 x.2.2.2.2.2.2⟩
noncomputable def T : FnText := ⟨(conv [] (bodyOf Tryz.f99) 0).1, Tryz.f99.results.toList, 34, [], [.ag [.d (.int .i64) none, .d (.int .i64) none, .d (.sl (.pair (.int .i64) (.pair (.int .i64) (.pair (.int .i64) (.pair (.int .i64) (.int .i64)))))) none, .d (.int .i64) none], .ag [.d (.int .i64) none, .d (.int .i64) none, .d (.int .i64) none]], [.d .str none]⟩
noncomputable def tbl (k : Nat) : Tbl := [(71, impl_decimal.spec k), (69, impl_CarpetText.spec k)]
theorem e (k : Nat) (o : Nat → St → Option (ByteArray)) (a0_0 a0_1 : Int) (l0_2 : List (Int × Int × Int × Int × Int)) (a0_3 a1_0 a1_1 a1_2 : Int) : T.main tyt (tbl k) o (a0_0, a0_1, l0_2, a0_3, a1_0, a1_1, a1_2) = m k a0_0 a0_1 l0_2 a0_3 a1_0 a1_1 a1_2 := by kernel_rfl
theorem ok : T.ok = true := by kernel_rfl
theorem tblok (k : Nat) : TblOk Tryz.prog (tbl k) := TblOk.cons (impl_decimal.sound k) (TblOk.cons (impl_CarpetText.sound k) (TblOk.nil _))
theorem sound (k : Nat) : Sound Tryz.prog 99 (spec k) := by
  have h := fn_ok (F := T) (tbl := tbl) mixed tyok Tryz.func99 (by kernel_rfl) (c0 := bodyOf Tryz.f99) rfl (conv_code _ _ _) rfl rfl ok k (fun j _ => tblok j)
  have e : spec k = ⟨T.ps, T.rs, T.ev tyt tbl k⟩ := congrArg (FnSpec.mk _ _) (funext fun x => ((e k (T.run tyt tbl k) x.1 x.2.1 x.2.2.1 x.2.2.2.1 x.2.2.2.2.1 x.2.2.2.2.2.1 x.2.2.2.2.2.2).trans (by rfl)).symm)
  rw [e]
  exact h
end impl_Shop_stepReply

namespace impl_FreeLooms
/-! ### impl_FreeLooms: function 141 -/
def b7 (o7 : Int → Int → (List (Int × Int × Int × Int × Int)) → Int → List Int → Int → Option (List Int × Bool)) (k : Nat) (x0_7 x1_7 : Int) (l2_7 : List (Int × Int × Int × Int × Int)) (x3_7 : Int) (l4_7 : List Int) (x5_7 : Int) : Option (List Int × Bool) := (if x5_7 ≤ x1_7 then ((impl_Shop_onLoom.f k x0_7 x1_7 l2_7 x3_7 x5_7).bind fun r2 => (if r2 < 0 then ((app 17592186044416 l4_7 [x5_7]).bind fun l3 => (o7 x0_7 x1_7 l2_7 x3_7 l3 (w64 (x5_7 + 1)))) else (o7 x0_7 x1_7 l2_7 x3_7 l4_7 (w64 (x5_7 + 1))))) else (some (l4_7, true)))
def l7 : Nat → Int → Int → (List (Int × Int × Int × Int × Int)) → Int → List Int → Int → Option (List Int × Bool)
  | 0, _, _, _, _, _, _ => none
  | k + 1, x0_7, x1_7, l2_7, x3_7, l4_7, x5_7 => b7 (impl_FreeLooms.l7 k) k x0_7 x1_7 l2_7 x3_7 l4_7 x5_7
def m (o7 : Int → Int → (List (Int × Int × Int × Int × Int)) → Int → List Int → Int → Option (List Int × Bool)) (k : Nat) (a0_0 a0_1 : Int) (l0_2 : List (Int × Int × Int × Int × Int)) (a0_3 : Int) : Option (List Int × Bool) := ((impl_IsShop.f k a0_0 a0_1 l0_2 a0_3).bind fun r1 => (cond (!r1) (some ([], false)) (o7 a0_0 a0_1 l0_2 a0_3 ([] : List (Int)) 1)))
def f (k : Nat) (a0_0 a0_1 : Int) (l0_2 : List (Int × Int × Int × Int × Int)) (a0_3 : Int) : Option (List Int × Bool) := m (impl_FreeLooms.l7 k) k a0_0 a0_1 l0_2 a0_3
noncomputable def spec (k : Nat) : FnSpec := ⟨[.ag [.d (.int .i64) none, .d (.int .i64) none, .d (.sl (.pair (.int .i64) (.pair (.int .i64) (.pair (.int .i64) (.pair (.int .i64) (.int .i64)))))) none, .d (.int .i64) none]], [.d (.sl (.int .i64)) (some 3), .d .bool none], fun x => f k x.1 x.2.1 x.2.2.1 x.2.2.2⟩
def S7 (x0_7 x1_7 : Int) (l2_7 : List (Int × Int × Int × Int × Int)) (x3_7 : Int) (l4_7 : List Int) (x5_7 : Int) : St := ⟨[(1, .ptr 100 0), (4, .ref 101), (5, .val (.int .i64) x5_7)], [(101, some (.row 3 (.int .i64) l4_7)), (100, some (.box [.val (.int .i64) x0_7, .val (.int .i64) x1_7, .val (.sl (.pair (.int .i64) (.pair (.int .i64) (.pair (.int .i64) (.pair (.int .i64) (.int .i64)))))) l2_7, .val (.int .i64) x3_7]))], 1000⟩
noncomputable def T : FnText := ⟨(conv [] (bodyOf Tryz.f141) 0).1, Tryz.f141.results.toList, 25, [(7, [(1, .bx 100 [.rd (.int .i64), .rd (.int .i64), .rd (.sl (.pair (.int .i64) (.pair (.int .i64) (.pair (.int .i64) (.pair (.int .i64) (.int .i64)))))), .rd (.int .i64)]), (4, .own 3 (.int .i64) 101), (5, .rd (.int .i64))])], [.ag [.d (.int .i64) none, .d (.int .i64) none, .d (.sl (.pair (.int .i64) (.pair (.int .i64) (.pair (.int .i64) (.pair (.int .i64) (.int .i64)))))) none, .d (.int .i64) none]], [.d (.sl (.int .i64)) (some 3), .d .bool none]⟩
noncomputable def tbl (k : Nat) : Tbl := [(63, impl_IsShop.spec k), (114, impl_Shop_onLoom.spec k)]
theorem e7 (k : Nat) (o : Nat → St → Option (List Int × Bool)) (x0_7 x1_7 : Int) (l2_7 : List (Int × Int × Int × Int × Int)) (x3_7 : Int) (l4_7 : List Int) (x5_7 : Int) : T.step tyt (tbl k) o 7 (S7 x0_7 x1_7 l2_7 x3_7 l4_7 x5_7) = b7 (fun x0_7 x1_7 l2_7 x3_7 l4_7 x5_7 => o 7 (S7 x0_7 x1_7 l2_7 x3_7 l4_7 x5_7)) k x0_7 x1_7 l2_7 x3_7 l4_7 x5_7 := by kernel_rfl
theorem e (k : Nat) (o : Nat → St → Option (List Int × Bool)) (a0_0 a0_1 : Int) (l0_2 : List (Int × Int × Int × Int × Int)) (a0_3 : Int) : T.main tyt (tbl k) o (a0_0, a0_1, l0_2, a0_3) = m (fun x0_7 x1_7 l2_7 x3_7 l4_7 x5_7 => o 7 (S7 x0_7 x1_7 l2_7 x3_7 l4_7 x5_7)) k a0_0 a0_1 l0_2 a0_3 := by kernel_rfl
theorem ok : T.ok = true := by kernel_rfl
theorem run (k : Nat) : (∀ (x0_7 x1_7 : Int) (l2_7 : List (Int × Int × Int × Int × Int)) (x3_7 : Int) (l4_7 : List Int) (x5_7 : Int), T.run tyt tbl k 7 (S7 x0_7 x1_7 l2_7 x3_7 l4_7 x5_7) = impl_FreeLooms.l7 k x0_7 x1_7 l2_7 x3_7 l4_7 x5_7) := by
  induction k with
  | zero => exact fun x0_7 x1_7 l2_7 x3_7 l4_7 x5_7 => rfl
  | succ k ih =>
    exact fun x0_7 x1_7 l2_7 x3_7 l4_7 x5_7 => by
      have q7 : (fun x0_7 x1_7 l2_7 x3_7 l4_7 x5_7 => T.run tyt tbl k 7 (S7 x0_7 x1_7 l2_7 x3_7 l4_7 x5_7)) = impl_FreeLooms.l7 k := by funext x0_7 x1_7 l2_7 x3_7 l4_7 x5_7; exact ih x0_7 x1_7 l2_7 x3_7 l4_7 x5_7
      exact (e7 k (T.run tyt tbl k) x0_7 x1_7 l2_7 x3_7 l4_7 x5_7).trans (by rw [q7]; rfl)
theorem tblok (k : Nat) : TblOk Tryz.prog (tbl k) := TblOk.cons (impl_IsShop.sound k) (TblOk.cons (impl_Shop_onLoom.sound k) (TblOk.nil _))
theorem sound (k : Nat) : Sound Tryz.prog 141 (spec k) := by
  have h := fn_ok (F := T) (tbl := tbl) mixed tyok Tryz.func141 (by kernel_rfl) (c0 := bodyOf Tryz.f141) rfl (conv_code _ _ _) rfl rfl ok k (fun j _ => tblok j)
  have q7 : (fun x0_7 x1_7 l2_7 x3_7 l4_7 x5_7 => T.run tyt tbl k 7 (S7 x0_7 x1_7 l2_7 x3_7 l4_7 x5_7)) = impl_FreeLooms.l7 k := by funext x0_7 x1_7 l2_7 x3_7 l4_7 x5_7; exact (run k) x0_7 x1_7 l2_7 x3_7 l4_7 x5_7
  have e : spec k = ⟨T.ps, T.rs, T.ev tyt tbl k⟩ := congrArg (FnSpec.mk _ _) (funext fun x => ((e k (T.run tyt tbl k) x.1 x.2.1 x.2.2.1 x.2.2.2).trans (by rw [q7]; rfl)).symm)
  rw [e]
  exact h
end impl_FreeLooms

/-! ### strings_Join: function 166, by its contract -/
def strings_Join.f (k : Nat) (a0 : List ByteArray) (a1 : ByteArray) : Option (ByteArray) := joinF a0 a1
noncomputable def strings_Join.spec (k : Nat) : FnSpec := ⟨[.d (.sl .str) none, .d .str none], [.d .str none], fun x => strings_Join.f k x.1 x.2⟩
theorem strings_Join.sound (k : Nat) : Sound Go.Proofs.Tryz.prog 166 (strings_Join.spec k) := strJoin_ok

namespace impl_listText
/-! ### impl_listText: function 142 -/
def b7 (o7 : List ByteArray → List Int → Int → Int → Option (ByteArray)) (k : Nat) (l0_7 : List ByteArray) (l1_7 : List Int) (x2_7 x3_7 : Int) : Option (ByteArray) := (if x3_7 < x2_7 then ((chk l1_7.length x3_7).bind fun i1 => ((impl_decimal.f k (l1_7.getD i1 0)).bind fun r2 => ((app 8796093022208 l0_7 [r2]).bind fun l3 => (o7 l3 l1_7 x2_7 (w64 (x3_7 + 1)))))) else ((strings_Join.f k l0_7 (⟨#[32]⟩ : ByteArray)).bind fun r4 => (some r4)))
def l7 : Nat → List ByteArray → List Int → Int → Int → Option (ByteArray)
  | 0, _, _, _, _ => none
  | k + 1, l0_7, l1_7, x2_7, x3_7 => b7 (impl_listText.l7 k) k l0_7 l1_7 x2_7 x3_7
def m (o7 : List ByteArray → List Int → Int → Int → Option (ByteArray)) (k : Nat) (l0 : List Int) : Option (ByteArray) := (if (l0.length : Int) = 0 then (some (⟨#[110, 111, 110, 101]⟩ : ByteArray)) else (o7 ([] : List (ByteArray)) l0 (l0.length : Int) 0))
def f (k : Nat) (l0 : List Int) : Option (ByteArray) := m (impl_listText.l7 k) k l0
noncomputable def spec (k : Nat) : FnSpec := ⟨[.d (.sl (.int .i64)) none], [.d .str none], fun x => f k x⟩
def S7 (l0_7 : List ByteArray) (l1_7 : List Int) (x2_7 x3_7 : Int) : St := ⟨[(3, .ref 100), (10, .val (.sl (.int .i64)) l1_7), (11, .val (.int .i64) x2_7), (12, .val (.int .i64) x3_7)], [(100, some (.row 9 .str l0_7))], 1000⟩
noncomputable def T : FnText := ⟨(conv [] (bodyOf Tryz.f142) 0).1, Tryz.f142.results.toList, 24, [(7, [(3, .own 9 .str 100), (10, .rd (.sl (.int .i64))), (11, .rd (.int .i64)), (12, .rd (.int .i64))])], [.d (.sl (.int .i64)) none], [.d .str none]⟩
noncomputable def tbl (k : Nat) : Tbl := [(71, impl_decimal.spec k), (166, strings_Join.spec k)]
theorem e7 (k : Nat) (o : Nat → St → Option (ByteArray)) (l0_7 : List ByteArray) (l1_7 : List Int) (x2_7 x3_7 : Int) : T.step tyt (tbl k) o 7 (S7 l0_7 l1_7 x2_7 x3_7) = b7 (fun l0_7 l1_7 x2_7 x3_7 => o 7 (S7 l0_7 l1_7 x2_7 x3_7)) k l0_7 l1_7 x2_7 x3_7 := by kernel_rfl
theorem e (k : Nat) (o : Nat → St → Option (ByteArray)) (l0 : List Int) : T.main tyt (tbl k) o l0 = m (fun l0_7 l1_7 x2_7 x3_7 => o 7 (S7 l0_7 l1_7 x2_7 x3_7)) k l0 := by kernel_rfl
theorem ok : T.ok = true := by kernel_rfl
theorem run (k : Nat) : (∀ (l0_7 : List ByteArray) (l1_7 : List Int) (x2_7 x3_7 : Int), T.run tyt tbl k 7 (S7 l0_7 l1_7 x2_7 x3_7) = impl_listText.l7 k l0_7 l1_7 x2_7 x3_7) := by
  induction k with
  | zero => exact fun l0_7 l1_7 x2_7 x3_7 => rfl
  | succ k ih =>
    exact fun l0_7 l1_7 x2_7 x3_7 => by
      have q7 : (fun l0_7 l1_7 x2_7 x3_7 => T.run tyt tbl k 7 (S7 l0_7 l1_7 x2_7 x3_7)) = impl_listText.l7 k := by funext l0_7 l1_7 x2_7 x3_7; exact ih l0_7 l1_7 x2_7 x3_7
      exact (e7 k (T.run tyt tbl k) l0_7 l1_7 x2_7 x3_7).trans (by rw [q7]; rfl)
theorem tblok (k : Nat) : TblOk Tryz.prog (tbl k) := TblOk.cons (impl_decimal.sound k) (TblOk.cons (strings_Join.sound k) (TblOk.nil _))
theorem sound (k : Nat) : Sound Tryz.prog 142 (spec k) := by
  have h := fn_ok (F := T) (tbl := tbl) mixed tyok Tryz.func142 (by kernel_rfl) (c0 := bodyOf Tryz.f142) rfl (conv_code _ _ _) rfl rfl ok k (fun j _ => tblok j)
  have q7 : (fun l0_7 l1_7 x2_7 x3_7 => T.run tyt tbl k 7 (S7 l0_7 l1_7 x2_7 x3_7)) = impl_listText.l7 k := by funext l0_7 l1_7 x2_7 x3_7; exact (run k) l0_7 l1_7 x2_7 x3_7
  have e : spec k = ⟨T.ps, T.rs, T.ev tyt tbl k⟩ := congrArg (FnSpec.mk _ _) (funext fun x => ((e k (T.run tyt tbl k) x).trans (by rw [q7]; rfl)).symm)
  rw [e]
  exact h
end impl_listText

namespace impl_RowsLeft
/-! ### impl_RowsLeft: function 143 -/
def b7 (o7 : Int → (List (Int × Int × Int × Int × Int)) → Int → Int → Option (Int × Bool)) (k : Nat) (x0_7 : Int) (l1_7 : List (Int × Int × Int × Int × Int)) (x2_7 x3_7 : Int) : Option (Int × Bool) := (if x3_7 < x2_7 then ((chk l1_7.length x3_7).bind fun i2 => (o7 (w64 (x0_7 + (w64 (((l1_7.getD i2 (0, 0, 0, 0, 0)).1) - (((l1_7.getD i2 (0, 0, 0, 0, 0)).2).1))))) l1_7 x2_7 (w64 (x3_7 + 1)))) else (some (x0_7, true)))
def l7 : Nat → Int → (List (Int × Int × Int × Int × Int)) → Int → Int → Option (Int × Bool)
  | 0, _, _, _, _ => none
  | k + 1, x0_7, l1_7, x2_7, x3_7 => b7 (impl_RowsLeft.l7 k) k x0_7 l1_7 x2_7 x3_7
def m (o7 : Int → (List (Int × Int × Int × Int × Int)) → Int → Int → Option (Int × Bool)) (k : Nat) (a0_0 a0_1 : Int) (l0_2 : List (Int × Int × Int × Int × Int)) (a0_3 : Int) : Option (Int × Bool) := ((impl_IsShop.f k a0_0 a0_1 l0_2 a0_3).bind fun r1 => (cond (!r1) (some (0, false)) (o7 0 l0_2 (l0_2.length : Int) 0)))
def f (k : Nat) (a0_0 a0_1 : Int) (l0_2 : List (Int × Int × Int × Int × Int)) (a0_3 : Int) : Option (Int × Bool) := m (impl_RowsLeft.l7 k) k a0_0 a0_1 l0_2 a0_3
noncomputable def spec (k : Nat) : FnSpec := ⟨[.ag [.d (.int .i64) none, .d (.int .i64) none, .d (.sl (.pair (.int .i64) (.pair (.int .i64) (.pair (.int .i64) (.pair (.int .i64) (.int .i64)))))) none, .d (.int .i64) none]], [.d (.int .i64) none, .d .bool none], fun x => f k x.1 x.2.1 x.2.2.1 x.2.2.2⟩
def S7 (x0_7 : Int) (l1_7 : List (Int × Int × Int × Int × Int)) (x2_7 x3_7 : Int) : St := ⟨[(4, .val (.int .i64) x0_7), (11, .val (.sl (.pair (.int .i64) (.pair (.int .i64) (.pair (.int .i64) (.pair (.int .i64) (.int .i64)))))) l1_7), (12, .val (.int .i64) x2_7), (13, .val (.int .i64) x3_7)], [], 1000⟩
noncomputable def T : FnText := ⟨(conv [] (bodyOf Tryz.f143) 0).1, Tryz.f143.results.toList, 26, [(7, [(4, .rd (.int .i64)), (11, .rd (.sl (.pair (.int .i64) (.pair (.int .i64) (.pair (.int .i64) (.pair (.int .i64) (.int .i64))))))), (12, .rd (.int .i64)), (13, .rd (.int .i64))])], [.ag [.d (.int .i64) none, .d (.int .i64) none, .d (.sl (.pair (.int .i64) (.pair (.int .i64) (.pair (.int .i64) (.pair (.int .i64) (.int .i64)))))) none, .d (.int .i64) none]], [.d (.int .i64) none, .d .bool none]⟩
noncomputable def tbl (k : Nat) : Tbl := [(63, impl_IsShop.spec k)]
theorem e7 (k : Nat) (o : Nat → St → Option (Int × Bool)) (x0_7 : Int) (l1_7 : List (Int × Int × Int × Int × Int)) (x2_7 x3_7 : Int) : T.step tyt (tbl k) o 7 (S7 x0_7 l1_7 x2_7 x3_7) = b7 (fun x0_7 l1_7 x2_7 x3_7 => o 7 (S7 x0_7 l1_7 x2_7 x3_7)) k x0_7 l1_7 x2_7 x3_7 := by kernel_rfl
theorem e (k : Nat) (o : Nat → St → Option (Int × Bool)) (a0_0 a0_1 : Int) (l0_2 : List (Int × Int × Int × Int × Int)) (a0_3 : Int) : T.main tyt (tbl k) o (a0_0, a0_1, l0_2, a0_3) = m (fun x0_7 l1_7 x2_7 x3_7 => o 7 (S7 x0_7 l1_7 x2_7 x3_7)) k a0_0 a0_1 l0_2 a0_3 := by kernel_rfl
theorem ok : T.ok = true := by kernel_rfl
theorem run (k : Nat) : (∀ (x0_7 : Int) (l1_7 : List (Int × Int × Int × Int × Int)) (x2_7 x3_7 : Int), T.run tyt tbl k 7 (S7 x0_7 l1_7 x2_7 x3_7) = impl_RowsLeft.l7 k x0_7 l1_7 x2_7 x3_7) := by
  induction k with
  | zero => exact fun x0_7 l1_7 x2_7 x3_7 => rfl
  | succ k ih =>
    exact fun x0_7 l1_7 x2_7 x3_7 => by
      have q7 : (fun x0_7 l1_7 x2_7 x3_7 => T.run tyt tbl k 7 (S7 x0_7 l1_7 x2_7 x3_7)) = impl_RowsLeft.l7 k := by funext x0_7 l1_7 x2_7 x3_7; exact ih x0_7 l1_7 x2_7 x3_7
      exact (e7 k (T.run tyt tbl k) x0_7 l1_7 x2_7 x3_7).trans (by rw [q7]; rfl)
theorem tblok (k : Nat) : TblOk Tryz.prog (tbl k) := TblOk.cons (impl_IsShop.sound k) (TblOk.nil _)
theorem sound (k : Nat) : Sound Tryz.prog 143 (spec k) := by
  have h := fn_ok (F := T) (tbl := tbl) mixed tyok Tryz.func143 (by kernel_rfl) (c0 := bodyOf Tryz.f143) rfl (conv_code _ _ _) rfl rfl ok k (fun j _ => tblok j)
  have q7 : (fun x0_7 l1_7 x2_7 x3_7 => T.run tyt tbl k 7 (S7 x0_7 l1_7 x2_7 x3_7)) = impl_RowsLeft.l7 k := by funext x0_7 l1_7 x2_7 x3_7; exact (run k) x0_7 l1_7 x2_7 x3_7
  have e : spec k = ⟨T.ps, T.rs, T.ev tyt tbl k⟩ := congrArg (FnSpec.mk _ _) (funext fun x => ((e k (T.run tyt tbl k) x.1 x.2.1 x.2.2.1 x.2.2.2).trans (by rw [q7]; rfl)).symm)
  rw [e]
  exact h
end impl_RowsLeft

namespace impl_CarpetStates
/-! ### impl_CarpetStates: function 144 -/
def b7 (o7 : List Int → (List (Int × Int × Int × Int × Int)) → Int → Int → Option (List Int × Bool)) (k : Nat) (l0_7 : List Int) (l1_7 : List (Int × Int × Int × Int × Int)) (x2_7 x3_7 : Int) : Option (List Int × Bool) := (if x3_7 < x2_7 then ((chk l1_7.length x3_7).bind fun i3 => ((chk l0_7.length ((((l1_7.getD i3 (0, 0, 0, 0, 0)).2).2).1)).bind fun i4 => ((chk l0_7.length ((((l1_7.getD i3 (0, 0, 0, 0, 0)).2).2).1)).bind fun i5 => (o7 (l0_7.set i5 (w64 ((l0_7.getD i4 0) + 1))) l1_7 x2_7 (w64 (x3_7 + 1)))))) else (some (l0_7, true)))
def l7 : Nat → List Int → (List (Int × Int × Int × Int × Int)) → Int → Int → Option (List Int × Bool)
  | 0, _, _, _, _ => none
  | k + 1, l0_7, l1_7, x2_7, x3_7 => b7 (impl_CarpetStates.l7 k) k l0_7 l1_7 x2_7 x3_7
def m (o7 : List Int → (List (Int × Int × Int × Int × Int)) → Int → Int → Option (List Int × Bool)) (k : Nat) (a0_0 a0_1 : Int) (l0_2 : List (Int × Int × Int × Int × Int)) (a0_3 : Int) : Option (List Int × Bool) := ((impl_IsShop.f k a0_0 a0_1 l0_2 a0_3).bind fun r1 => (cond (!r1) (some ([], false)) ((mkl 17592186044416 5 5).bind fun n2 => (o7 (List.replicate n2 (0 : Int)) l0_2 (l0_2.length : Int) 0))))
def f (k : Nat) (a0_0 a0_1 : Int) (l0_2 : List (Int × Int × Int × Int × Int)) (a0_3 : Int) : Option (List Int × Bool) := m (impl_CarpetStates.l7 k) k a0_0 a0_1 l0_2 a0_3
noncomputable def spec (k : Nat) : FnSpec := ⟨[.ag [.d (.int .i64) none, .d (.int .i64) none, .d (.sl (.pair (.int .i64) (.pair (.int .i64) (.pair (.int .i64) (.pair (.int .i64) (.int .i64)))))) none, .d (.int .i64) none]], [.d (.sl (.int .i64)) (some 3), .d .bool none], fun x => f k x.1 x.2.1 x.2.2.1 x.2.2.2⟩
def S7 (l0_7 : List Int) (l1_7 : List (Int × Int × Int × Int × Int)) (x2_7 x3_7 : Int) : St := ⟨[(4, .ref 100), (12, .val (.sl (.pair (.int .i64) (.pair (.int .i64) (.pair (.int .i64) (.pair (.int .i64) (.int .i64)))))) l1_7), (13, .val (.int .i64) x2_7), (14, .val (.int .i64) x3_7)], [(100, some (.row 3 (.int .i64) l0_7))], 1000⟩
noncomputable def T : FnText := ⟨(conv [] (bodyOf Tryz.f144) 0).1, Tryz.f144.results.toList, 27, [(7, [(4, .own 3 (.int .i64) 100), (12, .rd (.sl (.pair (.int .i64) (.pair (.int .i64) (.pair (.int .i64) (.pair (.int .i64) (.int .i64))))))), (13, .rd (.int .i64)), (14, .rd (.int .i64))])], [.ag [.d (.int .i64) none, .d (.int .i64) none, .d (.sl (.pair (.int .i64) (.pair (.int .i64) (.pair (.int .i64) (.pair (.int .i64) (.int .i64)))))) none, .d (.int .i64) none]], [.d (.sl (.int .i64)) (some 3), .d .bool none]⟩
noncomputable def tbl (k : Nat) : Tbl := [(63, impl_IsShop.spec k)]
theorem e7 (k : Nat) (o : Nat → St → Option (List Int × Bool)) (l0_7 : List Int) (l1_7 : List (Int × Int × Int × Int × Int)) (x2_7 x3_7 : Int) : T.step tyt (tbl k) o 7 (S7 l0_7 l1_7 x2_7 x3_7) = b7 (fun l0_7 l1_7 x2_7 x3_7 => o 7 (S7 l0_7 l1_7 x2_7 x3_7)) k l0_7 l1_7 x2_7 x3_7 := by kernel_rfl
theorem e (k : Nat) (o : Nat → St → Option (List Int × Bool)) (a0_0 a0_1 : Int) (l0_2 : List (Int × Int × Int × Int × Int)) (a0_3 : Int) : T.main tyt (tbl k) o (a0_0, a0_1, l0_2, a0_3) = m (fun l0_7 l1_7 x2_7 x3_7 => o 7 (S7 l0_7 l1_7 x2_7 x3_7)) k a0_0 a0_1 l0_2 a0_3 := by kernel_rfl
theorem ok : T.ok = true := by kernel_rfl
theorem run (k : Nat) : (∀ (l0_7 : List Int) (l1_7 : List (Int × Int × Int × Int × Int)) (x2_7 x3_7 : Int), T.run tyt tbl k 7 (S7 l0_7 l1_7 x2_7 x3_7) = impl_CarpetStates.l7 k l0_7 l1_7 x2_7 x3_7) := by
  induction k with
  | zero => exact fun l0_7 l1_7 x2_7 x3_7 => rfl
  | succ k ih =>
    exact fun l0_7 l1_7 x2_7 x3_7 => by
      have q7 : (fun l0_7 l1_7 x2_7 x3_7 => T.run tyt tbl k 7 (S7 l0_7 l1_7 x2_7 x3_7)) = impl_CarpetStates.l7 k := by funext l0_7 l1_7 x2_7 x3_7; exact ih l0_7 l1_7 x2_7 x3_7
      exact (e7 k (T.run tyt tbl k) l0_7 l1_7 x2_7 x3_7).trans (by rw [q7]; rfl)
theorem tblok (k : Nat) : TblOk Tryz.prog (tbl k) := TblOk.cons (impl_IsShop.sound k) (TblOk.nil _)
theorem sound (k : Nat) : Sound Tryz.prog 144 (spec k) := by
  have h := fn_ok (F := T) (tbl := tbl) mixed tyok Tryz.func144 (by kernel_rfl) (c0 := bodyOf Tryz.f144) rfl (conv_code _ _ _) rfl rfl ok k (fun j _ => tblok j)
  have q7 : (fun l0_7 l1_7 x2_7 x3_7 => T.run tyt tbl k 7 (S7 l0_7 l1_7 x2_7 x3_7)) = impl_CarpetStates.l7 k := by funext l0_7 l1_7 x2_7 x3_7; exact (run k) l0_7 l1_7 x2_7 x3_7
  have e : spec k = ⟨T.ps, T.rs, T.ev tyt tbl k⟩ := congrArg (FnSpec.mk _ _) (funext fun x => ((e k (T.run tyt tbl k) x.1 x.2.1 x.2.2.1 x.2.2.2).trans (by rw [q7]; rfl)).symm)
  rw [e]
  exact h
end impl_CarpetStates

namespace impl_DaysToSell
/-! ### impl_DaysToSell: function 145 -/
def b7 (o7 : Int → Int → (List (Int × Int × Int × Int × Int)) → Int → Int → (List (Int × Int × Int × Int × Int)) → Int → Int → Option (Int × Bool)) (k : Nat) (x0_7 x1_7 : Int) (l2_7 : List (Int × Int × Int × Int × Int)) (x3_7 x4_7 : Int) (l5_7 : List (Int × Int × Int × Int × Int)) (x6_7 x7_7 : Int) : Option (Int × Bool) := (if x7_7 < x6_7 then ((chk l5_7.length x7_7).bind fun i2 => (if ((((l5_7.getD i2 (0, 0, 0, 0, 0)).2).2).1) = 3 then ((impl_isDay.f k (max (w64 ((((((l5_7.getD i2 (0, 0, 0, 0, 0)).2).2).2).2) + 3)) x0_7)).bind fun r3 => (cond r3 (if x4_7 < 0 then (o7 x0_7 x1_7 l2_7 x3_7 (w64 ((max (w64 ((((((l5_7.getD i2 (0, 0, 0, 0, 0)).2).2).2).2) + 3)) x0_7) - x0_7)) l5_7 x6_7 (w64 (x7_7 + 1))) else (if (w64 ((max (w64 ((((((l5_7.getD i2 (0, 0, 0, 0, 0)).2).2).2).2) + 3)) x0_7) - x0_7)) < x4_7 then (o7 x0_7 x1_7 l2_7 x3_7 (w64 ((max (w64 ((((((l5_7.getD i2 (0, 0, 0, 0, 0)).2).2).2).2) + 3)) x0_7) - x0_7)) l5_7 x6_7 (w64 (x7_7 + 1))) else (o7 x0_7 x1_7 l2_7 x3_7 x4_7 l5_7 x6_7 (w64 (x7_7 + 1))))) (o7 x0_7 x1_7 l2_7 x3_7 x4_7 l5_7 x6_7 (w64 (x7_7 + 1))))) else (o7 x0_7 x1_7 l2_7 x3_7 x4_7 l5_7 x6_7 (w64 (x7_7 + 1))))) else (some ((max x4_7 0), (decide (0 ≤ x4_7)))))
def l7 : Nat → Int → Int → (List (Int × Int × Int × Int × Int)) → Int → Int → (List (Int × Int × Int × Int × Int)) → Int → Int → Option (Int × Bool)
  | 0, _, _, _, _, _, _, _, _ => none
  | k + 1, x0_7, x1_7, l2_7, x3_7, x4_7, l5_7, x6_7, x7_7 => b7 (impl_DaysToSell.l7 k) k x0_7 x1_7 l2_7 x3_7 x4_7 l5_7 x6_7 x7_7
def m (o7 : Int → Int → (List (Int × Int × Int × Int × Int)) → Int → Int → (List (Int × Int × Int × Int × Int)) → Int → Int → Option (Int × Bool)) (k : Nat) (a0_0 a0_1 : Int) (l0_2 : List (Int × Int × Int × Int × Int)) (a0_3 : Int) : Option (Int × Bool) := ((impl_IsShop.f k a0_0 a0_1 l0_2 a0_3).bind fun r1 => (cond (!r1) (some (0, false)) (o7 a0_0 a0_1 l0_2 a0_3 (-1) l0_2 (l0_2.length : Int) 0)))
def f (k : Nat) (a0_0 a0_1 : Int) (l0_2 : List (Int × Int × Int × Int × Int)) (a0_3 : Int) : Option (Int × Bool) := m (impl_DaysToSell.l7 k) k a0_0 a0_1 l0_2 a0_3
noncomputable def spec (k : Nat) : FnSpec := ⟨[.ag [.d (.int .i64) none, .d (.int .i64) none, .d (.sl (.pair (.int .i64) (.pair (.int .i64) (.pair (.int .i64) (.pair (.int .i64) (.int .i64)))))) none, .d (.int .i64) none]], [.d (.int .i64) none, .d .bool none], fun x => f k x.1 x.2.1 x.2.2.1 x.2.2.2⟩
def S7 (x0_7 x1_7 : Int) (l2_7 : List (Int × Int × Int × Int × Int)) (x3_7 x4_7 : Int) (l5_7 : List (Int × Int × Int × Int × Int)) (x6_7 x7_7 : Int) : St := ⟨[(1, .ptr 100 0), (4, .val (.int .i64) x4_7), (12, .val (.sl (.pair (.int .i64) (.pair (.int .i64) (.pair (.int .i64) (.pair (.int .i64) (.int .i64)))))) l5_7), (13, .val (.int .i64) x6_7), (14, .val (.int .i64) x7_7)], [(100, some (.box [.val (.int .i64) x0_7, .val (.int .i64) x1_7, .val (.sl (.pair (.int .i64) (.pair (.int .i64) (.pair (.int .i64) (.pair (.int .i64) (.int .i64)))))) l2_7, .val (.int .i64) x3_7]))], 1000⟩
noncomputable def T : FnText := ⟨(conv [] (bodyOf Tryz.f145) 0).1, Tryz.f145.results.toList, 52, [(7, [(1, .bx 100 [.rd (.int .i64), .rd (.int .i64), .rd (.sl (.pair (.int .i64) (.pair (.int .i64) (.pair (.int .i64) (.pair (.int .i64) (.int .i64)))))), .rd (.int .i64)]), (4, .rd (.int .i64)), (12, .rd (.sl (.pair (.int .i64) (.pair (.int .i64) (.pair (.int .i64) (.pair (.int .i64) (.int .i64))))))), (13, .rd (.int .i64)), (14, .rd (.int .i64))])], [.ag [.d (.int .i64) none, .d (.int .i64) none, .d (.sl (.pair (.int .i64) (.pair (.int .i64) (.pair (.int .i64) (.pair (.int .i64) (.int .i64)))))) none, .d (.int .i64) none]], [.d (.int .i64) none, .d .bool none]⟩
noncomputable def tbl (k : Nat) : Tbl := [(63, impl_IsShop.spec k), (112, impl_isDay.spec k)]
theorem e7 (k : Nat) (o : Nat → St → Option (Int × Bool)) (x0_7 x1_7 : Int) (l2_7 : List (Int × Int × Int × Int × Int)) (x3_7 x4_7 : Int) (l5_7 : List (Int × Int × Int × Int × Int)) (x6_7 x7_7 : Int) : T.step tyt (tbl k) o 7 (S7 x0_7 x1_7 l2_7 x3_7 x4_7 l5_7 x6_7 x7_7) = b7 (fun x0_7 x1_7 l2_7 x3_7 x4_7 l5_7 x6_7 x7_7 => o 7 (S7 x0_7 x1_7 l2_7 x3_7 x4_7 l5_7 x6_7 x7_7)) k x0_7 x1_7 l2_7 x3_7 x4_7 l5_7 x6_7 x7_7 := by kernel_rfl
theorem e (k : Nat) (o : Nat → St → Option (Int × Bool)) (a0_0 a0_1 : Int) (l0_2 : List (Int × Int × Int × Int × Int)) (a0_3 : Int) : T.main tyt (tbl k) o (a0_0, a0_1, l0_2, a0_3) = m (fun x0_7 x1_7 l2_7 x3_7 x4_7 l5_7 x6_7 x7_7 => o 7 (S7 x0_7 x1_7 l2_7 x3_7 x4_7 l5_7 x6_7 x7_7)) k a0_0 a0_1 l0_2 a0_3 := by kernel_rfl
theorem ok : T.ok = true := by kernel_rfl
theorem run (k : Nat) : (∀ (x0_7 x1_7 : Int) (l2_7 : List (Int × Int × Int × Int × Int)) (x3_7 x4_7 : Int) (l5_7 : List (Int × Int × Int × Int × Int)) (x6_7 x7_7 : Int), T.run tyt tbl k 7 (S7 x0_7 x1_7 l2_7 x3_7 x4_7 l5_7 x6_7 x7_7) = impl_DaysToSell.l7 k x0_7 x1_7 l2_7 x3_7 x4_7 l5_7 x6_7 x7_7) := by
  induction k with
  | zero => exact fun x0_7 x1_7 l2_7 x3_7 x4_7 l5_7 x6_7 x7_7 => rfl
  | succ k ih =>
    exact fun x0_7 x1_7 l2_7 x3_7 x4_7 l5_7 x6_7 x7_7 => by
      have q7 : (fun x0_7 x1_7 l2_7 x3_7 x4_7 l5_7 x6_7 x7_7 => T.run tyt tbl k 7 (S7 x0_7 x1_7 l2_7 x3_7 x4_7 l5_7 x6_7 x7_7)) = impl_DaysToSell.l7 k := by funext x0_7 x1_7 l2_7 x3_7 x4_7 l5_7 x6_7 x7_7; exact ih x0_7 x1_7 l2_7 x3_7 x4_7 l5_7 x6_7 x7_7
      exact (e7 k (T.run tyt tbl k) x0_7 x1_7 l2_7 x3_7 x4_7 l5_7 x6_7 x7_7).trans (by rw [q7]; rfl)
theorem tblok (k : Nat) : TblOk Tryz.prog (tbl k) := TblOk.cons (impl_IsShop.sound k) (TblOk.cons (impl_isDay.sound k) (TblOk.nil _))
theorem sound (k : Nat) : Sound Tryz.prog 145 (spec k) := by
  have h := fn_ok (F := T) (tbl := tbl) mixed tyok Tryz.func145 (by kernel_rfl) (c0 := bodyOf Tryz.f145) rfl (conv_code _ _ _) rfl rfl ok k (fun j _ => tblok j)
  have q7 : (fun x0_7 x1_7 l2_7 x3_7 x4_7 l5_7 x6_7 x7_7 => T.run tyt tbl k 7 (S7 x0_7 x1_7 l2_7 x3_7 x4_7 l5_7 x6_7 x7_7)) = impl_DaysToSell.l7 k := by funext x0_7 x1_7 l2_7 x3_7 x4_7 l5_7 x6_7 x7_7; exact (run k) x0_7 x1_7 l2_7 x3_7 x4_7 l5_7 x6_7 x7_7
  have e : spec k = ⟨T.ps, T.rs, T.ev tyt tbl k⟩ := congrArg (FnSpec.mk _ _) (funext fun x => ((e k (T.run tyt tbl k) x.1 x.2.1 x.2.2.1 x.2.2.2).trans (by rw [q7]; rfl)).symm)
  rw [e]
  exact h
end impl_DaysToSell

namespace impl_Shop_ask
/-! ### impl_Shop_ask: function 100 -/
def b2 (k : Nat) (x0_2 : ByteArray) (l1_2 : List Int) (x2_2 x3_2 : Int) (l4_2 : List (Int × Int × Int × Int × Int)) (x5_2 : Int) (x6_2 : Bool) : Option (ByteArray × Bool) := (cond x6_2 ((chk l1_2.length 0).bind fun i1 => ((impl_CarpetText.f k x2_2 x3_2 l4_2 x5_2 (l1_2.getD i1 0)).bind fun r2 => (some (r2.1, r2.2)))) (if 0 < (l1_2.length : Int) then (some ((⟨#[]⟩ : ByteArray), false)) else (if x0_2 = (⟨#[100, 97, 121]⟩ : ByteArray) then ((impl_decimal.f k x2_2).bind fun r3 => (some (r3, true))) else (if x0_2 = (⟨#[109, 111, 110, 101, 121]⟩ : ByteArray) then ((impl_decimal.f k x5_2).bind fun r4 => (some (r4, true))) else (if x0_2 = (⟨#[102, 114, 101, 101]⟩ : ByteArray) then ((impl_FreeLooms.f k x2_2 x3_2 l4_2 x5_2).bind fun r5 => ((impl_listText.f k r5.1).bind fun r6 => (some (r6, r5.2)))) else (if x0_2 = (⟨#[114, 111, 119, 115]⟩ : ByteArray) then ((impl_RowsLeft.f k x2_2 x3_2 l4_2 x5_2).bind fun r7 => ((impl_decimal.f k r7.1).bind fun r8 => (some (r8, r7.2)))) else (if x0_2 = (⟨#[115, 116, 97, 116, 101, 115]⟩ : ByteArray) then ((impl_CarpetStates.f k x2_2 x3_2 l4_2 x5_2).bind fun r9 => ((impl_listText.f k r9.1).bind fun r10 => (some (r10, r9.2)))) else (if x0_2 = (⟨#[110, 101, 120, 116]⟩ : ByteArray) then ((impl_DaysToSell.f k x2_2 x3_2 l4_2 x5_2).bind fun r11 => ((impl_decimal.f k r11.1).bind fun r12 => (some (r12, r11.2)))) else (some ((⟨#[]⟩ : ByteArray), false))))))))))
def l2 : Nat → ByteArray → List Int → Int → Int → (List (Int × Int × Int × Int × Int)) → Int → Bool → Option (ByteArray × Bool)
  | 0, _, _, _, _, _, _, _ => none
  | k + 1, x0_2, l1_2, x2_2, x3_2, l4_2, x5_2, x6_2 => b2 k x0_2 l1_2 x2_2 x3_2 l4_2 x5_2 x6_2
def m (o2 : ByteArray → List Int → Int → Int → (List (Int × Int × Int × Int × Int)) → Int → Bool → Option (ByteArray × Bool)) (k : Nat) (a0_0 a0_1 : Int) (l0_2 : List (Int × Int × Int × Int × Int)) (a0_3 : Int) (a1 : ByteArray) (l2 : List Int) : Option (ByteArray × Bool) := (if a1 = (⟨#[99, 97, 114, 112, 101, 116]⟩ : ByteArray) then (o2 a1 l2 a0_0 a0_1 l0_2 a0_3 (decide ((l2.length : Int) = 1))) else (o2 a1 l2 a0_0 a0_1 l0_2 a0_3 false))
def f (k : Nat) (a0_0 a0_1 : Int) (l0_2 : List (Int × Int × Int × Int × Int)) (a0_3 : Int) (a1 : ByteArray) (l2 : List Int) : Option (ByteArray × Bool) := m (impl_Shop_ask.l2 k) k a0_0 a0_1 l0_2 a0_3 a1 l2
noncomputable def spec (k : Nat) : FnSpec := ⟨[.ag [.d (.int .i64) none, .d (.int .i64) none, .d (.sl (.pair (.int .i64) (.pair (.int .i64) (.pair (.int .i64) (.pair (.int .i64) (.int .i64)))))) none, .d (.int .i64) none], .d .str none, .d (.sl (.int .i64)) none], [.d .str none, .d .bool none], fun x => f k x.1 x.2.1 x.2.2.1 x.2.2.2.1 x.2.2.2.2.1 x.2.2.2.2.2⟩
def S2 (x0_2 : ByteArray) (l1_2 : List Int) (x2_2 x3_2 : Int) (l4_2 : List (Int × Int × Int × Int × Int)) (x5_2 : Int) (x6_2 : Bool) : St := ⟨[(1, .val .str x0_2), (2, .val (.sl (.int .i64)) l1_2), (3, .ptr 100 0), (22, .val .bool x6_2)], [(100, some (.box [.val (.int .i64) x2_2, .val (.int .i64) x3_2, .val (.sl (.pair (.int .i64) (.pair (.int .i64) (.pair (.int .i64) (.pair (.int .i64) (.int .i64)))))) l4_2, .val (.int .i64) x5_2]))], 1000⟩
noncomputable def T : FnText := ⟨(conv [2] (bodyOf Tryz.f100) 0).1, Tryz.f100.results.toList, 84, [(2, [(1, .rd .str), (2, .rd (.sl (.int .i64))), (3, .bx 100 [.rd (.int .i64), .rd (.int .i64), .rd (.sl (.pair (.int .i64) (.pair (.int .i64) (.pair (.int .i64) (.pair (.int .i64) (.int .i64)))))), .rd (.int .i64)]), (22, .rd .bool)])], [.ag [.d (.int .i64) none, .d (.int .i64) none, .d (.sl (.pair (.int .i64) (.pair (.int .i64) (.pair (.int .i64) (.pair (.int .i64) (.int .i64)))))) none, .d (.int .i64) none], .d .str none, .d (.sl (.int .i64)) none], [.d .str none, .d .bool none]⟩
noncomputable def tbl (k : Nat) : Tbl := [(69, impl_CarpetText.spec k), (71, impl_decimal.spec k), (141, impl_FreeLooms.spec k), (142, impl_listText.spec k), (143, impl_RowsLeft.spec k), (144, impl_CarpetStates.spec k), (145, impl_DaysToSell.spec k)]
theorem e2 (k : Nat) (o : Nat → St → Option (ByteArray × Bool)) (x0_2 : ByteArray) (l1_2 : List Int) (x2_2 x3_2 : Int) (l4_2 : List (Int × Int × Int × Int × Int)) (x5_2 : Int) (x6_2 : Bool) : T.step tyt (tbl k) o 2 (S2 x0_2 l1_2 x2_2 x3_2 l4_2 x5_2 x6_2) = b2 k x0_2 l1_2 x2_2 x3_2 l4_2 x5_2 x6_2 := by kernel_rfl
theorem e (k : Nat) (o : Nat → St → Option (ByteArray × Bool)) (a0_0 a0_1 : Int) (l0_2 : List (Int × Int × Int × Int × Int)) (a0_3 : Int) (a1 : ByteArray) (l2 : List Int) : T.main tyt (tbl k) o (a0_0, a0_1, l0_2, a0_3, a1, l2) = m (fun x0_2 l1_2 x2_2 x3_2 l4_2 x5_2 x6_2 => o 2 (S2 x0_2 l1_2 x2_2 x3_2 l4_2 x5_2 x6_2)) k a0_0 a0_1 l0_2 a0_3 a1 l2 := by kernel_rfl
theorem ok : T.ok = true := by kernel_rfl
theorem run (k : Nat) : (∀ (x0_2 : ByteArray) (l1_2 : List Int) (x2_2 x3_2 : Int) (l4_2 : List (Int × Int × Int × Int × Int)) (x5_2 : Int) (x6_2 : Bool), T.run tyt tbl k 2 (S2 x0_2 l1_2 x2_2 x3_2 l4_2 x5_2 x6_2) = impl_Shop_ask.l2 k x0_2 l1_2 x2_2 x3_2 l4_2 x5_2 x6_2) := by
  induction k with
  | zero => exact fun x0_2 l1_2 x2_2 x3_2 l4_2 x5_2 x6_2 => rfl
  | succ k ih =>
    exact fun x0_2 l1_2 x2_2 x3_2 l4_2 x5_2 x6_2 => by
      exact (e2 k (T.run tyt tbl k) x0_2 l1_2 x2_2 x3_2 l4_2 x5_2 x6_2).trans (by rfl)
theorem tblok (k : Nat) : TblOk Tryz.prog (tbl k) := TblOk.cons (impl_CarpetText.sound k) (TblOk.cons (impl_decimal.sound k) (TblOk.cons (impl_FreeLooms.sound k) (TblOk.cons (impl_listText.sound k) (TblOk.cons (impl_RowsLeft.sound k) (TblOk.cons (impl_CarpetStates.sound k) (TblOk.cons (impl_DaysToSell.sound k) (TblOk.nil _)))))))
theorem sound (k : Nat) : Sound Tryz.prog 100 (spec k) := by
  have h := fn_ok (F := T) (tbl := tbl) mixed tyok Tryz.func100 (by kernel_rfl) (c0 := bodyOf Tryz.f100) rfl (conv_code _ _ _) rfl rfl ok k (fun j _ => tblok j)
  have q2 : (fun x0_2 l1_2 x2_2 x3_2 l4_2 x5_2 x6_2 => T.run tyt tbl k 2 (S2 x0_2 l1_2 x2_2 x3_2 l4_2 x5_2 x6_2)) = impl_Shop_ask.l2 k := by funext x0_2 l1_2 x2_2 x3_2 l4_2 x5_2 x6_2; exact (run k) x0_2 l1_2 x2_2 x3_2 l4_2 x5_2 x6_2
  have e : spec k = ⟨T.ps, T.rs, T.ev tyt tbl k⟩ := congrArg (FnSpec.mk _ _) (funext fun x => ((e k (T.run tyt tbl k) x.1 x.2.1 x.2.2.1 x.2.2.2.1 x.2.2.2.2.1 x.2.2.2.2.2).trans (by rw [q2]; rfl)).symm)
  rw [e]
  exact h
end impl_Shop_ask

namespace impl_Shop_execute
/-! ### impl_Shop_execute: function 51 -/
def m (k : Nat) (a0_0 a0_1 : Int) (l0_2 : List (Int × Int × Int × Int × Int)) (a0_3 : Int) (a1 : ByteArray) : Option (Int × Int × List (Int × Int × Int × Int × Int) × Int × ByteArray) := ((strings_Split.f k a1 (⟨#[32]⟩ : ByteArray)).bind fun r1 => ((cut r1.length 1 (r1.length : Int)).bind fun c2 => ((impl_parseInts.f k ((r1.drop c2.1).take c2.2)).bind fun r3 => (cond (!r3.2) (some (a0_0, a0_1, l0_2, a0_3, (⟨#[63]⟩ : ByteArray))) ((chk r1.length 0).bind fun i4 => ((impl_stepOf.f k (r1.getD i4 ByteArray.empty) r3.1).bind fun r5 => (cond r5.2.2.2 ((impl_Shop_step.f k a0_0 a0_1 l0_2 a0_3 r5.1 r5.2.1 r5.2.2.1).bind fun r6 => (cond (!r6.2.2.2.2) (some (a0_0, a0_1, l0_2, a0_3, (⟨#[63]⟩ : ByteArray))) ((impl_Shop_stepReply.f k r6.1 r6.2.1 r6.2.2.1 r6.2.2.2.1 r5.1 r5.2.1 r5.2.2.1).bind fun r7 => (some (r6.1, r6.2.1, r6.2.2.1, r6.2.2.2.1, r7))))) ((chk r1.length 0).bind fun i8 => ((impl_Shop_ask.f k a0_0 a0_1 l0_2 a0_3 (r1.getD i8 ByteArray.empty) r3.1).bind fun r9 => (cond (!r9.2) (some (a0_0, a0_1, l0_2, a0_3, (⟨#[63]⟩ : ByteArray))) (some (a0_0, a0_1, l0_2, a0_3, r9.1))))))))))))
def f (k : Nat) (a0_0 a0_1 : Int) (l0_2 : List (Int × Int × Int × Int × Int)) (a0_3 : Int) (a1 : ByteArray) : Option (Int × Int × List (Int × Int × Int × Int × Int) × Int × ByteArray) := m k a0_0 a0_1 l0_2 a0_3 a1
noncomputable def spec (k : Nat) : FnSpec := ⟨[.ag [.d (.int .i64) none, .d (.int .i64) none, .d (.sl (.pair (.int .i64) (.pair (.int .i64) (.pair (.int .i64) (.pair (.int .i64) (.int .i64)))))) none, .d (.int .i64) none], .d .str none], [.ag [.d (.int .i64) none, .d (.int .i64) none, .d (.sl (.pair (.int .i64) (.pair (.int .i64) (.pair (.int .i64) (.pair (.int .i64) (.int .i64)))))) none, .d (.int .i64) none], .d .str none], fun x => f k x.1 x.2.1 x.2.2.1 x.2.2.2.1 x.2.2.2.2⟩
noncomputable def T : FnText := ⟨(conv [] (bodyOf Tryz.f51) 0).1, Tryz.f51.results.toList, 61, [], [.ag [.d (.int .i64) none, .d (.int .i64) none, .d (.sl (.pair (.int .i64) (.pair (.int .i64) (.pair (.int .i64) (.pair (.int .i64) (.int .i64)))))) none, .d (.int .i64) none], .d .str none], [.ag [.d (.int .i64) none, .d (.int .i64) none, .d (.sl (.pair (.int .i64) (.pair (.int .i64) (.pair (.int .i64) (.pair (.int .i64) (.int .i64)))))) none, .d (.int .i64) none], .d .str none]⟩
noncomputable def tbl (k : Nat) : Tbl := [(67, strings_Split.spec k), (96, impl_parseInts.spec k), (97, impl_stepOf.spec k), (98, impl_Shop_step.spec k), (99, impl_Shop_stepReply.spec k), (100, impl_Shop_ask.spec k)]
theorem e (k : Nat) (o : Nat → St → Option (Int × Int × List (Int × Int × Int × Int × Int) × Int × ByteArray)) (a0_0 a0_1 : Int) (l0_2 : List (Int × Int × Int × Int × Int)) (a0_3 : Int) (a1 : ByteArray) : T.main tyt (tbl k) o (a0_0, a0_1, l0_2, a0_3, a1) = m k a0_0 a0_1 l0_2 a0_3 a1 := by kernel_rfl
theorem ok : T.ok = true := by kernel_rfl
theorem tblok (k : Nat) : TblOk Tryz.prog (tbl k) := TblOk.cons (strings_Split.sound k) (TblOk.cons (impl_parseInts.sound k) (TblOk.cons (impl_stepOf.sound k) (TblOk.cons (impl_Shop_step.sound k) (TblOk.cons (impl_Shop_stepReply.sound k) (TblOk.cons (impl_Shop_ask.sound k) (TblOk.nil _))))))
theorem sound (k : Nat) : Sound Tryz.prog 51 (spec k) := by
  have h := fn_ok (F := T) (tbl := tbl) mixed tyok Tryz.func51 (by kernel_rfl) (c0 := bodyOf Tryz.f51) rfl (conv_code _ _ _) rfl rfl ok k (fun j _ => tblok j)
  have e : spec k = ⟨T.ps, T.rs, T.ev tyt tbl k⟩ := congrArg (FnSpec.mk _ _) (funext fun x => ((e k (T.run tyt tbl k) x.1 x.2.1 x.2.2.1 x.2.2.2.1 x.2.2.2.2).trans (by rfl)).symm)
  rw [e]
  exact h
end impl_Shop_execute

namespace impl_AppendRecord
/-! ### impl_AppendRecord: function 52 -/
def m (k : Nat) (a0_0 a0_1 : ByteArray) (a0_2 : Int) (a1_0 a1_1 : ByteArray) : Option (ByteArray × ByteArray × Int × Int) := ((impl_IsValidLog.f k a0_0 a0_1 a0_2).bind fun r1 => (cond (!r1) (some (a0_0, a0_1, a0_2, 1)) ((impl_IsValidRecord.f k a1_0 a1_1).bind fun r2 => (cond (!r2) (some (a0_0, a0_1, a0_2, 1)) ((impl_EncodeRecord.f k a0_2 a1_0 a1_1).bind fun r3 => (cond (!r3.2) (some (a0_0, a0_1, a0_2, 2)) ((catS a0_1 r3.1).bind fun s4 => (some (a0_0, s4, (w64 (a0_2 + 1)), 0)))))))))
def f (k : Nat) (a0_0 a0_1 : ByteArray) (a0_2 : Int) (a1_0 a1_1 : ByteArray) : Option (ByteArray × ByteArray × Int × Int) := m k a0_0 a0_1 a0_2 a1_0 a1_1
noncomputable def spec (k : Nat) : FnSpec := ⟨[.ag [.d .str none, .d .str none, .d (.int .i64) none], .ag [.d .str none, .d .str none]], [.ag [.d .str none, .d .str none, .d (.int .i64) none], .d (.int .i64) none], fun x => f k x.1 x.2.1 x.2.2.1 x.2.2.2.1 x.2.2.2.2⟩
noncomputable def T : FnText := ⟨(conv [] (bodyOf Tryz.f52) 0).1, Tryz.f52.results.toList, 37, [], [.ag [.d .str none, .d .str none, .d (.int .i64) none], .ag [.d .str none, .d .str none]], [.ag [.d .str none, .d .str none, .d (.int .i64) none], .d (.int .i64) none]⟩
noncomputable def tbl (k : Nat) : Tbl := [(64, impl_IsValidLog.spec k), (50, impl_IsValidRecord.spec k), (101, impl_EncodeRecord.spec k)]
theorem e (k : Nat) (o : Nat → St → Option (ByteArray × ByteArray × Int × Int)) (a0_0 a0_1 : ByteArray) (a0_2 : Int) (a1_0 a1_1 : ByteArray) : T.main tyt (tbl k) o (a0_0, a0_1, a0_2, a1_0, a1_1) = m k a0_0 a0_1 a0_2 a1_0 a1_1 := by kernel_rfl
theorem ok : T.ok = true := by kernel_rfl
theorem tblok (k : Nat) : TblOk Tryz.prog (tbl k) := TblOk.cons (impl_IsValidLog.sound k) (TblOk.cons (impl_IsValidRecord.sound k) (TblOk.cons (impl_EncodeRecord.sound k) (TblOk.nil _)))
theorem sound (k : Nat) : Sound Tryz.prog 52 (spec k) := by
  have h := fn_ok (F := T) (tbl := tbl) mixed tyok Tryz.func52 (by kernel_rfl) (c0 := bodyOf Tryz.f52) rfl (conv_code _ _ _) rfl rfl ok k (fun j _ => tblok j)
  have e : spec k = ⟨T.ps, T.rs, T.ev tyt tbl k⟩ := congrArg (FnSpec.mk _ _) (funext fun x => ((e k (T.run tyt tbl k) x.1 x.2.1 x.2.2.1 x.2.2.2.1 x.2.2.2.2).trans (by rfl)).symm)
  rw [e]
  exact h
end impl_AppendRecord

namespace impl_ExecuteCommand
/-! ### impl_ExecuteCommand: function 16 -/
def b10 (k : Nat) (x0_10 : ByteArray) (x1_10 x2_10 : Int) (l3_10 : List (Int × Int × Int × Int × Int)) (x4_10 : Int) (x5_10 x6_10 : ByteArray) (x7_10 x8_10 x9_10 : Int) (l10_10 : List (Int × Int × Int × Int × Int)) (x11_10 : Int) (x12_10 x13_10 : ByteArray) (x14_10 x15_10 x16_10 : Int) (l17_10 : List (Int × Int × Int × Int × Int)) (x18_10 : Int) (x19_10 x20_10 : ByteArray) (x21_10 x22_10 x23_10 : Int) (l24_10 : List (Int × Int × Int × Int × Int)) (x25_10 : Int) (x26_10 : ByteArray) : Option (Int × Int × List (Int × Int × Int × Int × Int) × Int × ByteArray × ByteArray × Int × ByteArray) := ((impl_AppendRecord.f k x5_10 x6_10 x7_10 x0_10 x26_10).bind fun r8 => (some (x22_10, x23_10, l24_10, x25_10, r8.1, r8.2.1, r8.2.2.1, x26_10)))
def l10 : Nat → ByteArray → Int → Int → (List (Int × Int × Int × Int × Int)) → Int → ByteArray → ByteArray → Int → Int → Int → (List (Int × Int × Int × Int × Int)) → Int → ByteArray → ByteArray → Int → Int → Int → (List (Int × Int × Int × Int × Int)) → Int → ByteArray → ByteArray → Int → Int → Int → (List (Int × Int × Int × Int × Int)) → Int → ByteArray → Option (Int × Int × List (Int × Int × Int × Int × Int) × Int × ByteArray × ByteArray × Int × ByteArray)
  | 0, _, _, _, _, _, _, _, _, _, _, _, _, _, _, _, _, _, _, _, _, _, _, _, _, _, _, _ => none
  | k + 1, x0_10, x1_10, x2_10, l3_10, x4_10, x5_10, x6_10, x7_10, x8_10, x9_10, l10_10, x11_10, x12_10, x13_10, x14_10, x15_10, x16_10, l17_10, x18_10, x19_10, x20_10, x21_10, x22_10, x23_10, l24_10, x25_10, x26_10 => b10 k x0_10 x1_10 x2_10 l3_10 x4_10 x5_10 x6_10 x7_10 x8_10 x9_10 l10_10 x11_10 x12_10 x13_10 x14_10 x15_10 x16_10 l17_10 x18_10 x19_10 x20_10 x21_10 x22_10 x23_10 l24_10 x25_10 x26_10
def m (o10 : ByteArray → Int → Int → (List (Int × Int × Int × Int × Int)) → Int → ByteArray → ByteArray → Int → Int → Int → (List (Int × Int × Int × Int × Int)) → Int → ByteArray → ByteArray → Int → Int → Int → (List (Int × Int × Int × Int × Int)) → Int → ByteArray → ByteArray → Int → Int → Int → (List (Int × Int × Int × Int × Int)) → Int → ByteArray → Option (Int × Int × List (Int × Int × Int × Int × Int) × Int × ByteArray × ByteArray × Int × ByteArray)) (k : Nat) (a0_0 a0_1 : Int) (l0_2 : List (Int × Int × Int × Int × Int)) (a0_3 : Int) (a0_4 a0_5 : ByteArray) (a0_6 : Int) (a1 : ByteArray) : Option (Int × Int × List (Int × Int × Int × Int × Int) × Int × ByteArray × ByteArray × Int × ByteArray) := ((impl_IsValidConsole.f k a0_0 a0_1 l0_2 a0_3 a0_4 a0_5 a0_6).bind fun r1 => (cond (!r1) ((impl_Console_copied.f k a0_0 a0_1 l0_2 a0_3 a0_4 a0_5 a0_6).bind fun r2 => (some (r2.1, r2.2.1, r2.2.2.1, r2.2.2.2.1, r2.2.2.2.2.1, r2.2.2.2.2.2.1, r2.2.2.2.2.2.2, (⟨#[110, 111]⟩ : ByteArray)))) ((impl_IsValidRecord.f k a1 ByteArray.empty).bind fun r3 => (cond (!r3) ((impl_Console_copied.f k a0_0 a0_1 l0_2 a0_3 a0_4 a0_5 a0_6).bind fun r4 => (some (r4.1, r4.2.1, r4.2.2.1, r4.2.2.2.1, r4.2.2.2.2.1, r4.2.2.2.2.2.1, r4.2.2.2.2.2.2, (⟨#[98, 97, 100]⟩ : ByteArray)))) (if a0_6 = 60 then ((impl_Console_copied.f k a0_0 a0_1 l0_2 a0_3 a0_4 a0_5 a0_6).bind fun r5 => (some (r5.1, r5.2.1, r5.2.2.1, r5.2.2.2.1, r5.2.2.2.2.1, r5.2.2.2.2.2.1, r5.2.2.2.2.2.2, (⟨#[102, 117, 108, 108]⟩ : ByteArray)))) else ((impl_Console_copied.f k a0_0 a0_1 l0_2 a0_3 a0_4 a0_5 a0_6).bind fun r6 => ((impl_Shop_execute.f k r6.1 r6.2.1 r6.2.2.1 r6.2.2.2.1 a1).bind fun r7 => (if 200 < (r7.2.2.2.2.size : Int) then (o10 a1 a0_0 a0_1 l0_2 a0_3 a0_4 a0_5 a0_6 0 0 [] 0 ByteArray.empty ByteArray.empty 0 r6.1 r6.2.1 r6.2.2.1 r6.2.2.2.1 r6.2.2.2.2.1 r6.2.2.2.2.2.1 r6.2.2.2.2.2.2 r7.1 r7.2.1 r7.2.2.1 r7.2.2.2.1 (⟨#[108, 111, 110, 103]⟩ : ByteArray)) else (o10 a1 a0_0 a0_1 l0_2 a0_3 a0_4 a0_5 a0_6 0 0 [] 0 ByteArray.empty ByteArray.empty 0 r6.1 r6.2.1 r6.2.2.1 r6.2.2.2.1 r6.2.2.2.2.1 r6.2.2.2.2.2.1 r6.2.2.2.2.2.2 r7.1 r7.2.1 r7.2.2.1 r7.2.2.2.1 r7.2.2.2.2)))))))))
def f (k : Nat) (a0_0 a0_1 : Int) (l0_2 : List (Int × Int × Int × Int × Int)) (a0_3 : Int) (a0_4 a0_5 : ByteArray) (a0_6 : Int) (a1 : ByteArray) : Option (Int × Int × List (Int × Int × Int × Int × Int) × Int × ByteArray × ByteArray × Int × ByteArray) := m (impl_ExecuteCommand.l10 k) k a0_0 a0_1 l0_2 a0_3 a0_4 a0_5 a0_6 a1
noncomputable def spec (k : Nat) : FnSpec := ⟨[.ag [.d (.int .i64) none, .d (.int .i64) none, .d (.sl (.pair (.int .i64) (.pair (.int .i64) (.pair (.int .i64) (.pair (.int .i64) (.int .i64)))))) none, .d (.int .i64) none, .d .str none, .d .str none, .d (.int .i64) none], .d .str none], [.ag [.d (.int .i64) none, .d (.int .i64) none, .d (.sl (.pair (.int .i64) (.pair (.int .i64) (.pair (.int .i64) (.pair (.int .i64) (.int .i64)))))) none, .d (.int .i64) none, .d .str none, .d .str none, .d (.int .i64) none], .d .str none], fun x => f k x.1 x.2.1 x.2.2.1 x.2.2.2.1 x.2.2.2.2.1 x.2.2.2.2.2.1 x.2.2.2.2.2.2.1 x.2.2.2.2.2.2.2⟩
def S10 (x0_10 : ByteArray) (x1_10 x2_10 : Int) (l3_10 : List (Int × Int × Int × Int × Int)) (x4_10 : Int) (x5_10 x6_10 : ByteArray) (x7_10 x8_10 x9_10 : Int) (l10_10 : List (Int × Int × Int × Int × Int)) (x11_10 : Int) (x12_10 x13_10 : ByteArray) (x14_10 x15_10 x16_10 : Int) (l17_10 : List (Int × Int × Int × Int × Int)) (x18_10 : Int) (x19_10 x20_10 : ByteArray) (x21_10 x22_10 x23_10 : Int) (l24_10 : List (Int × Int × Int × Int × Int)) (x25_10 : Int) (x26_10 : ByteArray) : St := ⟨[(1, .val .str x0_10), (2, .ptr 100 0), (4, .ptr 101 0), (6, .ptr 102 0), (7, .ptr 103 0), (8, .val .str x26_10)], [(103, some (.box [.val (.int .i64) x22_10, .val (.int .i64) x23_10, .val (.sl (.pair (.int .i64) (.pair (.int .i64) (.pair (.int .i64) (.pair (.int .i64) (.int .i64)))))) l24_10, .val (.int .i64) x25_10])), (102, some (.box [.val (.int .i64) x15_10, .val (.int .i64) x16_10, .val (.sl (.pair (.int .i64) (.pair (.int .i64) (.pair (.int .i64) (.pair (.int .i64) (.int .i64)))))) l17_10, .val (.int .i64) x18_10, .val .str x19_10, .val .str x20_10, .val (.int .i64) x21_10])), (101, some (.box [.val (.int .i64) x8_10, .val (.int .i64) x9_10, .val (.sl (.pair (.int .i64) (.pair (.int .i64) (.pair (.int .i64) (.pair (.int .i64) (.int .i64)))))) l10_10, .val (.int .i64) x11_10, .val .str x12_10, .val .str x13_10, .val (.int .i64) x14_10])), (100, some (.box [.val (.int .i64) x1_10, .val (.int .i64) x2_10, .val (.sl (.pair (.int .i64) (.pair (.int .i64) (.pair (.int .i64) (.pair (.int .i64) (.int .i64)))))) l3_10, .val (.int .i64) x4_10, .val .str x5_10, .val .str x6_10, .val (.int .i64) x7_10]))], 1000⟩
noncomputable def T : FnText := ⟨(conv [10] (bodyOf Tryz.f16) 0).1, Tryz.f16.results.toList, 55, [(10, [(1, .rd .str), (2, .bx 100 [.rd (.int .i64), .rd (.int .i64), .rd (.sl (.pair (.int .i64) (.pair (.int .i64) (.pair (.int .i64) (.pair (.int .i64) (.int .i64)))))), .rd (.int .i64), .rd .str, .rd .str, .rd (.int .i64)]), (4, .bx 101 [.rd (.int .i64), .rd (.int .i64), .rd (.sl (.pair (.int .i64) (.pair (.int .i64) (.pair (.int .i64) (.pair (.int .i64) (.int .i64)))))), .rd (.int .i64), .rd .str, .rd .str, .rd (.int .i64)]), (6, .bx 102 [.rd (.int .i64), .rd (.int .i64), .rd (.sl (.pair (.int .i64) (.pair (.int .i64) (.pair (.int .i64) (.pair (.int .i64) (.int .i64)))))), .rd (.int .i64), .rd .str, .rd .str, .rd (.int .i64)]), (7, .bx 103 [.rd (.int .i64), .rd (.int .i64), .rd (.sl (.pair (.int .i64) (.pair (.int .i64) (.pair (.int .i64) (.pair (.int .i64) (.int .i64)))))), .rd (.int .i64)]), (8, .rd .str)])], [.ag [.d (.int .i64) none, .d (.int .i64) none, .d (.sl (.pair (.int .i64) (.pair (.int .i64) (.pair (.int .i64) (.pair (.int .i64) (.int .i64)))))) none, .d (.int .i64) none, .d .str none, .d .str none, .d (.int .i64) none], .d .str none], [.ag [.d (.int .i64) none, .d (.int .i64) none, .d (.sl (.pair (.int .i64) (.pair (.int .i64) (.pair (.int .i64) (.pair (.int .i64) (.int .i64)))))) none, .d (.int .i64) none, .d .str none, .d .str none, .d (.int .i64) none], .d .str none]⟩
noncomputable def tbl (k : Nat) : Tbl := [(23, impl_IsValidConsole.spec k), (49, impl_Console_copied.spec k), (50, impl_IsValidRecord.spec k), (51, impl_Shop_execute.spec k), (52, impl_AppendRecord.spec k)]
theorem e10 (k : Nat) (o : Nat → St → Option (Int × Int × List (Int × Int × Int × Int × Int) × Int × ByteArray × ByteArray × Int × ByteArray)) (x0_10 : ByteArray) (x1_10 x2_10 : Int) (l3_10 : List (Int × Int × Int × Int × Int)) (x4_10 : Int) (x5_10 x6_10 : ByteArray) (x7_10 x8_10 x9_10 : Int) (l10_10 : List (Int × Int × Int × Int × Int)) (x11_10 : Int) (x12_10 x13_10 : ByteArray) (x14_10 x15_10 x16_10 : Int) (l17_10 : List (Int × Int × Int × Int × Int)) (x18_10 : Int) (x19_10 x20_10 : ByteArray) (x21_10 x22_10 x23_10 : Int) (l24_10 : List (Int × Int × Int × Int × Int)) (x25_10 : Int) (x26_10 : ByteArray) : T.step tyt (tbl k) o 10 (S10 x0_10 x1_10 x2_10 l3_10 x4_10 x5_10 x6_10 x7_10 x8_10 x9_10 l10_10 x11_10 x12_10 x13_10 x14_10 x15_10 x16_10 l17_10 x18_10 x19_10 x20_10 x21_10 x22_10 x23_10 l24_10 x25_10 x26_10) = b10 k x0_10 x1_10 x2_10 l3_10 x4_10 x5_10 x6_10 x7_10 x8_10 x9_10 l10_10 x11_10 x12_10 x13_10 x14_10 x15_10 x16_10 l17_10 x18_10 x19_10 x20_10 x21_10 x22_10 x23_10 l24_10 x25_10 x26_10 := by kernel_rfl
theorem e (k : Nat) (o : Nat → St → Option (Int × Int × List (Int × Int × Int × Int × Int) × Int × ByteArray × ByteArray × Int × ByteArray)) (a0_0 a0_1 : Int) (l0_2 : List (Int × Int × Int × Int × Int)) (a0_3 : Int) (a0_4 a0_5 : ByteArray) (a0_6 : Int) (a1 : ByteArray) : T.main tyt (tbl k) o (a0_0, a0_1, l0_2, a0_3, a0_4, a0_5, a0_6, a1) = m (fun x0_10 x1_10 x2_10 l3_10 x4_10 x5_10 x6_10 x7_10 x8_10 x9_10 l10_10 x11_10 x12_10 x13_10 x14_10 x15_10 x16_10 l17_10 x18_10 x19_10 x20_10 x21_10 x22_10 x23_10 l24_10 x25_10 x26_10 => o 10 (S10 x0_10 x1_10 x2_10 l3_10 x4_10 x5_10 x6_10 x7_10 x8_10 x9_10 l10_10 x11_10 x12_10 x13_10 x14_10 x15_10 x16_10 l17_10 x18_10 x19_10 x20_10 x21_10 x22_10 x23_10 l24_10 x25_10 x26_10)) k a0_0 a0_1 l0_2 a0_3 a0_4 a0_5 a0_6 a1 := by kernel_rfl
theorem ok : T.ok = true := by kernel_rfl
theorem run (k : Nat) : (∀ (x0_10 : ByteArray) (x1_10 x2_10 : Int) (l3_10 : List (Int × Int × Int × Int × Int)) (x4_10 : Int) (x5_10 x6_10 : ByteArray) (x7_10 x8_10 x9_10 : Int) (l10_10 : List (Int × Int × Int × Int × Int)) (x11_10 : Int) (x12_10 x13_10 : ByteArray) (x14_10 x15_10 x16_10 : Int) (l17_10 : List (Int × Int × Int × Int × Int)) (x18_10 : Int) (x19_10 x20_10 : ByteArray) (x21_10 x22_10 x23_10 : Int) (l24_10 : List (Int × Int × Int × Int × Int)) (x25_10 : Int) (x26_10 : ByteArray), T.run tyt tbl k 10 (S10 x0_10 x1_10 x2_10 l3_10 x4_10 x5_10 x6_10 x7_10 x8_10 x9_10 l10_10 x11_10 x12_10 x13_10 x14_10 x15_10 x16_10 l17_10 x18_10 x19_10 x20_10 x21_10 x22_10 x23_10 l24_10 x25_10 x26_10) = impl_ExecuteCommand.l10 k x0_10 x1_10 x2_10 l3_10 x4_10 x5_10 x6_10 x7_10 x8_10 x9_10 l10_10 x11_10 x12_10 x13_10 x14_10 x15_10 x16_10 l17_10 x18_10 x19_10 x20_10 x21_10 x22_10 x23_10 l24_10 x25_10 x26_10) := by
  induction k with
  | zero => exact fun x0_10 x1_10 x2_10 l3_10 x4_10 x5_10 x6_10 x7_10 x8_10 x9_10 l10_10 x11_10 x12_10 x13_10 x14_10 x15_10 x16_10 l17_10 x18_10 x19_10 x20_10 x21_10 x22_10 x23_10 l24_10 x25_10 x26_10 => rfl
  | succ k ih =>
    exact fun x0_10 x1_10 x2_10 l3_10 x4_10 x5_10 x6_10 x7_10 x8_10 x9_10 l10_10 x11_10 x12_10 x13_10 x14_10 x15_10 x16_10 l17_10 x18_10 x19_10 x20_10 x21_10 x22_10 x23_10 l24_10 x25_10 x26_10 => by
      exact (e10 k (T.run tyt tbl k) x0_10 x1_10 x2_10 l3_10 x4_10 x5_10 x6_10 x7_10 x8_10 x9_10 l10_10 x11_10 x12_10 x13_10 x14_10 x15_10 x16_10 l17_10 x18_10 x19_10 x20_10 x21_10 x22_10 x23_10 l24_10 x25_10 x26_10).trans (by rfl)
theorem tblok (k : Nat) : TblOk Tryz.prog (tbl k) := TblOk.cons (impl_IsValidConsole.sound k) (TblOk.cons (impl_Console_copied.sound k) (TblOk.cons (impl_IsValidRecord.sound k) (TblOk.cons (impl_Shop_execute.sound k) (TblOk.cons (impl_AppendRecord.sound k) (TblOk.nil _)))))
theorem sound (k : Nat) : Sound Tryz.prog 16 (spec k) := by
  have h := fn_ok (F := T) (tbl := tbl) mixed tyok Tryz.func16 (by kernel_rfl) (c0 := bodyOf Tryz.f16) rfl (conv_code _ _ _) rfl rfl ok k (fun j _ => tblok j)
  have q10 : (fun x0_10 x1_10 x2_10 l3_10 x4_10 x5_10 x6_10 x7_10 x8_10 x9_10 l10_10 x11_10 x12_10 x13_10 x14_10 x15_10 x16_10 l17_10 x18_10 x19_10 x20_10 x21_10 x22_10 x23_10 l24_10 x25_10 x26_10 => T.run tyt tbl k 10 (S10 x0_10 x1_10 x2_10 l3_10 x4_10 x5_10 x6_10 x7_10 x8_10 x9_10 l10_10 x11_10 x12_10 x13_10 x14_10 x15_10 x16_10 l17_10 x18_10 x19_10 x20_10 x21_10 x22_10 x23_10 l24_10 x25_10 x26_10)) = impl_ExecuteCommand.l10 k := by funext x0_10 x1_10 x2_10 l3_10 x4_10 x5_10 x6_10 x7_10 x8_10 x9_10 l10_10 x11_10 x12_10 x13_10 x14_10 x15_10 x16_10 l17_10 x18_10 x19_10 x20_10 x21_10 x22_10 x23_10 l24_10 x25_10 x26_10; exact (run k) x0_10 x1_10 x2_10 l3_10 x4_10 x5_10 x6_10 x7_10 x8_10 x9_10 l10_10 x11_10 x12_10 x13_10 x14_10 x15_10 x16_10 l17_10 x18_10 x19_10 x20_10 x21_10 x22_10 x23_10 l24_10 x25_10 x26_10
  have e : spec k = ⟨T.ps, T.rs, T.ev tyt tbl k⟩ := congrArg (FnSpec.mk _ _) (funext fun x => ((e k (T.run tyt tbl k) x.1 x.2.1 x.2.2.1 x.2.2.2.1 x.2.2.2.2.1 x.2.2.2.2.2.1 x.2.2.2.2.2.2.1 x.2.2.2.2.2.2.2).trans (by rw [q10]; rfl)).symm)
  rw [e]
  exact h
end impl_ExecuteCommand

namespace impl_RunScript
/-! ### impl_RunScript: function 27 -/
def b8 (o8 : Int → Int → (List (Int × Int × Int × Int × Int)) → Int → ByteArray → ByteArray → Int → List ByteArray → List ByteArray → Int → Int → Option (List ByteArray × Bool)) (k : Nat) (x0_8 x1_8 : Int) (l2_8 : List (Int × Int × Int × Int × Int)) (x3_8 : Int) (x4_8 x5_8 : ByteArray) (x6_8 : Int) (l7_8 l8_8 : List ByteArray) (x9_8 x10_8 : Int) : Option (List ByteArray × Bool) := (if x10_8 < x9_8 then ((chk l8_8.length x10_8).bind fun i3 => ((impl_ExecuteCommand.f k x0_8 x1_8 l2_8 x3_8 x4_8 x5_8 x6_8 (l8_8.getD i3 ByteArray.empty)).bind fun r4 => ((app 8796093022208 l7_8 [r4.2.2.2.2.2.2.2]).bind fun l5 => (o8 r4.1 r4.2.1 r4.2.2.1 r4.2.2.2.1 r4.2.2.2.2.1 r4.2.2.2.2.2.1 r4.2.2.2.2.2.2.1 l5 l8_8 x9_8 (w64 (x10_8 + 1)))))) else (some (l7_8, true)))
def l8 : Nat → Int → Int → (List (Int × Int × Int × Int × Int)) → Int → ByteArray → ByteArray → Int → List ByteArray → List ByteArray → Int → Int → Option (List ByteArray × Bool)
  | 0, _, _, _, _, _, _, _, _, _, _, _ => none
  | k + 1, x0_8, x1_8, l2_8, x3_8, x4_8, x5_8, x6_8, l7_8, l8_8, x9_8, x10_8 => b8 (impl_RunScript.l8 k) k x0_8 x1_8 l2_8 x3_8 x4_8 x5_8 x6_8 l7_8 l8_8 x9_8 x10_8
def m (o8 : Int → Int → (List (Int × Int × Int × Int × Int)) → Int → ByteArray → ByteArray → Int → List ByteArray → List ByteArray → Int → Int → Option (List ByteArray × Bool)) (k : Nat) (a0_0 a0_1 : Int) (l0_2 : List (Int × Int × Int × Int × Int)) (a0_3 : Int) (a0_4 a0_5 : ByteArray) (a0_6 : Int) (a1 : ByteArray) : Option (List ByteArray × Bool) := ((strings_Split.f k a1 (⟨#[10]⟩ : ByteArray)).bind fun r1 => ((impl_IsValidConsole.f k a0_0 a0_1 l0_2 a0_3 a0_4 a0_5 a0_6).bind fun r2 => (cond (!r2) (some ([], false)) (if 30 < (r1.length : Int) then (some ([], false)) else (if 4000 < (a1.size : Int) then (some ([], false)) else (o8 a0_0 a0_1 l0_2 a0_3 a0_4 a0_5 a0_6 ([] : List (ByteArray)) r1 (r1.length : Int) 0))))))
def f (k : Nat) (a0_0 a0_1 : Int) (l0_2 : List (Int × Int × Int × Int × Int)) (a0_3 : Int) (a0_4 a0_5 : ByteArray) (a0_6 : Int) (a1 : ByteArray) : Option (List ByteArray × Bool) := m (impl_RunScript.l8 k) k a0_0 a0_1 l0_2 a0_3 a0_4 a0_5 a0_6 a1
noncomputable def spec (k : Nat) : FnSpec := ⟨[.ag [.d (.int .i64) none, .d (.int .i64) none, .d (.sl (.pair (.int .i64) (.pair (.int .i64) (.pair (.int .i64) (.pair (.int .i64) (.int .i64)))))) none, .d (.int .i64) none, .d .str none, .d .str none, .d (.int .i64) none], .d .str none], [.d (.sl .str) (some 9), .d .bool none], fun x => f k x.1 x.2.1 x.2.2.1 x.2.2.2.1 x.2.2.2.2.1 x.2.2.2.2.2.1 x.2.2.2.2.2.2.1 x.2.2.2.2.2.2.2⟩
def S8 (x0_8 x1_8 : Int) (l2_8 : List (Int × Int × Int × Int × Int)) (x3_8 : Int) (x4_8 x5_8 : ByteArray) (x6_8 : Int) (l7_8 l8_8 : List ByteArray) (x9_8 x10_8 : Int) : St := ⟨[(2, .ptr 100 0), (7, .ref 101), (28, .val (.sl .str) l8_8), (29, .val (.int .i64) x9_8), (30, .val (.int .i64) x10_8)], [(101, some (.row 9 .str l7_8)), (100, some (.box [.val (.int .i64) x0_8, .val (.int .i64) x1_8, .val (.sl (.pair (.int .i64) (.pair (.int .i64) (.pair (.int .i64) (.pair (.int .i64) (.int .i64)))))) l2_8, .val (.int .i64) x3_8, .val .str x4_8, .val .str x5_8, .val (.int .i64) x6_8]))], 1000⟩
noncomputable def T : FnText := ⟨(conv [] (bodyOf Tryz.f27) 0).1, Tryz.f27.results.toList, 47, [(8, [(2, .bx 100 [.rd (.int .i64), .rd (.int .i64), .rd (.sl (.pair (.int .i64) (.pair (.int .i64) (.pair (.int .i64) (.pair (.int .i64) (.int .i64)))))), .rd (.int .i64), .rd .str, .rd .str, .rd (.int .i64)]), (7, .own 9 .str 101), (28, .rd (.sl .str)), (29, .rd (.int .i64)), (30, .rd (.int .i64))])], [.ag [.d (.int .i64) none, .d (.int .i64) none, .d (.sl (.pair (.int .i64) (.pair (.int .i64) (.pair (.int .i64) (.pair (.int .i64) (.int .i64)))))) none, .d (.int .i64) none, .d .str none, .d .str none, .d (.int .i64) none], .d .str none], [.d (.sl .str) (some 9), .d .bool none]⟩
noncomputable def tbl (k : Nat) : Tbl := [(67, strings_Split.spec k), (23, impl_IsValidConsole.spec k), (16, impl_ExecuteCommand.spec k)]
theorem e8 (k : Nat) (o : Nat → St → Option (List ByteArray × Bool)) (x0_8 x1_8 : Int) (l2_8 : List (Int × Int × Int × Int × Int)) (x3_8 : Int) (x4_8 x5_8 : ByteArray) (x6_8 : Int) (l7_8 l8_8 : List ByteArray) (x9_8 x10_8 : Int) : T.step tyt (tbl k) o 8 (S8 x0_8 x1_8 l2_8 x3_8 x4_8 x5_8 x6_8 l7_8 l8_8 x9_8 x10_8) = b8 (fun x0_8 x1_8 l2_8 x3_8 x4_8 x5_8 x6_8 l7_8 l8_8 x9_8 x10_8 => o 8 (S8 x0_8 x1_8 l2_8 x3_8 x4_8 x5_8 x6_8 l7_8 l8_8 x9_8 x10_8)) k x0_8 x1_8 l2_8 x3_8 x4_8 x5_8 x6_8 l7_8 l8_8 x9_8 x10_8 := by kernel_rfl
theorem e (k : Nat) (o : Nat → St → Option (List ByteArray × Bool)) (a0_0 a0_1 : Int) (l0_2 : List (Int × Int × Int × Int × Int)) (a0_3 : Int) (a0_4 a0_5 : ByteArray) (a0_6 : Int) (a1 : ByteArray) : T.main tyt (tbl k) o (a0_0, a0_1, l0_2, a0_3, a0_4, a0_5, a0_6, a1) = m (fun x0_8 x1_8 l2_8 x3_8 x4_8 x5_8 x6_8 l7_8 l8_8 x9_8 x10_8 => o 8 (S8 x0_8 x1_8 l2_8 x3_8 x4_8 x5_8 x6_8 l7_8 l8_8 x9_8 x10_8)) k a0_0 a0_1 l0_2 a0_3 a0_4 a0_5 a0_6 a1 := by kernel_rfl
theorem ok : T.ok = true := by kernel_rfl
theorem run (k : Nat) : (∀ (x0_8 x1_8 : Int) (l2_8 : List (Int × Int × Int × Int × Int)) (x3_8 : Int) (x4_8 x5_8 : ByteArray) (x6_8 : Int) (l7_8 l8_8 : List ByteArray) (x9_8 x10_8 : Int), T.run tyt tbl k 8 (S8 x0_8 x1_8 l2_8 x3_8 x4_8 x5_8 x6_8 l7_8 l8_8 x9_8 x10_8) = impl_RunScript.l8 k x0_8 x1_8 l2_8 x3_8 x4_8 x5_8 x6_8 l7_8 l8_8 x9_8 x10_8) := by
  induction k with
  | zero => exact fun x0_8 x1_8 l2_8 x3_8 x4_8 x5_8 x6_8 l7_8 l8_8 x9_8 x10_8 => rfl
  | succ k ih =>
    exact fun x0_8 x1_8 l2_8 x3_8 x4_8 x5_8 x6_8 l7_8 l8_8 x9_8 x10_8 => by
      have q8 : (fun x0_8 x1_8 l2_8 x3_8 x4_8 x5_8 x6_8 l7_8 l8_8 x9_8 x10_8 => T.run tyt tbl k 8 (S8 x0_8 x1_8 l2_8 x3_8 x4_8 x5_8 x6_8 l7_8 l8_8 x9_8 x10_8)) = impl_RunScript.l8 k := by funext x0_8 x1_8 l2_8 x3_8 x4_8 x5_8 x6_8 l7_8 l8_8 x9_8 x10_8; exact ih x0_8 x1_8 l2_8 x3_8 x4_8 x5_8 x6_8 l7_8 l8_8 x9_8 x10_8
      exact (e8 k (T.run tyt tbl k) x0_8 x1_8 l2_8 x3_8 x4_8 x5_8 x6_8 l7_8 l8_8 x9_8 x10_8).trans (by rw [q8]; rfl)
theorem tblok (k : Nat) : TblOk Tryz.prog (tbl k) := TblOk.cons (strings_Split.sound k) (TblOk.cons (impl_IsValidConsole.sound k) (TblOk.cons (impl_ExecuteCommand.sound k) (TblOk.nil _)))
theorem sound (k : Nat) : Sound Tryz.prog 27 (spec k) := by
  have h := fn_ok (F := T) (tbl := tbl) mixed tyok Tryz.func27 (by kernel_rfl) (c0 := bodyOf Tryz.f27) rfl (conv_code _ _ _) rfl rfl ok k (fun j _ => tblok j)
  have q8 : (fun x0_8 x1_8 l2_8 x3_8 x4_8 x5_8 x6_8 l7_8 l8_8 x9_8 x10_8 => T.run tyt tbl k 8 (S8 x0_8 x1_8 l2_8 x3_8 x4_8 x5_8 x6_8 l7_8 l8_8 x9_8 x10_8)) = impl_RunScript.l8 k := by funext x0_8 x1_8 l2_8 x3_8 x4_8 x5_8 x6_8 l7_8 l8_8 x9_8 x10_8; exact (run k) x0_8 x1_8 l2_8 x3_8 x4_8 x5_8 x6_8 l7_8 l8_8 x9_8 x10_8
  have e : spec k = ⟨T.ps, T.rs, T.ev tyt tbl k⟩ := congrArg (FnSpec.mk _ _) (funext fun x => ((e k (T.run tyt tbl k) x.1 x.2.1 x.2.2.1 x.2.2.2.1 x.2.2.2.2.1 x.2.2.2.2.2.1 x.2.2.2.2.2.2.1 x.2.2.2.2.2.2.2).trans (by rw [q8]; rfl)).symm)
  rw [e]
  exact h
end impl_RunScript

namespace spec_RunScript
/-! ### spec_RunScript: function 26 -/
def b9 (o9 : Int → Int → (List (Int × Int × Int × Int × Int)) → Int → ByteArray → ByteArray → Int → List ByteArray → List ByteArray → Int → Option (List ByteArray × Bool)) (k : Nat) (x0_9 x1_9 : Int) (l2_9 : List (Int × Int × Int × Int × Int)) (x3_9 : Int) (x4_9 x5_9 : ByteArray) (x6_9 : Int) (l7_9 l8_9 : List ByteArray) (x9_9 : Int) : Option (List ByteArray × Bool) := (if x9_9 < (l8_9.length : Int) then ((chk l8_9.length x9_9).bind fun i3 => ((spec_ExecuteCommand.f k x0_9 x1_9 l2_9 x3_9 x4_9 x5_9 x6_9 (l8_9.getD i3 ByteArray.empty)).bind fun r4 => ((app 8796093022208 l7_9 [r4.2.2.2.2.2.2.2]).bind fun l5 => (o9 r4.1 r4.2.1 r4.2.2.1 r4.2.2.2.1 r4.2.2.2.2.1 r4.2.2.2.2.2.1 r4.2.2.2.2.2.2.1 l5 l8_9 (w64 (x9_9 + 1)))))) else (some (l7_9, true)))
def l9 : Nat → Int → Int → (List (Int × Int × Int × Int × Int)) → Int → ByteArray → ByteArray → Int → List ByteArray → List ByteArray → Int → Option (List ByteArray × Bool)
  | 0, _, _, _, _, _, _, _, _, _, _ => none
  | k + 1, x0_9, x1_9, l2_9, x3_9, x4_9, x5_9, x6_9, l7_9, l8_9, x9_9 => b9 (spec_RunScript.l9 k) k x0_9 x1_9 l2_9 x3_9 x4_9 x5_9 x6_9 l7_9 l8_9 x9_9
def m (o9 : Int → Int → (List (Int × Int × Int × Int × Int)) → Int → ByteArray → ByteArray → Int → List ByteArray → List ByteArray → Int → Option (List ByteArray × Bool)) (k : Nat) (a0_0 a0_1 : Int) (l0_2 : List (Int × Int × Int × Int × Int)) (a0_3 : Int) (a0_4 a0_5 : ByteArray) (a0_6 : Int) (a1 : ByteArray) : Option (List ByteArray × Bool) := ((spec_l1Split.f k a1 10).bind fun r1 => ((spec_l28Good.f k a0_0 a0_1 l0_2 a0_3 a0_4 a0_5 a0_6).bind fun r2 => (cond (!r2) (some (([] : List (ByteArray)), false)) (if 4000 < (a1.size : Int) then (some (([] : List (ByteArray)), false)) else (if 30 < (r1.length : Int) then (some (([] : List (ByteArray)), false)) else (o9 a0_0 a0_1 l0_2 a0_3 a0_4 a0_5 a0_6 ([] : List (ByteArray)) r1 0))))))
def f (k : Nat) (a0_0 a0_1 : Int) (l0_2 : List (Int × Int × Int × Int × Int)) (a0_3 : Int) (a0_4 a0_5 : ByteArray) (a0_6 : Int) (a1 : ByteArray) : Option (List ByteArray × Bool) := m (spec_RunScript.l9 k) k a0_0 a0_1 l0_2 a0_3 a0_4 a0_5 a0_6 a1
noncomputable def spec (k : Nat) : FnSpec := ⟨[.ag [.d (.int .i64) none, .d (.int .i64) none, .d (.sl (.pair (.int .i64) (.pair (.int .i64) (.pair (.int .i64) (.pair (.int .i64) (.int .i64)))))) none, .d (.int .i64) none, .d .str none, .d .str none, .d (.int .i64) none], .d .str none], [.d (.sl .str) (some 9), .d .bool none], fun x => f k x.1 x.2.1 x.2.2.1 x.2.2.2.1 x.2.2.2.2.1 x.2.2.2.2.2.1 x.2.2.2.2.2.2.1 x.2.2.2.2.2.2.2⟩
def S9 (x0_9 x1_9 : Int) (l2_9 : List (Int × Int × Int × Int × Int)) (x3_9 : Int) (x4_9 x5_9 : ByteArray) (x6_9 : Int) (l7_9 l8_9 : List ByteArray) (x9_9 : Int) : St := ⟨[(2, .ptr 100 0), (6, .ref 101), (7, .ref 102), (9, .val (.int .i64) x9_9)], [(102, some (.row 9 .str l8_9)), (101, some (.row 9 .str l7_9)), (100, some (.box [.val (.int .i64) x0_9, .val (.int .i64) x1_9, .val (.sl (.pair (.int .i64) (.pair (.int .i64) (.pair (.int .i64) (.pair (.int .i64) (.int .i64)))))) l2_9, .val (.int .i64) x3_9, .val .str x4_9, .val .str x5_9, .val (.int .i64) x6_9]))], 1000⟩
noncomputable def T : FnText := ⟨(conv [] (bodyOf Tryz.f26) 0).1, Tryz.f26.results.toList, 47, [(9, [(2, .bx 100 [.rd (.int .i64), .rd (.int .i64), .rd (.sl (.pair (.int .i64) (.pair (.int .i64) (.pair (.int .i64) (.pair (.int .i64) (.int .i64)))))), .rd (.int .i64), .rd .str, .rd .str, .rd (.int .i64)]), (6, .own 9 .str 101), (7, .own 9 .str 102), (9, .rd (.int .i64))])], [.ag [.d (.int .i64) none, .d (.int .i64) none, .d (.sl (.pair (.int .i64) (.pair (.int .i64) (.pair (.int .i64) (.pair (.int .i64) (.int .i64)))))) none, .d (.int .i64) none, .d .str none, .d .str none, .d (.int .i64) none], .d .str none], [.d (.sl .str) (some 9), .d .bool none]⟩
noncomputable def tbl (k : Nat) : Tbl := [(66, spec_l1Split.spec k), (44, spec_l28Good.spec k), (14, spec_ExecuteCommand.spec k)]
theorem e9 (k : Nat) (o : Nat → St → Option (List ByteArray × Bool)) (x0_9 x1_9 : Int) (l2_9 : List (Int × Int × Int × Int × Int)) (x3_9 : Int) (x4_9 x5_9 : ByteArray) (x6_9 : Int) (l7_9 l8_9 : List ByteArray) (x9_9 : Int) : T.step tyt (tbl k) o 9 (S9 x0_9 x1_9 l2_9 x3_9 x4_9 x5_9 x6_9 l7_9 l8_9 x9_9) = b9 (fun x0_9 x1_9 l2_9 x3_9 x4_9 x5_9 x6_9 l7_9 l8_9 x9_9 => o 9 (S9 x0_9 x1_9 l2_9 x3_9 x4_9 x5_9 x6_9 l7_9 l8_9 x9_9)) k x0_9 x1_9 l2_9 x3_9 x4_9 x5_9 x6_9 l7_9 l8_9 x9_9 := by kernel_rfl
theorem e (k : Nat) (o : Nat → St → Option (List ByteArray × Bool)) (a0_0 a0_1 : Int) (l0_2 : List (Int × Int × Int × Int × Int)) (a0_3 : Int) (a0_4 a0_5 : ByteArray) (a0_6 : Int) (a1 : ByteArray) : T.main tyt (tbl k) o (a0_0, a0_1, l0_2, a0_3, a0_4, a0_5, a0_6, a1) = m (fun x0_9 x1_9 l2_9 x3_9 x4_9 x5_9 x6_9 l7_9 l8_9 x9_9 => o 9 (S9 x0_9 x1_9 l2_9 x3_9 x4_9 x5_9 x6_9 l7_9 l8_9 x9_9)) k a0_0 a0_1 l0_2 a0_3 a0_4 a0_5 a0_6 a1 := by kernel_rfl
theorem ok : T.ok = true := by kernel_rfl
theorem run (k : Nat) : (∀ (x0_9 x1_9 : Int) (l2_9 : List (Int × Int × Int × Int × Int)) (x3_9 : Int) (x4_9 x5_9 : ByteArray) (x6_9 : Int) (l7_9 l8_9 : List ByteArray) (x9_9 : Int), T.run tyt tbl k 9 (S9 x0_9 x1_9 l2_9 x3_9 x4_9 x5_9 x6_9 l7_9 l8_9 x9_9) = spec_RunScript.l9 k x0_9 x1_9 l2_9 x3_9 x4_9 x5_9 x6_9 l7_9 l8_9 x9_9) := by
  induction k with
  | zero => exact fun x0_9 x1_9 l2_9 x3_9 x4_9 x5_9 x6_9 l7_9 l8_9 x9_9 => rfl
  | succ k ih =>
    exact fun x0_9 x1_9 l2_9 x3_9 x4_9 x5_9 x6_9 l7_9 l8_9 x9_9 => by
      have q9 : (fun x0_9 x1_9 l2_9 x3_9 x4_9 x5_9 x6_9 l7_9 l8_9 x9_9 => T.run tyt tbl k 9 (S9 x0_9 x1_9 l2_9 x3_9 x4_9 x5_9 x6_9 l7_9 l8_9 x9_9)) = spec_RunScript.l9 k := by funext x0_9 x1_9 l2_9 x3_9 x4_9 x5_9 x6_9 l7_9 l8_9 x9_9; exact ih x0_9 x1_9 l2_9 x3_9 x4_9 x5_9 x6_9 l7_9 l8_9 x9_9
      exact (e9 k (T.run tyt tbl k) x0_9 x1_9 l2_9 x3_9 x4_9 x5_9 x6_9 l7_9 l8_9 x9_9).trans (by rw [q9]; rfl)
theorem tblok (k : Nat) : TblOk Tryz.prog (tbl k) := TblOk.cons (spec_l1Split.sound k) (TblOk.cons (spec_l28Good.sound k) (TblOk.cons (spec_ExecuteCommand.sound k) (TblOk.nil _)))
theorem sound (k : Nat) : Sound Tryz.prog 26 (spec k) := by
  have h := fn_ok (F := T) (tbl := tbl) mixed tyok Tryz.func26 (by kernel_rfl) (c0 := bodyOf Tryz.f26) rfl (conv_code _ _ _) rfl rfl ok k (fun j _ => tblok j)
  have q9 : (fun x0_9 x1_9 l2_9 x3_9 x4_9 x5_9 x6_9 l7_9 l8_9 x9_9 => T.run tyt tbl k 9 (S9 x0_9 x1_9 l2_9 x3_9 x4_9 x5_9 x6_9 l7_9 l8_9 x9_9)) = spec_RunScript.l9 k := by funext x0_9 x1_9 l2_9 x3_9 x4_9 x5_9 x6_9 l7_9 l8_9 x9_9; exact (run k) x0_9 x1_9 l2_9 x3_9 x4_9 x5_9 x6_9 l7_9 l8_9 x9_9
  have e : spec k = ⟨T.ps, T.rs, T.ev tyt tbl k⟩ := congrArg (FnSpec.mk _ _) (funext fun x => ((e k (T.run tyt tbl k) x.1 x.2.1 x.2.2.1 x.2.2.2.1 x.2.2.2.2.1 x.2.2.2.2.2.1 x.2.2.2.2.2.2.1 x.2.2.2.2.2.2.2).trans (by rw [q9]; rfl)).symm)
  rw [e]
  exact h
end spec_RunScript

namespace spec_SplitString
/-! ### spec_SplitString: function 32 -/
def m (k : Nat) (a0 a1 : ByteArray) : Option (List ByteArray × Bool) := (if ¬ (a1.size : Int) = 1 then (some (([] : List (ByteArray)), false)) else (if 4000 < (a0.size : Int) then (some (([] : List (ByteArray)), false)) else ((chk a1.size 0).bind fun i1 => ((spec_l1Split.f k a0 (byteAt a1 i1)).bind fun r2 => (some (r2, true))))))
def f (k : Nat) (a0 a1 : ByteArray) : Option (List ByteArray × Bool) := m k a0 a1
noncomputable def spec (k : Nat) : FnSpec := ⟨[.d .str none, .d .str none], [.d (.sl .str) (some 9), .d .bool none], fun x => f k x.1 x.2⟩
noncomputable def T : FnText := ⟨(conv [] (bodyOf Tryz.f32) 0).1, Tryz.f32.results.toList, 19, [], [.d .str none, .d .str none], [.d (.sl .str) (some 9), .d .bool none]⟩
noncomputable def tbl (k : Nat) : Tbl := [(66, spec_l1Split.spec k)]
theorem e (k : Nat) (o : Nat → St → Option (List ByteArray × Bool)) (a0 a1 : ByteArray) : T.main tyt (tbl k) o (a0, a1) = m k a0 a1 := by kernel_rfl
theorem ok : T.ok = true := by kernel_rfl
theorem tblok (k : Nat) : TblOk Tryz.prog (tbl k) := TblOk.cons (spec_l1Split.sound k) (TblOk.nil _)
theorem sound (k : Nat) : Sound Tryz.prog 32 (spec k) := by
  have h := fn_ok (F := T) (tbl := tbl) mixed tyok Tryz.func32 (by kernel_rfl) (c0 := bodyOf Tryz.f32) rfl (conv_code _ _ _) rfl rfl ok k (fun j _ => tblok j)
  have e : spec k = ⟨T.ps, T.rs, T.ev tyt tbl k⟩ := congrArg (FnSpec.mk _ _) (funext fun x => ((e k (T.run tyt tbl k) x.1 x.2).trans (by rfl)).symm)
  rw [e]
  exact h
end spec_SplitString

/-! ### impl_FormatConsole: function 33, by its walk -/
def impl_FormatConsole.f (k : Nat) (a0 a1 : Int) (a2 : List (Int × Int × Int × Int × Int)) (a3 : Int) (a4 a5 : ByteArray) (a6 : Int) : Option (ByteArray × Bool) := fmtF (impl_IsValidConsole.f k) (impl_CarpetText.f k) (impl_decimal.f k) a0 a1 a2 a3 a4 a5 a6
noncomputable def impl_FormatConsole.spec (k : Nat) : FnSpec := ⟨[.ag [.d (.int .i64) none, .d (.int .i64) none, .d (.sl (.pair (.int .i64) (.pair (.int .i64) (.pair (.int .i64) (.pair (.int .i64) (.int .i64)))))) none, .d (.int .i64) none, .d .str none, .d .str none, .d (.int .i64) none]], [.d .str none, .d .bool none], fun x => impl_FormatConsole.f k x.1 x.2.1 x.2.2.1 x.2.2.2.1 x.2.2.2.2.1 x.2.2.2.2.2.1 x.2.2.2.2.2.2⟩
theorem impl_FormatConsole.sound (k : Nat) : Sound Go.Proofs.Tryz.prog 33 (impl_FormatConsole.spec k) := strFmtConsole_ok (impl_IsValidConsole.sound k) (impl_CarpetText.sound k) (impl_decimal.sound k)

namespace spec_FormatConsole
/-! ### spec_FormatConsole: function 34 -/
def b7 (o7 : Int → Int → (List (Int × Int × Int × Int × Int)) → Int → ByteArray → ByteArray → Int → ByteArray → Int → Option (ByteArray × Bool)) (k : Nat) (x0_7 x1_7 : Int) (l2_7 : List (Int × Int × Int × Int × Int)) (x3_7 : Int) (x4_7 x5_7 : ByteArray) (x6_7 : Int) (x7_7 : ByteArray) (x8_7 : Int) : Option (ByteArray × Bool) := (if x8_7 < (l2_7.length : Int) then ((spec_l1Num.f k x8_7).bind fun r2 => ((catS x7_7 r2).bind fun s3 => ((catS s3 (⟨#[58, 32]⟩ : ByteArray)).bind fun s4 => ((chk l2_7.length x8_7).bind fun i5 => ((spec_l25Text.f k ((l2_7.getD i5 (0, 0, 0, 0, 0)).1) (((l2_7.getD i5 (0, 0, 0, 0, 0)).2).1) ((((l2_7.getD i5 (0, 0, 0, 0, 0)).2).2).1) (((((l2_7.getD i5 (0, 0, 0, 0, 0)).2).2).2).1) (((((l2_7.getD i5 (0, 0, 0, 0, 0)).2).2).2).2)).bind fun r6 => ((catS s4 r6).bind fun s7 => ((catS s7 (⟨#[10]⟩ : ByteArray)).bind fun s8 => (o7 x0_7 x1_7 l2_7 x3_7 x4_7 x5_7 x6_7 s8 (w64 (x8_7 + 1)))))))))) else ((catS x7_7 (⟨#[100, 97, 121, 32]⟩ : ByteArray)).bind fun s9 => ((spec_l1Num.f k x0_7).bind fun r10 => ((catS s9 r10).bind fun s11 => ((catS s11 (⟨#[59, 32, 109, 111, 110, 101, 121, 32]⟩ : ByteArray)).bind fun s12 => ((spec_l1Num.f k x3_7).bind fun r13 => ((catS s12 r13).bind fun s14 => ((catS s14 (⟨#[59, 32, 114, 101, 99, 111, 114, 100, 115, 32]⟩ : ByteArray)).bind fun s15 => ((spec_l1Num.f k x6_7).bind fun r16 => ((catS s15 r16).bind fun s17 => ((catS s17 (⟨#[10]⟩ : ByteArray)).bind fun s18 => (some (s18, true)))))))))))))
def l7 : Nat → Int → Int → (List (Int × Int × Int × Int × Int)) → Int → ByteArray → ByteArray → Int → ByteArray → Int → Option (ByteArray × Bool)
  | 0, _, _, _, _, _, _, _, _, _ => none
  | k + 1, x0_7, x1_7, l2_7, x3_7, x4_7, x5_7, x6_7, x7_7, x8_7 => b7 (spec_FormatConsole.l7 k) k x0_7 x1_7 l2_7 x3_7 x4_7 x5_7 x6_7 x7_7 x8_7
def m (o7 : Int → Int → (List (Int × Int × Int × Int × Int)) → Int → ByteArray → ByteArray → Int → ByteArray → Int → Option (ByteArray × Bool)) (k : Nat) (a0_0 a0_1 : Int) (l0_2 : List (Int × Int × Int × Int × Int)) (a0_3 : Int) (a0_4 a0_5 : ByteArray) (a0_6 : Int) : Option (ByteArray × Bool) := ((spec_l28Good.f k a0_0 a0_1 l0_2 a0_3 a0_4 a0_5 a0_6).bind fun r1 => (cond (!r1) (some ((⟨#[]⟩ : ByteArray), false)) (o7 a0_0 a0_1 l0_2 a0_3 a0_4 a0_5 a0_6 (⟨#[]⟩ : ByteArray) 0)))
def f (k : Nat) (a0_0 a0_1 : Int) (l0_2 : List (Int × Int × Int × Int × Int)) (a0_3 : Int) (a0_4 a0_5 : ByteArray) (a0_6 : Int) : Option (ByteArray × Bool) := m (spec_FormatConsole.l7 k) k a0_0 a0_1 l0_2 a0_3 a0_4 a0_5 a0_6
noncomputable def spec (k : Nat) : FnSpec := ⟨[.ag [.d (.int .i64) none, .d (.int .i64) none, .d (.sl (.pair (.int .i64) (.pair (.int .i64) (.pair (.int .i64) (.pair (.int .i64) (.int .i64)))))) none, .d (.int .i64) none, .d .str none, .d .str none, .d (.int .i64) none]], [.d .str none, .d .bool none], fun x => f k x.1 x.2.1 x.2.2.1 x.2.2.2.1 x.2.2.2.2.1 x.2.2.2.2.2.1 x.2.2.2.2.2.2⟩
def S7 (x0_7 x1_7 : Int) (l2_7 : List (Int × Int × Int × Int × Int)) (x3_7 : Int) (x4_7 x5_7 : ByteArray) (x6_7 : Int) (x7_7 : ByteArray) (x8_7 : Int) : St := ⟨[(1, .ptr 100 0), (4, .val .str x7_7), (5, .val (.int .i64) x8_7)], [(100, some (.box [.val (.int .i64) x0_7, .val (.int .i64) x1_7, .val (.sl (.pair (.int .i64) (.pair (.int .i64) (.pair (.int .i64) (.pair (.int .i64) (.int .i64)))))) l2_7, .val (.int .i64) x3_7, .val .str x4_7, .val .str x5_7, .val (.int .i64) x6_7]))], 1000⟩
noncomputable def T : FnText := ⟨(conv [] (bodyOf Tryz.f34) 0).1, Tryz.f34.results.toList, 51, [(7, [(1, .bx 100 [.rd (.int .i64), .rd (.int .i64), .rd (.sl (.pair (.int .i64) (.pair (.int .i64) (.pair (.int .i64) (.pair (.int .i64) (.int .i64)))))), .rd (.int .i64), .rd .str, .rd .str, .rd (.int .i64)]), (4, .rd .str), (5, .rd (.int .i64))])], [.ag [.d (.int .i64) none, .d (.int .i64) none, .d (.sl (.pair (.int .i64) (.pair (.int .i64) (.pair (.int .i64) (.pair (.int .i64) (.int .i64)))))) none, .d (.int .i64) none, .d .str none, .d .str none, .d (.int .i64) none]], [.d .str none, .d .bool none]⟩
noncomputable def tbl (k : Nat) : Tbl := [(44, spec_l28Good.spec k), (73, spec_l1Num.spec k), (74, spec_l25Text.spec k)]
theorem e7 (k : Nat) (o : Nat → St → Option (ByteArray × Bool)) (x0_7 x1_7 : Int) (l2_7 : List (Int × Int × Int × Int × Int)) (x3_7 : Int) (x4_7 x5_7 : ByteArray) (x6_7 : Int) (x7_7 : ByteArray) (x8_7 : Int) : T.step tyt (tbl k) o 7 (S7 x0_7 x1_7 l2_7 x3_7 x4_7 x5_7 x6_7 x7_7 x8_7) = b7 (fun x0_7 x1_7 l2_7 x3_7 x4_7 x5_7 x6_7 x7_7 x8_7 => o 7 (S7 x0_7 x1_7 l2_7 x3_7 x4_7 x5_7 x6_7 x7_7 x8_7)) k x0_7 x1_7 l2_7 x3_7 x4_7 x5_7 x6_7 x7_7 x8_7 := by kernel_rfl
theorem e (k : Nat) (o : Nat → St → Option (ByteArray × Bool)) (a0_0 a0_1 : Int) (l0_2 : List (Int × Int × Int × Int × Int)) (a0_3 : Int) (a0_4 a0_5 : ByteArray) (a0_6 : Int) : T.main tyt (tbl k) o (a0_0, a0_1, l0_2, a0_3, a0_4, a0_5, a0_6) = m (fun x0_7 x1_7 l2_7 x3_7 x4_7 x5_7 x6_7 x7_7 x8_7 => o 7 (S7 x0_7 x1_7 l2_7 x3_7 x4_7 x5_7 x6_7 x7_7 x8_7)) k a0_0 a0_1 l0_2 a0_3 a0_4 a0_5 a0_6 := by kernel_rfl
theorem ok : T.ok = true := by kernel_rfl
theorem run (k : Nat) : (∀ (x0_7 x1_7 : Int) (l2_7 : List (Int × Int × Int × Int × Int)) (x3_7 : Int) (x4_7 x5_7 : ByteArray) (x6_7 : Int) (x7_7 : ByteArray) (x8_7 : Int), T.run tyt tbl k 7 (S7 x0_7 x1_7 l2_7 x3_7 x4_7 x5_7 x6_7 x7_7 x8_7) = spec_FormatConsole.l7 k x0_7 x1_7 l2_7 x3_7 x4_7 x5_7 x6_7 x7_7 x8_7) := by
  induction k with
  | zero => exact fun x0_7 x1_7 l2_7 x3_7 x4_7 x5_7 x6_7 x7_7 x8_7 => rfl
  | succ k ih =>
    exact fun x0_7 x1_7 l2_7 x3_7 x4_7 x5_7 x6_7 x7_7 x8_7 => by
      have q7 : (fun x0_7 x1_7 l2_7 x3_7 x4_7 x5_7 x6_7 x7_7 x8_7 => T.run tyt tbl k 7 (S7 x0_7 x1_7 l2_7 x3_7 x4_7 x5_7 x6_7 x7_7 x8_7)) = spec_FormatConsole.l7 k := by funext x0_7 x1_7 l2_7 x3_7 x4_7 x5_7 x6_7 x7_7 x8_7; exact ih x0_7 x1_7 l2_7 x3_7 x4_7 x5_7 x6_7 x7_7 x8_7
      exact (e7 k (T.run tyt tbl k) x0_7 x1_7 l2_7 x3_7 x4_7 x5_7 x6_7 x7_7 x8_7).trans (by rw [q7]; rfl)
theorem tblok (k : Nat) : TblOk Tryz.prog (tbl k) := TblOk.cons (spec_l28Good.sound k) (TblOk.cons (spec_l1Num.sound k) (TblOk.cons (spec_l25Text.sound k) (TblOk.nil _)))
theorem sound (k : Nat) : Sound Tryz.prog 34 (spec k) := by
  have h := fn_ok (F := T) (tbl := tbl) mixed tyok Tryz.func34 (by kernel_rfl) (c0 := bodyOf Tryz.f34) rfl (conv_code _ _ _) rfl rfl ok k (fun j _ => tblok j)
  have q7 : (fun x0_7 x1_7 l2_7 x3_7 x4_7 x5_7 x6_7 x7_7 x8_7 => T.run tyt tbl k 7 (S7 x0_7 x1_7 l2_7 x3_7 x4_7 x5_7 x6_7 x7_7 x8_7)) = spec_FormatConsole.l7 k := by funext x0_7 x1_7 l2_7 x3_7 x4_7 x5_7 x6_7 x7_7 x8_7; exact (run k) x0_7 x1_7 l2_7 x3_7 x4_7 x5_7 x6_7 x7_7 x8_7
  have e : spec k = ⟨T.ps, T.rs, T.ev tyt tbl k⟩ := congrArg (FnSpec.mk _ _) (funext fun x => ((e k (T.run tyt tbl k) x.1 x.2.1 x.2.2.1 x.2.2.2.1 x.2.2.2.2.1 x.2.2.2.2.2.1 x.2.2.2.2.2.2).trans (by rw [q7]; rfl)).symm)
  rw [e]
  exact h
end spec_FormatConsole

namespace laws_FnScript
/-! ### laws_FnScript: function 7 -/
def b12 (o12 : Int → Int → (List (Int × Int × Int × Int × Int)) → Int → ByteArray → ByteArray → Int → ByteArray → List ByteArray → Bool → List ByteArray → Int → Option (Bool)) (k : Nat) (x0_12 x1_12 : Int) (l2_12 : List (Int × Int × Int × Int × Int)) (x3_12 : Int) (x4_12 x5_12 : ByteArray) (x6_12 : Int) (x7_12 : ByteArray) (l8_12 : List ByteArray) (x9_12 : Bool) (l10_12 : List ByteArray) (x11_12 : Int) : Option (Bool) := (if x11_12 < (l8_12.length : Int) then ((chk l8_12.length x11_12).bind fun i5 => ((chk l10_12.length x11_12).bind fun i6 => (if ¬ (l8_12.getD i5 ByteArray.empty) = (l10_12.getD i6 ByteArray.empty) then (some false) else (o12 x0_12 x1_12 l2_12 x3_12 x4_12 x5_12 x6_12 x7_12 l8_12 x9_12 l10_12 (w64 (x11_12 + 1)))))) else ((spec_SplitString.f k x7_12 (⟨#[10]⟩ : ByteArray)).bind fun r7 => (cond (!x9_12) (cond x9_12 (some true) (some (decide ((l8_12.length : Int) = 0)))) (if (r7.1.length : Int) < 2 then (cond x9_12 (some true) (some (decide ((l8_12.length : Int) = 0)))) else ((chk r7.1.length 0).bind fun i8 => ((impl_RunScript.f k x0_12 x1_12 l2_12 x3_12 x4_12 x5_12 x6_12 (r7.1.getD i8 ByteArray.empty)).bind fun r9 => ((impl_FormatConsole.f k x0_12 x1_12 l2_12 x3_12 x4_12 x5_12 x6_12).bind fun r10 => ((spec_FormatConsole.f k x0_12 x1_12 l2_12 x3_12 x4_12 x5_12 x6_12).bind fun r11 => (cond r9.2 (if (r9.1.length : Int) = 1 then ((chk r9.1.length 0).bind fun i12 => ((chk l8_12.length 0).bind fun i13 => (if (r9.1.getD i12 ByteArray.empty) = (l8_12.getD i13 ByteArray.empty) then (if r10.1 = r11.1 then (some (decide (r10.2 = r11.2))) else (some false)) else (some false)))) else (some false)) (some false))))))))))
def l12 : Nat → Int → Int → (List (Int × Int × Int × Int × Int)) → Int → ByteArray → ByteArray → Int → ByteArray → List ByteArray → Bool → List ByteArray → Int → Option (Bool)
  | 0, _, _, _, _, _, _, _, _, _, _, _, _ => none
  | k + 1, x0_12, x1_12, l2_12, x3_12, x4_12, x5_12, x6_12, x7_12, l8_12, x9_12, l10_12, x11_12 => b12 (laws_FnScript.l12 k) k x0_12 x1_12 l2_12 x3_12 x4_12 x5_12 x6_12 x7_12 l8_12 x9_12 l10_12 x11_12
def m (o12 : Int → Int → (List (Int × Int × Int × Int × Int)) → Int → ByteArray → ByteArray → Int → ByteArray → List ByteArray → Bool → List ByteArray → Int → Option (Bool)) (k : Nat) (l0 : List Int) : Option (Bool) := ((laws_vBig.f k l0).bind fun r1 => (cond r1 (some true) ((spec_DrawRunScript.f k l0).bind fun r2 => ((impl_RunScript.f k r2.1 r2.2.1 r2.2.2.1 r2.2.2.2.1 r2.2.2.2.2.1 r2.2.2.2.2.2.1 r2.2.2.2.2.2.2.1 r2.2.2.2.2.2.2.2).bind fun r3 => ((spec_RunScript.f k r2.1 r2.2.1 r2.2.2.1 r2.2.2.2.1 r2.2.2.2.2.1 r2.2.2.2.2.2.1 r2.2.2.2.2.2.2.1 r2.2.2.2.2.2.2.2).bind fun r4 => (if ¬ r3.2 = r4.2 then (some false) else (if ¬ (r3.1.length : Int) = (r4.1.length : Int) then (some false) else (o12 r2.1 r2.2.1 r2.2.2.1 r2.2.2.2.1 r2.2.2.2.2.1 r2.2.2.2.2.2.1 r2.2.2.2.2.2.2.1 r2.2.2.2.2.2.2.2 r3.1 r3.2 r4.1 0))))))))
def f (k : Nat) (l0 : List Int) : Option (Bool) := m (laws_FnScript.l12 k) k l0
noncomputable def spec (k : Nat) : FnSpec := ⟨[.d (.sl (.int .u8)) none], [.d .bool none], fun x => f k x⟩
def S12 (x0_12 x1_12 : Int) (l2_12 : List (Int × Int × Int × Int × Int)) (x3_12 : Int) (x4_12 x5_12 : ByteArray) (x6_12 : Int) (x7_12 : ByteArray) (l8_12 : List ByteArray) (x9_12 : Bool) (l10_12 : List ByteArray) (x11_12 : Int) : St := ⟨[(3, .ptr 100 0), (4, .val .str x7_12), (5, .ref 102), (6, .val .bool x9_12), (7, .ref 103), (9, .val (.int .i64) x11_12)], [(103, some (.row 9 .str l10_12)), (102, some (.row 9 .str l8_12)), (100, some (.box [.val (.int .i64) x0_12, .val (.int .i64) x1_12, .ref 101, .val (.int .i64) x3_12, .val .str x4_12, .val .str x5_12, .val (.int .i64) x6_12])), (101, some (.row 108 (.pair (.int .i64) (.pair (.int .i64) (.pair (.int .i64) (.pair (.int .i64) (.int .i64))))) l2_12))], 1000⟩
noncomputable def T : FnText := ⟨(conv [] (bodyOf Tryz.f7) 0).1, Tryz.f7.results.toList, 123, [(12, [(3, .bx 100 [.rd (.int .i64), .rd (.int .i64), .own 108 (.pair (.int .i64) (.pair (.int .i64) (.pair (.int .i64) (.pair (.int .i64) (.int .i64))))) 101, .rd (.int .i64), .rd .str, .rd .str, .rd (.int .i64)]), (4, .rd .str), (5, .own 9 .str 102), (6, .rd .bool), (7, .own 9 .str 103), (9, .rd (.int .i64))])], [.d (.sl (.int .u8)) none], [.d .bool none]⟩
noncomputable def tbl (k : Nat) : Tbl := [(20, laws_vBig.spec k), (31, spec_DrawRunScript.spec k), (27, impl_RunScript.spec k), (26, spec_RunScript.spec k), (32, spec_SplitString.spec k), (33, impl_FormatConsole.spec k), (34, spec_FormatConsole.spec k)]
theorem e12 (k : Nat) (o : Nat → St → Option (Bool)) (x0_12 x1_12 : Int) (l2_12 : List (Int × Int × Int × Int × Int)) (x3_12 : Int) (x4_12 x5_12 : ByteArray) (x6_12 : Int) (x7_12 : ByteArray) (l8_12 : List ByteArray) (x9_12 : Bool) (l10_12 : List ByteArray) (x11_12 : Int) : T.step tyt (tbl k) o 12 (S12 x0_12 x1_12 l2_12 x3_12 x4_12 x5_12 x6_12 x7_12 l8_12 x9_12 l10_12 x11_12) = b12 (fun x0_12 x1_12 l2_12 x3_12 x4_12 x5_12 x6_12 x7_12 l8_12 x9_12 l10_12 x11_12 => o 12 (S12 x0_12 x1_12 l2_12 x3_12 x4_12 x5_12 x6_12 x7_12 l8_12 x9_12 l10_12 x11_12)) k x0_12 x1_12 l2_12 x3_12 x4_12 x5_12 x6_12 x7_12 l8_12 x9_12 l10_12 x11_12 := by kernel_rfl
theorem e (k : Nat) (o : Nat → St → Option (Bool)) (l0 : List Int) : T.main tyt (tbl k) o l0 = m (fun x0_12 x1_12 l2_12 x3_12 x4_12 x5_12 x6_12 x7_12 l8_12 x9_12 l10_12 x11_12 => o 12 (S12 x0_12 x1_12 l2_12 x3_12 x4_12 x5_12 x6_12 x7_12 l8_12 x9_12 l10_12 x11_12)) k l0 := by kernel_rfl
theorem ok : T.ok = true := by kernel_rfl
theorem run (k : Nat) : (∀ (x0_12 x1_12 : Int) (l2_12 : List (Int × Int × Int × Int × Int)) (x3_12 : Int) (x4_12 x5_12 : ByteArray) (x6_12 : Int) (x7_12 : ByteArray) (l8_12 : List ByteArray) (x9_12 : Bool) (l10_12 : List ByteArray) (x11_12 : Int), T.run tyt tbl k 12 (S12 x0_12 x1_12 l2_12 x3_12 x4_12 x5_12 x6_12 x7_12 l8_12 x9_12 l10_12 x11_12) = laws_FnScript.l12 k x0_12 x1_12 l2_12 x3_12 x4_12 x5_12 x6_12 x7_12 l8_12 x9_12 l10_12 x11_12) := by
  induction k with
  | zero => exact fun x0_12 x1_12 l2_12 x3_12 x4_12 x5_12 x6_12 x7_12 l8_12 x9_12 l10_12 x11_12 => rfl
  | succ k ih =>
    exact fun x0_12 x1_12 l2_12 x3_12 x4_12 x5_12 x6_12 x7_12 l8_12 x9_12 l10_12 x11_12 => by
      have q12 : (fun x0_12 x1_12 l2_12 x3_12 x4_12 x5_12 x6_12 x7_12 l8_12 x9_12 l10_12 x11_12 => T.run tyt tbl k 12 (S12 x0_12 x1_12 l2_12 x3_12 x4_12 x5_12 x6_12 x7_12 l8_12 x9_12 l10_12 x11_12)) = laws_FnScript.l12 k := by funext x0_12 x1_12 l2_12 x3_12 x4_12 x5_12 x6_12 x7_12 l8_12 x9_12 l10_12 x11_12; exact ih x0_12 x1_12 l2_12 x3_12 x4_12 x5_12 x6_12 x7_12 l8_12 x9_12 l10_12 x11_12
      exact (e12 k (T.run tyt tbl k) x0_12 x1_12 l2_12 x3_12 x4_12 x5_12 x6_12 x7_12 l8_12 x9_12 l10_12 x11_12).trans (by rw [q12]; rfl)
theorem tblok (k : Nat) : TblOk Tryz.prog (tbl k) := TblOk.cons (laws_vBig.sound k) (TblOk.cons (spec_DrawRunScript.sound k) (TblOk.cons (impl_RunScript.sound k) (TblOk.cons (spec_RunScript.sound k) (TblOk.cons (spec_SplitString.sound k) (TblOk.cons (impl_FormatConsole.sound k) (TblOk.cons (spec_FormatConsole.sound k) (TblOk.nil _)))))))
theorem sound (k : Nat) : Sound Tryz.prog 7 (spec k) := by
  have h := fn_ok (F := T) (tbl := tbl) mixed tyok Tryz.func7 (by kernel_rfl) (c0 := bodyOf Tryz.f7) rfl (conv_code _ _ _) rfl rfl ok k (fun j _ => tblok j)
  have q12 : (fun x0_12 x1_12 l2_12 x3_12 x4_12 x5_12 x6_12 x7_12 l8_12 x9_12 l10_12 x11_12 => T.run tyt tbl k 12 (S12 x0_12 x1_12 l2_12 x3_12 x4_12 x5_12 x6_12 x7_12 l8_12 x9_12 l10_12 x11_12)) = laws_FnScript.l12 k := by funext x0_12 x1_12 l2_12 x3_12 x4_12 x5_12 x6_12 x7_12 l8_12 x9_12 l10_12 x11_12; exact (run k) x0_12 x1_12 l2_12 x3_12 x4_12 x5_12 x6_12 x7_12 l8_12 x9_12 l10_12 x11_12
  have e : spec k = ⟨T.ps, T.rs, T.ev tyt tbl k⟩ := congrArg (FnSpec.mk _ _) (funext fun x => ((e k (T.run tyt tbl k) x).trans (by rw [q12]; rfl)).symm)
  rw [e]
  exact h
end laws_FnScript


/-- The pure statement. -/
def Pure : Prop := ∀ (l0 : List Int), (l0.length * 1 ≤ 140737488351232) → (∀ y0 ∈ l0, (Lit.int .u8 y0).wf = true) → ∃ k, laws_FnScript.f k l0 = some true
end Go.Proofs.YtiacidpjplmgaaaGreatDoor.DFnScript
