-- Printed by this session's own program (wip/deep/drow.py); Lean checks it.
import Derived.Test.YtiacidpjplmgaaaGreatDoorDFnExactExecuteCommandp1
import Derived.Test.YtiacidpjplmgaaaGreatDoorProg
set_option linter.unusedVariables false
set_option maxRecDepth 100000
namespace Go.Proofs.YtiacidpjplmgaaaGreatDoor.DFnExactExecuteCommand
open Go Go.Proofs.YtiacidpjplmgaaaGreatDoorD
namespace impl_Shop_step
/-! ### impl_Shop_step: function 98 -/
def b5 (k : Nat) (x0_5 x1_5 : Int) (l2_5 : List (Int × Int × Int × Int × Int)) (x3_5 x4_5 x5_5 : Int) (l6_5 : List (Int × Int × Int × Int × Int)) (x7_5 : Int) : Option (Int × Int × List (Int × Int × Int × Int × Int) × Int × Bool) := ((impl_IsShop.f k x4_5 x5_5 l6_5 x7_5).bind fun r8 => (cond (!r8) (some (0, 0, [], 0, false)) (some (x4_5, x5_5, l6_5, x7_5, true))))
def l5 : Nat → Int → Int → (List (Int × Int × Int × Int × Int)) → Int → Int → Int → (List (Int × Int × Int × Int × Int)) → Int → Option (Int × Int × List (Int × Int × Int × Int × Int) × Int × Bool)
  | 0, _, _, _, _, _, _, _, _ => none
  | k + 1, x0_5, x1_5, l2_5, x3_5, x4_5, x5_5, l6_5, x7_5 => b5 k x0_5 x1_5 l2_5 x3_5 x4_5 x5_5 l6_5 x7_5
def m (o5 : Int → Int → (List (Int × Int × Int × Int × Int)) → Int → Int → Int → (List (Int × Int × Int × Int × Int)) → Int → Option (Int × Int × List (Int × Int × Int × Int × Int) × Int × Bool)) (k : Nat) (a0_0 a0_1 : Int) (l0_2 : List (Int × Int × Int × Int × Int)) (a0_3 a1_0 a1_1 a1_2 : Int) : Option (Int × Int × List (Int × Int × Int × Int × Int) × Int × Bool) := ((impl_ShopStep_isValid.f k a1_0 a1_1 a1_2).bind fun r1 => (cond (!r1) (some (0, 0, [], 0, false)) ((impl_Shop_copied.f k a0_0 a0_1 l0_2 a0_3).bind fun r2 => (if a1_0 = 1 then (o5 0 0 [] 0 (w64 (r2.1 + a1_2)) r2.2.1 r2.2.2.1 r2.2.2.2) else (if a1_0 = 2 then ((app 3518437208883 r2.2.2.1 [(a1_2, 0, 0, 0, a0_0)]).bind fun l3 => (o5 0 0 [] 0 r2.1 r2.2.1 l3 r2.2.2.2)) else ((impl_in.f k a1_1 0 (w64 ((l0_2.length : Int) - 1))).bind fun r4 => (cond (!r4) (some (0, 0, [], 0, false)) ((chk l0_2.length a1_1).bind fun i5 => ((impl_Shop_canChange.f k a0_0 a0_1 l0_2 a0_3 a1_0 a1_1 a1_2 ((l0_2.getD i5 (0, 0, 0, 0, 0)).1) (((l0_2.getD i5 (0, 0, 0, 0, 0)).2).1) ((((l0_2.getD i5 (0, 0, 0, 0, 0)).2).2).1) (((((l0_2.getD i5 (0, 0, 0, 0, 0)).2).2).2).1) (((((l0_2.getD i5 (0, 0, 0, 0, 0)).2).2).2).2)).bind fun r6 => (cond (!r6) (some (0, 0, [], 0, false)) ((impl_Shop_change.f k r2.1 r2.2.1 r2.2.2.1 r2.2.2.2 a1_0 a1_1 a1_2).bind fun r7 => (o5 0 0 [] 0 r7.1 r7.2.1 r7.2.2.1 r7.2.2.2))))))))))))
def f (k : Nat) (a0_0 a0_1 : Int) (l0_2 : List (Int × Int × Int × Int × Int)) (a0_3 a1_0 a1_1 a1_2 : Int) : Option (Int × Int × List (Int × Int × Int × Int × Int) × Int × Bool) := m (impl_Shop_step.l5 k) k a0_0 a0_1 l0_2 a0_3 a1_0 a1_1 a1_2
noncomputable def spec (k : Nat) : FnSpec := ⟨[.ag [.d (.int .i64) none, .d (.int .i64) none, .d (.sl (.pair (.int .i64) (.pair (.int .i64) (.pair (.int .i64) (.pair (.int .i64) (.int .i64)))))) none, .d (.int .i64) none], .ag [.d (.int .i64) none, .d (.int .i64) none, .d (.int .i64) none]], [.ag [.d (.int .i64) none, .d (.int .i64) none, .d (.sl (.pair (.int .i64) (.pair (.int .i64) (.pair (.int .i64) (.pair (.int .i64) (.int .i64)))))) (some 108), .d (.int .i64) none], .d .bool none], fun x => f k x.1 x.2.1 x.2.2.1 x.2.2.2.1 x.2.2.2.2.1 x.2.2.2.2.2.1 x.2.2.2.2.2.2⟩
def S5 (x0_5 x1_5 : Int) (l2_5 : List (Int × Int × Int × Int × Int)) (x3_5 x4_5 x5_5 : Int) (l6_5 : List (Int × Int × Int × Int × Int)) (x7_5 : Int) : St := ⟨[(4, .ptr 100 0), (6, .ptr 101 0)], [(101, some (.box [.val (.int .i64) x4_5, .val (.int .i64) x5_5, .ref 102, .val (.int .i64) x7_5])), (102, some (.row 108 (.pair (.int .i64) (.pair (.int .i64) (.pair (.int .i64) (.pair (.int .i64) (.int .i64))))) l6_5)), (100, some (.box [.val (.int .i64) x0_5, .val (.int .i64) x1_5, .val (.sl (.pair (.int .i64) (.pair (.int .i64) (.pair (.int .i64) (.pair (.int .i64) (.int .i64)))))) l2_5, .val (.int .i64) x3_5]))], 1000⟩
noncomputable def T : FnText := ⟨(conv [5] (bodyOf Tryz.f98) 0).1, Tryz.f98.results.toList, 63, [(5, [(4, .bx 100 [.rd (.int .i64), .rd (.int .i64), .rd (.sl (.pair (.int .i64) (.pair (.int .i64) (.pair (.int .i64) (.pair (.int .i64) (.int .i64)))))), .rd (.int .i64)]), (6, .bx 101 [.rd (.int .i64), .rd (.int .i64), .own 108 (.pair (.int .i64) (.pair (.int .i64) (.pair (.int .i64) (.pair (.int .i64) (.int .i64))))) 102, .rd (.int .i64)])])], [.ag [.d (.int .i64) none, .d (.int .i64) none, .d (.sl (.pair (.int .i64) (.pair (.int .i64) (.pair (.int .i64) (.pair (.int .i64) (.int .i64)))))) none, .d (.int .i64) none], .ag [.d (.int .i64) none, .d (.int .i64) none, .d (.int .i64) none]], [.ag [.d (.int .i64) none, .d (.int .i64) none, .d (.sl (.pair (.int .i64) (.pair (.int .i64) (.pair (.int .i64) (.pair (.int .i64) (.int .i64)))))) (some 108), .d (.int .i64) none], .d .bool none]⟩
noncomputable def tbl (k : Nat) : Tbl := [(138, impl_ShopStep_isValid.spec k), (93, impl_Shop_copied.spec k), (79, impl_in.spec k), (139, impl_Shop_canChange.spec k), (140, impl_Shop_change.spec k), (63, impl_IsShop.spec k)]
theorem e5 (k : Nat) (o : Nat → St → Option (Int × Int × List (Int × Int × Int × Int × Int) × Int × Bool)) (x0_5 x1_5 : Int) (l2_5 : List (Int × Int × Int × Int × Int)) (x3_5 x4_5 x5_5 : Int) (l6_5 : List (Int × Int × Int × Int × Int)) (x7_5 : Int) : T.step tyt (tbl k) o 5 (S5 x0_5 x1_5 l2_5 x3_5 x4_5 x5_5 l6_5 x7_5) = b5 k x0_5 x1_5 l2_5 x3_5 x4_5 x5_5 l6_5 x7_5 := by kernel_rfl
theorem e (k : Nat) (o : Nat → St → Option (Int × Int × List (Int × Int × Int × Int × Int) × Int × Bool)) (a0_0 a0_1 : Int) (l0_2 : List (Int × Int × Int × Int × Int)) (a0_3 a1_0 a1_1 a1_2 : Int) : T.main tyt (tbl k) o (a0_0, a0_1, l0_2, a0_3, a1_0, a1_1, a1_2) = m (fun x0_5 x1_5 l2_5 x3_5 x4_5 x5_5 l6_5 x7_5 => o 5 (S5 x0_5 x1_5 l2_5 x3_5 x4_5 x5_5 l6_5 x7_5)) k a0_0 a0_1 l0_2 a0_3 a1_0 a1_1 a1_2 := by kernel_rfl
theorem ok : T.ok = true := by kernel_rfl
theorem run (k : Nat) : (∀ (x0_5 x1_5 : Int) (l2_5 : List (Int × Int × Int × Int × Int)) (x3_5 x4_5 x5_5 : Int) (l6_5 : List (Int × Int × Int × Int × Int)) (x7_5 : Int), T.run tyt tbl k 5 (S5 x0_5 x1_5 l2_5 x3_5 x4_5 x5_5 l6_5 x7_5) = impl_Shop_step.l5 k x0_5 x1_5 l2_5 x3_5 x4_5 x5_5 l6_5 x7_5) := by
  induction k with
  | zero => exact fun x0_5 x1_5 l2_5 x3_5 x4_5 x5_5 l6_5 x7_5 => rfl
  | succ k ih =>
    exact fun x0_5 x1_5 l2_5 x3_5 x4_5 x5_5 l6_5 x7_5 => by
      exact (e5 k (T.run tyt tbl k) x0_5 x1_5 l2_5 x3_5 x4_5 x5_5 l6_5 x7_5).trans (by rfl)
theorem tblok (k : Nat) : TblOk Tryz.prog (tbl k) := TblOk.cons (impl_ShopStep_isValid.sound k) (TblOk.cons (impl_Shop_copied.sound k) (TblOk.cons (impl_in.sound k) (TblOk.cons (impl_Shop_canChange.sound k) (TblOk.cons (impl_Shop_change.sound k) (TblOk.cons (impl_IsShop.sound k) (TblOk.nil _))))))
theorem sound (k : Nat) : Sound Tryz.prog 98 (spec k) := by
  have h := fn_ok (F := T) (tbl := tbl) mixed tyok Tryz.func98 (by kernel_rfl) (c0 := bodyOf Tryz.f98) rfl (conv_code _ _ _) rfl rfl ok k (fun j _ => tblok j)
  have q5 : (fun x0_5 x1_5 l2_5 x3_5 x4_5 x5_5 l6_5 x7_5 => T.run tyt tbl k 5 (S5 x0_5 x1_5 l2_5 x3_5 x4_5 x5_5 l6_5 x7_5)) = impl_Shop_step.l5 k := by funext x0_5 x1_5 l2_5 x3_5 x4_5 x5_5 l6_5 x7_5; exact (run k) x0_5 x1_5 l2_5 x3_5 x4_5 x5_5 l6_5 x7_5
  have e : spec k = ⟨T.ps, T.rs, T.ev tyt tbl k⟩ := congrArg (FnSpec.mk _ _) (funext fun x => ((e k (T.run tyt tbl k) x.1 x.2.1 x.2.2.1 x.2.2.2.1 x.2.2.2.2.1 x.2.2.2.2.2.1 x.2.2.2.2.2.2).trans (by rw [q5]; rfl)).symm)
  rw [e]
  exact h
end impl_Shop_step

namespace impl_CarpetText
/-! ### impl_CarpetText: function 69 -/
def b6 (k : Nat) (x0_6 x1_6 x2_6 x3_6 x4_6 : Int) (x5_6 : ByteArray) : Option (ByteArray × Bool) := (if 0 < x3_6 then ((impl_decimal.f k x3_6).bind fun r34 => ((catS (⟨#[32, 111, 110, 32]⟩ : ByteArray) r34).bind fun s35 => ((catS x5_6 s35).bind fun s36 => (some (s36, true))))) else (some (x5_6, true)))
def l6 : Nat → Int → Int → Int → Int → Int → ByteArray → Option (ByteArray × Bool)
  | 0, _, _, _, _, _, _ => none
  | k + 1, x0_6, x1_6, x2_6, x3_6, x4_6, x5_6 => b6 k x0_6 x1_6 x2_6 x3_6 x4_6 x5_6
def m (o6 : Int → Int → Int → Int → Int → ByteArray → Option (ByteArray × Bool)) (k : Nat) (a0_0 a0_1 : Int) (l0_2 : List (Int × Int × Int × Int × Int)) (a0_3 a1 : Int) : Option (ByteArray × Bool) := ((impl_IsShop.f k a0_0 a0_1 l0_2 a0_3).bind fun r1 => (cond (!r1) (some ((⟨#[]⟩ : ByteArray), false)) ((impl_in.f k a1 0 (w64 ((l0_2.length : Int) - 1))).bind fun r2 => (cond (!r2) (some ((⟨#[]⟩ : ByteArray), false)) ((chk l0_2.length a1).bind fun i3 => (if ((((l0_2.getD i3 (0, 0, 0, 0, 0)).2).2).1) = 4 then ((catS (⟨#[115, 111, 108, 100]⟩ : ByteArray) (⟨#[32]⟩ : ByteArray)).bind fun s28 => ((impl_decimal.f k (((l0_2.getD i3 (0, 0, 0, 0, 0)).2).1)).bind fun r29 => ((catS s28 r29).bind fun s30 => ((catS s30 (⟨#[47]⟩ : ByteArray)).bind fun s31 => ((impl_decimal.f k ((l0_2.getD i3 (0, 0, 0, 0, 0)).1)).bind fun r32 => ((catS s31 r32).bind fun s33 => (o6 ((l0_2.getD i3 (0, 0, 0, 0, 0)).1) (((l0_2.getD i3 (0, 0, 0, 0, 0)).2).1) ((((l0_2.getD i3 (0, 0, 0, 0, 0)).2).2).1) (((((l0_2.getD i3 (0, 0, 0, 0, 0)).2).2).2).1) (((((l0_2.getD i3 (0, 0, 0, 0, 0)).2).2).2).2) s33))))))) else (if ((((l0_2.getD i3 (0, 0, 0, 0, 0)).2).2).1) = 3 then ((catS (⟨#[119, 97, 115, 104, 101, 100]⟩ : ByteArray) (⟨#[32]⟩ : ByteArray)).bind fun s22 => ((impl_decimal.f k (((l0_2.getD i3 (0, 0, 0, 0, 0)).2).1)).bind fun r23 => ((catS s22 r23).bind fun s24 => ((catS s24 (⟨#[47]⟩ : ByteArray)).bind fun s25 => ((impl_decimal.f k ((l0_2.getD i3 (0, 0, 0, 0, 0)).1)).bind fun r26 => ((catS s25 r26).bind fun s27 => (o6 ((l0_2.getD i3 (0, 0, 0, 0, 0)).1) (((l0_2.getD i3 (0, 0, 0, 0, 0)).2).1) ((((l0_2.getD i3 (0, 0, 0, 0, 0)).2).2).1) (((((l0_2.getD i3 (0, 0, 0, 0, 0)).2).2).2).1) (((((l0_2.getD i3 (0, 0, 0, 0, 0)).2).2).2).2) s27))))))) else (if ((((l0_2.getD i3 (0, 0, 0, 0, 0)).2).2).1) = 2 then ((catS (⟨#[111, 102, 102]⟩ : ByteArray) (⟨#[32]⟩ : ByteArray)).bind fun s16 => ((impl_decimal.f k (((l0_2.getD i3 (0, 0, 0, 0, 0)).2).1)).bind fun r17 => ((catS s16 r17).bind fun s18 => ((catS s18 (⟨#[47]⟩ : ByteArray)).bind fun s19 => ((impl_decimal.f k ((l0_2.getD i3 (0, 0, 0, 0, 0)).1)).bind fun r20 => ((catS s19 r20).bind fun s21 => (o6 ((l0_2.getD i3 (0, 0, 0, 0, 0)).1) (((l0_2.getD i3 (0, 0, 0, 0, 0)).2).1) ((((l0_2.getD i3 (0, 0, 0, 0, 0)).2).2).1) (((((l0_2.getD i3 (0, 0, 0, 0, 0)).2).2).2).1) (((((l0_2.getD i3 (0, 0, 0, 0, 0)).2).2).2).2) s21))))))) else (if ((((l0_2.getD i3 (0, 0, 0, 0, 0)).2).2).1) = 1 then ((catS (⟨#[119, 111, 118, 101, 110]⟩ : ByteArray) (⟨#[32]⟩ : ByteArray)).bind fun s10 => ((impl_decimal.f k (((l0_2.getD i3 (0, 0, 0, 0, 0)).2).1)).bind fun r11 => ((catS s10 r11).bind fun s12 => ((catS s12 (⟨#[47]⟩ : ByteArray)).bind fun s13 => ((impl_decimal.f k ((l0_2.getD i3 (0, 0, 0, 0, 0)).1)).bind fun r14 => ((catS s13 r14).bind fun s15 => (o6 ((l0_2.getD i3 (0, 0, 0, 0, 0)).1) (((l0_2.getD i3 (0, 0, 0, 0, 0)).2).1) ((((l0_2.getD i3 (0, 0, 0, 0, 0)).2).2).1) (((((l0_2.getD i3 (0, 0, 0, 0, 0)).2).2).2).1) (((((l0_2.getD i3 (0, 0, 0, 0, 0)).2).2).2).2) s15))))))) else (if ((((l0_2.getD i3 (0, 0, 0, 0, 0)).2).2).1) = 0 then ((catS (⟨#[119, 97, 105, 116, 115]⟩ : ByteArray) (⟨#[32]⟩ : ByteArray)).bind fun s4 => ((impl_decimal.f k (((l0_2.getD i3 (0, 0, 0, 0, 0)).2).1)).bind fun r5 => ((catS s4 r5).bind fun s6 => ((catS s6 (⟨#[47]⟩ : ByteArray)).bind fun s7 => ((impl_decimal.f k ((l0_2.getD i3 (0, 0, 0, 0, 0)).1)).bind fun r8 => ((catS s7 r8).bind fun s9 => (o6 ((l0_2.getD i3 (0, 0, 0, 0, 0)).1) (((l0_2.getD i3 (0, 0, 0, 0, 0)).2).1) ((((l0_2.getD i3 (0, 0, 0, 0, 0)).2).2).1) (((((l0_2.getD i3 (0, 0, 0, 0, 0)).2).2).2).1) (((((l0_2.getD i3 (0, 0, 0, 0, 0)).2).2).2).2) s9))))))) else none))))))))))
def f (k : Nat) (a0_0 a0_1 : Int) (l0_2 : List (Int × Int × Int × Int × Int)) (a0_3 a1 : Int) : Option (ByteArray × Bool) := m (impl_CarpetText.l6 k) k a0_0 a0_1 l0_2 a0_3 a1
noncomputable def spec (k : Nat) : FnSpec := ⟨[.ag [.d (.int .i64) none, .d (.int .i64) none, .d (.sl (.pair (.int .i64) (.pair (.int .i64) (.pair (.int .i64) (.pair (.int .i64) (.int .i64)))))) none, .d (.int .i64) none], .d (.int .i64) none], [.d .str none, .d .bool none], fun x => f k x.1 x.2.1 x.2.2.1 x.2.2.2.1 x.2.2.2.2⟩
def S6 (x0_6 x1_6 x2_6 x3_6 x4_6 : Int) (x5_6 : ByteArray) : St := ⟨[(6, .ptr 100 0), (8, .val .str x5_6)], [(100, some (.box [.val (.int .i64) x0_6, .val (.int .i64) x1_6, .val (.int .i64) x2_6, .val (.int .i64) x3_6, .val (.int .i64) x4_6]))], 1000⟩
noncomputable def T : FnText := ⟨(conv [6] (bodyOf Tryz.f69) 0).1, Tryz.f69.results.toList, 51, [(6, [(6, .bx 100 [.rd (.int .i64), .rd (.int .i64), .rd (.int .i64), .rd (.int .i64), .rd (.int .i64)]), (8, .rd .str)])], [.ag [.d (.int .i64) none, .d (.int .i64) none, .d (.sl (.pair (.int .i64) (.pair (.int .i64) (.pair (.int .i64) (.pair (.int .i64) (.int .i64)))))) none, .d (.int .i64) none], .d (.int .i64) none], [.d .str none, .d .bool none]⟩
noncomputable def tbl (k : Nat) : Tbl := [(63, impl_IsShop.spec k), (79, impl_in.spec k), (71, impl_decimal.spec k)]
theorem e6 (k : Nat) (o : Nat → St → Option (ByteArray × Bool)) (x0_6 x1_6 x2_6 x3_6 x4_6 : Int) (x5_6 : ByteArray) : T.step tyt (tbl k) o 6 (S6 x0_6 x1_6 x2_6 x3_6 x4_6 x5_6) = b6 k x0_6 x1_6 x2_6 x3_6 x4_6 x5_6 := by kernel_rfl
theorem e (k : Nat) (o : Nat → St → Option (ByteArray × Bool)) (a0_0 a0_1 : Int) (l0_2 : List (Int × Int × Int × Int × Int)) (a0_3 a1 : Int) : T.main tyt (tbl k) o (a0_0, a0_1, l0_2, a0_3, a1) = m (fun x0_6 x1_6 x2_6 x3_6 x4_6 x5_6 => o 6 (S6 x0_6 x1_6 x2_6 x3_6 x4_6 x5_6)) k a0_0 a0_1 l0_2 a0_3 a1 := by kernel_rfl
theorem ok : T.ok = true := by kernel_rfl
theorem run (k : Nat) : (∀ (x0_6 x1_6 x2_6 x3_6 x4_6 : Int) (x5_6 : ByteArray), T.run tyt tbl k 6 (S6 x0_6 x1_6 x2_6 x3_6 x4_6 x5_6) = impl_CarpetText.l6 k x0_6 x1_6 x2_6 x3_6 x4_6 x5_6) := by
  induction k with
  | zero => exact fun x0_6 x1_6 x2_6 x3_6 x4_6 x5_6 => rfl
  | succ k ih =>
    exact fun x0_6 x1_6 x2_6 x3_6 x4_6 x5_6 => by
      exact (e6 k (T.run tyt tbl k) x0_6 x1_6 x2_6 x3_6 x4_6 x5_6).trans (by rfl)
theorem tblok (k : Nat) : TblOk Tryz.prog (tbl k) := TblOk.cons (impl_IsShop.sound k) (TblOk.cons (impl_in.sound k) (TblOk.cons (impl_decimal.sound k) (TblOk.nil _)))
theorem sound (k : Nat) : Sound Tryz.prog 69 (spec k) := by
  have h := fn_ok (F := T) (tbl := tbl) mixed tyok Tryz.func69 (by kernel_rfl) (c0 := bodyOf Tryz.f69) rfl (conv_code _ _ _) rfl rfl ok k (fun j _ => tblok j)
  have q6 : (fun x0_6 x1_6 x2_6 x3_6 x4_6 x5_6 => T.run tyt tbl k 6 (S6 x0_6 x1_6 x2_6 x3_6 x4_6 x5_6)) = impl_CarpetText.l6 k := by funext x0_6 x1_6 x2_6 x3_6 x4_6 x5_6; exact (run k) x0_6 x1_6 x2_6 x3_6 x4_6 x5_6
  have e : spec k = ⟨T.ps, T.rs, T.ev tyt tbl k⟩ := congrArg (FnSpec.mk _ _) (funext fun x => ((e k (T.run tyt tbl k) x.1 x.2.1 x.2.2.1 x.2.2.2.1 x.2.2.2.2).trans (by rw [q6]; rfl)).symm)
  rw [e]
  exact h
end impl_CarpetText

namespace impl_Shop_stepReply
/-! ### impl_Shop_stepReply: function 99 -/
def m (k : Nat) (a0_0 a0_1 : Int) (l0_2 : List (Int × Int × Int × Int × Int)) (a0_3 a1_0 a1_1 a1_2 : Int) : Option (ByteArray) := (if a1_0 = 1 then ((impl_decimal.f k a0_0).bind fun r1 => (some r1)) else (if a1_0 = 2 then ((impl_decimal.f k (w64 ((l0_2.length : Int) - 1))).bind fun r2 => (some r2)) else (if a1_0 = 7 then ((impl_decimal.f k a0_3).bind fun r3 => (some r3)) else ((impl_CarpetText.f k a0_0 a0_1 l0_2 a0_3 a1_1).bind fun r4 => (some r4.1)))))
def f (k : Nat) (a0_0 a0_1 : Int) (l0_2 : List (Int × Int × Int × Int × Int)) (a0_3 a1_0 a1_1 a1_2 : Int) : Option (ByteArray) := m k a0_0 a0_1 l0_2 a0_3 a1_0 a1_1 a1_2
noncomputable def spec (k : Nat) : FnSpec := ⟨[.ag [.d (.int .i64) none, .d (.int .i64) none, .d (.sl (.pair (.int .i64) (.pair (.int .i64) (.pair (.int .i64) (.pair (.int .i64) (.int .i64)))))) none, .d (.int .i64) none], .ag [.d (.int .i64) none, .d (.int .i64) none, .d (.int .i64) none]], [.d .str none], fun x => f k x.1 x.2.1 x.2.2.1 x.2.2.2.1 x.2.2.2.2.1 x.2.2.2.2.2.1 x.2.2.2.2.2.2⟩
noncomputable def T : FnText := ⟨(conv [] (bodyOf Tryz.f99) 0).1, Tryz.f99.results.toList, 34, [], [.ag [.d (.int .i64) none, .d (.int .i64) none, .d (.sl (.pair (.int .i64) (.pair (.int .i64) (.pair (.int .i64) (.pair (.int .i64) (.int .i64)))))) none, .d (.int .i64) none], .ag [.d (.int .i64) none, .d (.int .i64) none, .d (.int .i64) none]], [.d .str none]⟩
noncomputable def tbl (k : Nat) : Tbl := [(71, impl_decimal.spec k), (69, impl_CarpetText.spec k)]
theorem e (k : Nat) (o : Nat → St → Option (ByteArray)) (a0_0 a0_1 : Int) (l0_2 : List (Int × Int × Int × Int × Int)) (a0_3 a1_0 a1_1 a1_2 : Int) : T.main tyt (tbl k) o (a0_0, a0_1, l0_2, a0_3, a1_0, a1_1, a1_2) = m k a0_0 a0_1 l0_2 a0_3 a1_0 a1_1 a1_2 := by kernel_rfl
theorem ok : T.ok = true := by kernel_rfl
theorem tblok (k : Nat) : TblOk Tryz.prog (tbl k) := TblOk.cons (impl_decimal.sound k) (TblOk.cons (impl_CarpetText.sound k) (TblOk.nil _))
theorem sound (k : Nat) : Sound Tryz.prog 99 (spec k) := by
  have h := fn_ok (F := T) (tbl := tbl) mixed tyok Tryz.func99 (by kernel_rfl) (c0 := bodyOf Tryz.f99) rfl (conv_code _ _ _) rfl rfl ok k (fun j _ => tblok j)
  have e : spec k = ⟨T.ps, T.rs, T.ev tyt tbl k⟩ := congrArg (FnSpec.mk _ _) (funext fun x => ((e k (T.run tyt tbl k) x.1 x.2.1 x.2.2.1 x.2.2.2.1 x.2.2.2.2.1 x.2.2.2.2.2.1 x.2.2.2.2.2.2).trans (by rfl)).symm)
  rw [e]
  exact h
end impl_Shop_stepReply

namespace impl_FreeLooms
/-! ### impl_FreeLooms: function 141 -/
def b7 (o7 : Int → Int → (List (Int × Int × Int × Int × Int)) → Int → List Int → Int → Option (List Int × Bool)) (k : Nat) (x0_7 x1_7 : Int) (l2_7 : List (Int × Int × Int × Int × Int)) (x3_7 : Int) (l4_7 : List Int) (x5_7 : Int) : Option (List Int × Bool) := (if x5_7 ≤ x1_7 then ((impl_Shop_onLoom.f k x0_7 x1_7 l2_7 x3_7 x5_7).bind fun r2 => (if r2 < 0 then ((app 17592186044416 l4_7 [x5_7]).bind fun l3 => (o7 x0_7 x1_7 l2_7 x3_7 l3 (w64 (x5_7 + 1)))) else (o7 x0_7 x1_7 l2_7 x3_7 l4_7 (w64 (x5_7 + 1))))) else (some (l4_7, true)))
def l7 : Nat → Int → Int → (List (Int × Int × Int × Int × Int)) → Int → List Int → Int → Option (List Int × Bool)
  | 0, _, _, _, _, _, _ => none
  | k + 1, x0_7, x1_7, l2_7, x3_7, l4_7, x5_7 => b7 (impl_FreeLooms.l7 k) k x0_7 x1_7 l2_7 x3_7 l4_7 x5_7
def m (o7 : Int → Int → (List (Int × Int × Int × Int × Int)) → Int → List Int → Int → Option (List Int × Bool)) (k : Nat) (a0_0 a0_1 : Int) (l0_2 : List (Int × Int × Int × Int × Int)) (a0_3 : Int) : Option (List Int × Bool) := ((impl_IsShop.f k a0_0 a0_1 l0_2 a0_3).bind fun r1 => (cond (!r1) (some ([], false)) (o7 a0_0 a0_1 l0_2 a0_3 ([] : List (Int)) 1)))
def f (k : Nat) (a0_0 a0_1 : Int) (l0_2 : List (Int × Int × Int × Int × Int)) (a0_3 : Int) : Option (List Int × Bool) := m (impl_FreeLooms.l7 k) k a0_0 a0_1 l0_2 a0_3
noncomputable def spec (k : Nat) : FnSpec := ⟨[.ag [.d (.int .i64) none, .d (.int .i64) none, .d (.sl (.pair (.int .i64) (.pair (.int .i64) (.pair (.int .i64) (.pair (.int .i64) (.int .i64)))))) none, .d (.int .i64) none]], [.d (.sl (.int .i64)) (some 3), .d .bool none], fun x => f k x.1 x.2.1 x.2.2.1 x.2.2.2⟩
def S7 (x0_7 x1_7 : Int) (l2_7 : List (Int × Int × Int × Int × Int)) (x3_7 : Int) (l4_7 : List Int) (x5_7 : Int) : St := ⟨[(1, .ptr 100 0), (4, .ref 101), (5, .val (.int .i64) x5_7)], [(101, some (.row 3 (.int .i64) l4_7)), (100, some (.box [.val (.int .i64) x0_7, .val (.int .i64) x1_7, .val (.sl (.pair (.int .i64) (.pair (.int .i64) (.pair (.int .i64) (.pair (.int .i64) (.int .i64)))))) l2_7, .val (.int .i64) x3_7]))], 1000⟩
noncomputable def T : FnText := ⟨(conv [] (bodyOf Tryz.f141) 0).1, Tryz.f141.results.toList, 25, [(7, [(1, .bx 100 [.rd (.int .i64), .rd (.int .i64), .rd (.sl (.pair (.int .i64) (.pair (.int .i64) (.pair (.int .i64) (.pair (.int .i64) (.int .i64)))))), .rd (.int .i64)]), (4, .own 3 (.int .i64) 101), (5, .rd (.int .i64))])], [.ag [.d (.int .i64) none, .d (.int .i64) none, .d (.sl (.pair (.int .i64) (.pair (.int .i64) (.pair (.int .i64) (.pair (.int .i64) (.int .i64)))))) none, .d (.int .i64) none]], [.d (.sl (.int .i64)) (some 3), .d .bool none]⟩
noncomputable def tbl (k : Nat) : Tbl := [(63, impl_IsShop.spec k), (114, impl_Shop_onLoom.spec k)]
theorem e7 (k : Nat) (o : Nat → St → Option (List Int × Bool)) (x0_7 x1_7 : Int) (l2_7 : List (Int × Int × Int × Int × Int)) (x3_7 : Int) (l4_7 : List Int) (x5_7 : Int) : T.step tyt (tbl k) o 7 (S7 x0_7 x1_7 l2_7 x3_7 l4_7 x5_7) = b7 (fun x0_7 x1_7 l2_7 x3_7 l4_7 x5_7 => o 7 (S7 x0_7 x1_7 l2_7 x3_7 l4_7 x5_7)) k x0_7 x1_7 l2_7 x3_7 l4_7 x5_7 := by kernel_rfl
theorem e (k : Nat) (o : Nat → St → Option (List Int × Bool)) (a0_0 a0_1 : Int) (l0_2 : List (Int × Int × Int × Int × Int)) (a0_3 : Int) : T.main tyt (tbl k) o (a0_0, a0_1, l0_2, a0_3) = m (fun x0_7 x1_7 l2_7 x3_7 l4_7 x5_7 => o 7 (S7 x0_7 x1_7 l2_7 x3_7 l4_7 x5_7)) k a0_0 a0_1 l0_2 a0_3 := by kernel_rfl
theorem ok : T.ok = true := by kernel_rfl
theorem run (k : Nat) : (∀ (x0_7 x1_7 : Int) (l2_7 : List (Int × Int × Int × Int × Int)) (x3_7 : Int) (l4_7 : List Int) (x5_7 : Int), T.run tyt tbl k 7 (S7 x0_7 x1_7 l2_7 x3_7 l4_7 x5_7) = impl_FreeLooms.l7 k x0_7 x1_7 l2_7 x3_7 l4_7 x5_7) := by
  induction k with
  | zero => exact fun x0_7 x1_7 l2_7 x3_7 l4_7 x5_7 => rfl
  | succ k ih =>
    exact fun x0_7 x1_7 l2_7 x3_7 l4_7 x5_7 => by
      have q7 : (fun x0_7 x1_7 l2_7 x3_7 l4_7 x5_7 => T.run tyt tbl k 7 (S7 x0_7 x1_7 l2_7 x3_7 l4_7 x5_7)) = impl_FreeLooms.l7 k := by funext x0_7 x1_7 l2_7 x3_7 l4_7 x5_7; exact ih x0_7 x1_7 l2_7 x3_7 l4_7 x5_7
      exact (e7 k (T.run tyt tbl k) x0_7 x1_7 l2_7 x3_7 l4_7 x5_7).trans (by rw [q7]; rfl)
theorem tblok (k : Nat) : TblOk Tryz.prog (tbl k) := TblOk.cons (impl_IsShop.sound k) (TblOk.cons (impl_Shop_onLoom.sound k) (TblOk.nil _))
theorem sound (k : Nat) : Sound Tryz.prog 141 (spec k) := by
  have h := fn_ok (F := T) (tbl := tbl) mixed tyok Tryz.func141 (by kernel_rfl) (c0 := bodyOf Tryz.f141) rfl (conv_code _ _ _) rfl rfl ok k (fun j _ => tblok j)
  have q7 : (fun x0_7 x1_7 l2_7 x3_7 l4_7 x5_7 => T.run tyt tbl k 7 (S7 x0_7 x1_7 l2_7 x3_7 l4_7 x5_7)) = impl_FreeLooms.l7 k := by funext x0_7 x1_7 l2_7 x3_7 l4_7 x5_7; exact (run k) x0_7 x1_7 l2_7 x3_7 l4_7 x5_7
  have e : spec k = ⟨T.ps, T.rs, T.ev tyt tbl k⟩ := congrArg (FnSpec.mk _ _) (funext fun x => ((e k (T.run tyt tbl k) x.1 x.2.1 x.2.2.1 x.2.2.2).trans (by rw [q7]; rfl)).symm)
  rw [e]
  exact h
end impl_FreeLooms

/-! ### strings_Join: function 166, by its contract -/
def strings_Join.f (k : Nat) (a0 : List ByteArray) (a1 : ByteArray) : Option (ByteArray) := joinF a0 a1
noncomputable def strings_Join.spec (k : Nat) : FnSpec := ⟨[.d (.sl .str) none, .d .str none], [.d .str none], fun x => strings_Join.f k x.1 x.2⟩
theorem strings_Join.sound (k : Nat) : Sound Go.Proofs.Tryz.prog 166 (strings_Join.spec k) := strJoin_ok

namespace impl_listText
/-! ### impl_listText: function 142 -/
def b7 (o7 : List ByteArray → List Int → Int → Int → Option (ByteArray)) (k : Nat) (l0_7 : List ByteArray) (l1_7 : List Int) (x2_7 x3_7 : Int) : Option (ByteArray) := (if x3_7 < x2_7 then ((chk l1_7.length x3_7).bind fun i1 => ((impl_decimal.f k (l1_7.getD i1 0)).bind fun r2 => ((app 8796093022208 l0_7 [r2]).bind fun l3 => (o7 l3 l1_7 x2_7 (w64 (x3_7 + 1)))))) else ((strings_Join.f k l0_7 (⟨#[32]⟩ : ByteArray)).bind fun r4 => (some r4)))
def l7 : Nat → List ByteArray → List Int → Int → Int → Option (ByteArray)
  | 0, _, _, _, _ => none
  | k + 1, l0_7, l1_7, x2_7, x3_7 => b7 (impl_listText.l7 k) k l0_7 l1_7 x2_7 x3_7
def m (o7 : List ByteArray → List Int → Int → Int → Option (ByteArray)) (k : Nat) (l0 : List Int) : Option (ByteArray) := (if (l0.length : Int) = 0 then (some (⟨#[110, 111, 110, 101]⟩ : ByteArray)) else (o7 ([] : List (ByteArray)) l0 (l0.length : Int) 0))
def f (k : Nat) (l0 : List Int) : Option (ByteArray) := m (impl_listText.l7 k) k l0
noncomputable def spec (k : Nat) : FnSpec := ⟨[.d (.sl (.int .i64)) none], [.d .str none], fun x => f k x⟩
def S7 (l0_7 : List ByteArray) (l1_7 : List Int) (x2_7 x3_7 : Int) : St := ⟨[(3, .ref 100), (10, .val (.sl (.int .i64)) l1_7), (11, .val (.int .i64) x2_7), (12, .val (.int .i64) x3_7)], [(100, some (.row 9 .str l0_7))], 1000⟩
noncomputable def T : FnText := ⟨(conv [] (bodyOf Tryz.f142) 0).1, Tryz.f142.results.toList, 24, [(7, [(3, .own 9 .str 100), (10, .rd (.sl (.int .i64))), (11, .rd (.int .i64)), (12, .rd (.int .i64))])], [.d (.sl (.int .i64)) none], [.d .str none]⟩
noncomputable def tbl (k : Nat) : Tbl := [(71, impl_decimal.spec k), (166, strings_Join.spec k)]
theorem e7 (k : Nat) (o : Nat → St → Option (ByteArray)) (l0_7 : List ByteArray) (l1_7 : List Int) (x2_7 x3_7 : Int) : T.step tyt (tbl k) o 7 (S7 l0_7 l1_7 x2_7 x3_7) = b7 (fun l0_7 l1_7 x2_7 x3_7 => o 7 (S7 l0_7 l1_7 x2_7 x3_7)) k l0_7 l1_7 x2_7 x3_7 := by kernel_rfl
theorem e (k : Nat) (o : Nat → St → Option (ByteArray)) (l0 : List Int) : T.main tyt (tbl k) o l0 = m (fun l0_7 l1_7 x2_7 x3_7 => o 7 (S7 l0_7 l1_7 x2_7 x3_7)) k l0 := by kernel_rfl
theorem ok : T.ok = true := by kernel_rfl
theorem run (k : Nat) : (∀ (l0_7 : List ByteArray) (l1_7 : List Int) (x2_7 x3_7 : Int), T.run tyt tbl k 7 (S7 l0_7 l1_7 x2_7 x3_7) = impl_listText.l7 k l0_7 l1_7 x2_7 x3_7) := by
  induction k with
  | zero => exact fun l0_7 l1_7 x2_7 x3_7 => rfl
  | succ k ih =>
    exact fun l0_7 l1_7 x2_7 x3_7 => by
      have q7 : (fun l0_7 l1_7 x2_7 x3_7 => T.run tyt tbl k 7 (S7 l0_7 l1_7 x2_7 x3_7)) = impl_listText.l7 k := by funext l0_7 l1_7 x2_7 x3_7; exact ih l0_7 l1_7 x2_7 x3_7
      exact (e7 k (T.run tyt tbl k) l0_7 l1_7 x2_7 x3_7).trans (by rw [q7]; rfl)
theorem tblok (k : Nat) : TblOk Tryz.prog (tbl k) := TblOk.cons (impl_decimal.sound k) (TblOk.cons (strings_Join.sound k) (TblOk.nil _))
theorem sound (k : Nat) : Sound Tryz.prog 142 (spec k) := by
  have h := fn_ok (F := T) (tbl := tbl) mixed tyok Tryz.func142 (by kernel_rfl) (c0 := bodyOf Tryz.f142) rfl (conv_code _ _ _) rfl rfl ok k (fun j _ => tblok j)
  have q7 : (fun l0_7 l1_7 x2_7 x3_7 => T.run tyt tbl k 7 (S7 l0_7 l1_7 x2_7 x3_7)) = impl_listText.l7 k := by funext l0_7 l1_7 x2_7 x3_7; exact (run k) l0_7 l1_7 x2_7 x3_7
  have e : spec k = ⟨T.ps, T.rs, T.ev tyt tbl k⟩ := congrArg (FnSpec.mk _ _) (funext fun x => ((e k (T.run tyt tbl k) x).trans (by rw [q7]; rfl)).symm)
  rw [e]
  exact h
end impl_listText

namespace impl_RowsLeft
/-! ### impl_RowsLeft: function 143 -/
def b7 (o7 : Int → (List (Int × Int × Int × Int × Int)) → Int → Int → Option (Int × Bool)) (k : Nat) (x0_7 : Int) (l1_7 : List (Int × Int × Int × Int × Int)) (x2_7 x3_7 : Int) : Option (Int × Bool) := (if x3_7 < x2_7 then ((chk l1_7.length x3_7).bind fun i2 => (o7 (w64 (x0_7 + (w64 (((l1_7.getD i2 (0, 0, 0, 0, 0)).1) - (((l1_7.getD i2 (0, 0, 0, 0, 0)).2).1))))) l1_7 x2_7 (w64 (x3_7 + 1)))) else (some (x0_7, true)))
def l7 : Nat → Int → (List (Int × Int × Int × Int × Int)) → Int → Int → Option (Int × Bool)
  | 0, _, _, _, _ => none
  | k + 1, x0_7, l1_7, x2_7, x3_7 => b7 (impl_RowsLeft.l7 k) k x0_7 l1_7 x2_7 x3_7
def m (o7 : Int → (List (Int × Int × Int × Int × Int)) → Int → Int → Option (Int × Bool)) (k : Nat) (a0_0 a0_1 : Int) (l0_2 : List (Int × Int × Int × Int × Int)) (a0_3 : Int) : Option (Int × Bool) := ((impl_IsShop.f k a0_0 a0_1 l0_2 a0_3).bind fun r1 => (cond (!r1) (some (0, false)) (o7 0 l0_2 (l0_2.length : Int) 0)))
def f (k : Nat) (a0_0 a0_1 : Int) (l0_2 : List (Int × Int × Int × Int × Int)) (a0_3 : Int) : Option (Int × Bool) := m (impl_RowsLeft.l7 k) k a0_0 a0_1 l0_2 a0_3
noncomputable def spec (k : Nat) : FnSpec := ⟨[.ag [.d (.int .i64) none, .d (.int .i64) none, .d (.sl (.pair (.int .i64) (.pair (.int .i64) (.pair (.int .i64) (.pair (.int .i64) (.int .i64)))))) none, .d (.int .i64) none]], [.d (.int .i64) none, .d .bool none], fun x => f k x.1 x.2.1 x.2.2.1 x.2.2.2⟩
def S7 (x0_7 : Int) (l1_7 : List (Int × Int × Int × Int × Int)) (x2_7 x3_7 : Int) : St := ⟨[(4, .val (.int .i64) x0_7), (11, .val (.sl (.pair (.int .i64) (.pair (.int .i64) (.pair (.int .i64) (.pair (.int .i64) (.int .i64)))))) l1_7), (12, .val (.int .i64) x2_7), (13, .val (.int .i64) x3_7)], [], 1000⟩
noncomputable def T : FnText := ⟨(conv [] (bodyOf Tryz.f143) 0).1, Tryz.f143.results.toList, 26, [(7, [(4, .rd (.int .i64)), (11, .rd (.sl (.pair (.int .i64) (.pair (.int .i64) (.pair (.int .i64) (.pair (.int .i64) (.int .i64))))))), (12, .rd (.int .i64)), (13, .rd (.int .i64))])], [.ag [.d (.int .i64) none, .d (.int .i64) none, .d (.sl (.pair (.int .i64) (.pair (.int .i64) (.pair (.int .i64) (.pair (.int .i64) (.int .i64)))))) none, .d (.int .i64) none]], [.d (.int .i64) none, .d .bool none]⟩
noncomputable def tbl (k : Nat) : Tbl := [(63, impl_IsShop.spec k)]
theorem e7 (k : Nat) (o : Nat → St → Option (Int × Bool)) (x0_7 : Int) (l1_7 : List (Int × Int × Int × Int × Int)) (x2_7 x3_7 : Int) : T.step tyt (tbl k) o 7 (S7 x0_7 l1_7 x2_7 x3_7) = b7 (fun x0_7 l1_7 x2_7 x3_7 => o 7 (S7 x0_7 l1_7 x2_7 x3_7)) k x0_7 l1_7 x2_7 x3_7 := by kernel_rfl
theorem e (k : Nat) (o : Nat → St → Option (Int × Bool)) (a0_0 a0_1 : Int) (l0_2 : List (Int × Int × Int × Int × Int)) (a0_3 : Int) : T.main tyt (tbl k) o (a0_0, a0_1, l0_2, a0_3) = m (fun x0_7 l1_7 x2_7 x3_7 => o 7 (S7 x0_7 l1_7 x2_7 x3_7)) k a0_0 a0_1 l0_2 a0_3 := by kernel_rfl
theorem ok : T.ok = true := by kernel_rfl
theorem run (k : Nat) : (∀ (x0_7 : Int) (l1_7 : List (Int × Int × Int × Int × Int)) (x2_7 x3_7 : Int), T.run tyt tbl k 7 (S7 x0_7 l1_7 x2_7 x3_7) = impl_RowsLeft.l7 k x0_7 l1_7 x2_7 x3_7) := by
  induction k with
  | zero => exact fun x0_7 l1_7 x2_7 x3_7 => rfl
  | succ k ih =>
    exact fun x0_7 l1_7 x2_7 x3_7 => by
      have q7 : (fun x0_7 l1_7 x2_7 x3_7 => T.run tyt tbl k 7 (S7 x0_7 l1_7 x2_7 x3_7)) = impl_RowsLeft.l7 k := by funext x0_7 l1_7 x2_7 x3_7; exact ih x0_7 l1_7 x2_7 x3_7
      exact (e7 k (T.run tyt tbl k) x0_7 l1_7 x2_7 x3_7).trans (by rw [q7]; rfl)
theorem tblok (k : Nat) : TblOk Tryz.prog (tbl k) := TblOk.cons (impl_IsShop.sound k) (TblOk.nil _)
theorem sound (k : Nat) : Sound Tryz.prog 143 (spec k) := by
  have h := fn_ok (F := T) (tbl := tbl) mixed tyok Tryz.func143 (by kernel_rfl) (c0 := bodyOf Tryz.f143) rfl (conv_code _ _ _) rfl rfl ok k (fun j _ => tblok j)
  have q7 : (fun x0_7 l1_7 x2_7 x3_7 => T.run tyt tbl k 7 (S7 x0_7 l1_7 x2_7 x3_7)) = impl_RowsLeft.l7 k := by funext x0_7 l1_7 x2_7 x3_7; exact (run k) x0_7 l1_7 x2_7 x3_7
  have e : spec k = ⟨T.ps, T.rs, T.ev tyt tbl k⟩ := congrArg (FnSpec.mk _ _) (funext fun x => ((e k (T.run tyt tbl k) x.1 x.2.1 x.2.2.1 x.2.2.2).trans (by rw [q7]; rfl)).symm)
  rw [e]
  exact h
end impl_RowsLeft

namespace impl_CarpetStates
/-! ### impl_CarpetStates: function 144 -/
def b7 (o7 : List Int → (List (Int × Int × Int × Int × Int)) → Int → Int → Option (List Int × Bool)) (k : Nat) (l0_7 : List Int) (l1_7 : List (Int × Int × Int × Int × Int)) (x2_7 x3_7 : Int) : Option (List Int × Bool) := (if x3_7 < x2_7 then ((chk l1_7.length x3_7).bind fun i3 => ((chk l0_7.length ((((l1_7.getD i3 (0, 0, 0, 0, 0)).2).2).1)).bind fun i4 => ((chk l0_7.length ((((l1_7.getD i3 (0, 0, 0, 0, 0)).2).2).1)).bind fun i5 => (o7 (l0_7.set i5 (w64 ((l0_7.getD i4 0) + 1))) l1_7 x2_7 (w64 (x3_7 + 1)))))) else (some (l0_7, true)))
def l7 : Nat → List Int → (List (Int × Int × Int × Int × Int)) → Int → Int → Option (List Int × Bool)
  | 0, _, _, _, _ => none
  | k + 1, l0_7, l1_7, x2_7, x3_7 => b7 (impl_CarpetStates.l7 k) k l0_7 l1_7 x2_7 x3_7
def m (o7 : List Int → (List (Int × Int × Int × Int × Int)) → Int → Int → Option (List Int × Bool)) (k : Nat) (a0_0 a0_1 : Int) (l0_2 : List (Int × Int × Int × Int × Int)) (a0_3 : Int) : Option (List Int × Bool) := ((impl_IsShop.f k a0_0 a0_1 l0_2 a0_3).bind fun r1 => (cond (!r1) (some ([], false)) ((mkl 17592186044416 5 5).bind fun n2 => (o7 (List.replicate n2 (0 : Int)) l0_2 (l0_2.length : Int) 0))))
def f (k : Nat) (a0_0 a0_1 : Int) (l0_2 : List (Int × Int × Int × Int × Int)) (a0_3 : Int) : Option (List Int × Bool) := m (impl_CarpetStates.l7 k) k a0_0 a0_1 l0_2 a0_3
noncomputable def spec (k : Nat) : FnSpec := ⟨[.ag [.d (.int .i64) none, .d (.int .i64) none, .d (.sl (.pair (.int .i64) (.pair (.int .i64) (.pair (.int .i64) (.pair (.int .i64) (.int .i64)))))) none, .d (.int .i64) none]], [.d (.sl (.int .i64)) (some 3), .d .bool none], fun x => f k x.1 x.2.1 x.2.2.1 x.2.2.2⟩
def S7 (l0_7 : List Int) (l1_7 : List (Int × Int × Int × Int × Int)) (x2_7 x3_7 : Int) : St := ⟨[(4, .ref 100), (12, .val (.sl (.pair (.int .i64) (.pair (.int .i64) (.pair (.int .i64) (.pair (.int .i64) (.int .i64)))))) l1_7), (13, .val (.int .i64) x2_7), (14, .val (.int .i64) x3_7)], [(100, some (.row 3 (.int .i64) l0_7))], 1000⟩
noncomputable def T : FnText := ⟨(conv [] (bodyOf Tryz.f144) 0).1, Tryz.f144.results.toList, 27, [(7, [(4, .own 3 (.int .i64) 100), (12, .rd (.sl (.pair (.int .i64) (.pair (.int .i64) (.pair (.int .i64) (.pair (.int .i64) (.int .i64))))))), (13, .rd (.int .i64)), (14, .rd (.int .i64))])], [.ag [.d (.int .i64) none, .d (.int .i64) none, .d (.sl (.pair (.int .i64) (.pair (.int .i64) (.pair (.int .i64) (.pair (.int .i64) (.int .i64)))))) none, .d (.int .i64) none]], [.d (.sl (.int .i64)) (some 3), .d .bool none]⟩
noncomputable def tbl (k : Nat) : Tbl := [(63, impl_IsShop.spec k)]
theorem e7 (k : Nat) (o : Nat → St → Option (List Int × Bool)) (l0_7 : List Int) (l1_7 : List (Int × Int × Int × Int × Int)) (x2_7 x3_7 : Int) : T.step tyt (tbl k) o 7 (S7 l0_7 l1_7 x2_7 x3_7) = b7 (fun l0_7 l1_7 x2_7 x3_7 => o 7 (S7 l0_7 l1_7 x2_7 x3_7)) k l0_7 l1_7 x2_7 x3_7 := by kernel_rfl
theorem e (k : Nat) (o : Nat → St → Option (List Int × Bool)) (a0_0 a0_1 : Int) (l0_2 : List (Int × Int × Int × Int × Int)) (a0_3 : Int) : T.main tyt (tbl k) o (a0_0, a0_1, l0_2, a0_3) = m (fun l0_7 l1_7 x2_7 x3_7 => o 7 (S7 l0_7 l1_7 x2_7 x3_7)) k a0_0 a0_1 l0_2 a0_3 := by kernel_rfl
theorem ok : T.ok = true := by kernel_rfl
theorem run (k : Nat) : (∀ (l0_7 : List Int) (l1_7 : List (Int × Int × Int × Int × Int)) (x2_7 x3_7 : Int), T.run tyt tbl k 7 (S7 l0_7 l1_7 x2_7 x3_7) = impl_CarpetStates.l7 k l0_7 l1_7 x2_7 x3_7) := by
  induction k with
  | zero => exact fun l0_7 l1_7 x2_7 x3_7 => rfl
  | succ k ih =>
    exact fun l0_7 l1_7 x2_7 x3_7 => by
      have q7 : (fun l0_7 l1_7 x2_7 x3_7 => T.run tyt tbl k 7 (S7 l0_7 l1_7 x2_7 x3_7)) = impl_CarpetStates.l7 k := by funext l0_7 l1_7 x2_7 x3_7; exact ih l0_7 l1_7 x2_7 x3_7
      exact (e7 k (T.run tyt tbl k) l0_7 l1_7 x2_7 x3_7).trans (by rw [q7]; rfl)
theorem tblok (k : Nat) : TblOk Tryz.prog (tbl k) := TblOk.cons (impl_IsShop.sound k) (TblOk.nil _)
theorem sound (k : Nat) : Sound Tryz.prog 144 (spec k) := by
  have h := fn_ok (F := T) (tbl := tbl) mixed tyok Tryz.func144 (by kernel_rfl) (c0 := bodyOf Tryz.f144) rfl (conv_code _ _ _) rfl rfl ok k (fun j _ => tblok j)
  have q7 : (fun l0_7 l1_7 x2_7 x3_7 => T.run tyt tbl k 7 (S7 l0_7 l1_7 x2_7 x3_7)) = impl_CarpetStates.l7 k := by funext l0_7 l1_7 x2_7 x3_7; exact (run k) l0_7 l1_7 x2_7 x3_7
  have e : spec k = ⟨T.ps, T.rs, T.ev tyt tbl k⟩ := congrArg (FnSpec.mk _ _) (funext fun x => ((e k (T.run tyt tbl k) x.1 x.2.1 x.2.2.1 x.2.2.2).trans (by rw [q7]; rfl)).symm)
  rw [e]
  exact h
end impl_CarpetStates

namespace impl_DaysToSell
/-! ### impl_DaysToSell: function 145 -/
def b7 (o7 : Int → Int → (List (Int × Int × Int × Int × Int)) → Int → Int → (List (Int × Int × Int × Int × Int)) → Int → Int → Option (Int × Bool)) (k : Nat) (x0_7 x1_7 : Int) (l2_7 : List (Int × Int × Int × Int × Int)) (x3_7 x4_7 : Int) (l5_7 : List (Int × Int × Int × Int × Int)) (x6_7 x7_7 : Int) : Option (Int × Bool) := (if x7_7 < x6_7 then ((chk l5_7.length x7_7).bind fun i2 => (if ((((l5_7.getD i2 (0, 0, 0, 0, 0)).2).2).1) = 3 then ((impl_isDay.f k (max (w64 ((((((l5_7.getD i2 (0, 0, 0, 0, 0)).2).2).2).2) + 3)) x0_7)).bind fun r3 => (cond r3 (if x4_7 < 0 then (o7 x0_7 x1_7 l2_7 x3_7 (w64 ((max (w64 ((((((l5_7.getD i2 (0, 0, 0, 0, 0)).2).2).2).2) + 3)) x0_7) - x0_7)) l5_7 x6_7 (w64 (x7_7 + 1))) else (if (w64 ((max (w64 ((((((l5_7.getD i2 (0, 0, 0, 0, 0)).2).2).2).2) + 3)) x0_7) - x0_7)) < x4_7 then (o7 x0_7 x1_7 l2_7 x3_7 (w64 ((max (w64 ((((((l5_7.getD i2 (0, 0, 0, 0, 0)).2).2).2).2) + 3)) x0_7) - x0_7)) l5_7 x6_7 (w64 (x7_7 + 1))) else (o7 x0_7 x1_7 l2_7 x3_7 x4_7 l5_7 x6_7 (w64 (x7_7 + 1))))) (o7 x0_7 x1_7 l2_7 x3_7 x4_7 l5_7 x6_7 (w64 (x7_7 + 1))))) else (o7 x0_7 x1_7 l2_7 x3_7 x4_7 l5_7 x6_7 (w64 (x7_7 + 1))))) else (some ((max x4_7 0), (decide (0 ≤ x4_7)))))
def l7 : Nat → Int → Int → (List (Int × Int × Int × Int × Int)) → Int → Int → (List (Int × Int × Int × Int × Int)) → Int → Int → Option (Int × Bool)
  | 0, _, _, _, _, _, _, _, _ => none
  | k + 1, x0_7, x1_7, l2_7, x3_7, x4_7, l5_7, x6_7, x7_7 => b7 (impl_DaysToSell.l7 k) k x0_7 x1_7 l2_7 x3_7 x4_7 l5_7 x6_7 x7_7
def m (o7 : Int → Int → (List (Int × Int × Int × Int × Int)) → Int → Int → (List (Int × Int × Int × Int × Int)) → Int → Int → Option (Int × Bool)) (k : Nat) (a0_0 a0_1 : Int) (l0_2 : List (Int × Int × Int × Int × Int)) (a0_3 : Int) : Option (Int × Bool) := ((impl_IsShop.f k a0_0 a0_1 l0_2 a0_3).bind fun r1 => (cond (!r1) (some (0, false)) (o7 a0_0 a0_1 l0_2 a0_3 (-1) l0_2 (l0_2.length : Int) 0)))
def f (k : Nat) (a0_0 a0_1 : Int) (l0_2 : List (Int × Int × Int × Int × Int)) (a0_3 : Int) : Option (Int × Bool) := m (impl_DaysToSell.l7 k) k a0_0 a0_1 l0_2 a0_3
noncomputable def spec (k : Nat) : FnSpec := ⟨[.ag [.d (.int .i64) none, .d (.int .i64) none, .d (.sl (.pair (.int .i64) (.pair (.int .i64) (.pair (.int .i64) (.pair (.int .i64) (.int .i64)))))) none, .d (.int .i64) none]], [.d (.int .i64) none, .d .bool none], fun x => f k x.1 x.2.1 x.2.2.1 x.2.2.2⟩
def S7 (x0_7 x1_7 : Int) (l2_7 : List (Int × Int × Int × Int × Int)) (x3_7 x4_7 : Int) (l5_7 : List (Int × Int × Int × Int × Int)) (x6_7 x7_7 : Int) : St := ⟨[(1, .ptr 100 0), (4, .val (.int .i64) x4_7), (12, .val (.sl (.pair (.int .i64) (.pair (.int .i64) (.pair (.int .i64) (.pair (.int .i64) (.int .i64)))))) l5_7), (13, .val (.int .i64) x6_7), (14, .val (.int .i64) x7_7)], [(100, some (.box [.val (.int .i64) x0_7, .val (.int .i64) x1_7, .val (.sl (.pair (.int .i64) (.pair (.int .i64) (.pair (.int .i64) (.pair (.int .i64) (.int .i64)))))) l2_7, .val (.int .i64) x3_7]))], 1000⟩
noncomputable def T : FnText := ⟨(conv [] (bodyOf Tryz.f145) 0).1, Tryz.f145.results.toList, 52, [(7, [(1, .bx 100 [.rd (.int .i64), .rd (.int .i64), .rd (.sl (.pair (.int .i64) (.pair (.int .i64) (.pair (.int .i64) (.pair (.int .i64) (.int .i64)))))), .rd (.int .i64)]), (4, .rd (.int .i64)), (12, .rd (.sl (.pair (.int .i64) (.pair (.int .i64) (.pair (.int .i64) (.pair (.int .i64) (.int .i64))))))), (13, .rd (.int .i64)), (14, .rd (.int .i64))])], [.ag [.d (.int .i64) none, .d (.int .i64) none, .d (.sl (.pair (.int .i64) (.pair (.int .i64) (.pair (.int .i64) (.pair (.int .i64) (.int .i64)))))) none, .d (.int .i64) none]], [.d (.int .i64) none, .d .bool none]⟩
noncomputable def tbl (k : Nat) : Tbl := [(63, impl_IsShop.spec k), (112, impl_isDay.spec k)]
theorem e7 (k : Nat) (o : Nat → St → Option (Int × Bool)) (x0_7 x1_7 : Int) (l2_7 : List (Int × Int × Int × Int × Int)) (x3_7 x4_7 : Int) (l5_7 : List (Int × Int × Int × Int × Int)) (x6_7 x7_7 : Int) : T.step tyt (tbl k) o 7 (S7 x0_7 x1_7 l2_7 x3_7 x4_7 l5_7 x6_7 x7_7) = b7 (fun x0_7 x1_7 l2_7 x3_7 x4_7 l5_7 x6_7 x7_7 => o 7 (S7 x0_7 x1_7 l2_7 x3_7 x4_7 l5_7 x6_7 x7_7)) k x0_7 x1_7 l2_7 x3_7 x4_7 l5_7 x6_7 x7_7 := by kernel_rfl
theorem e (k : Nat) (o : Nat → St → Option (Int × Bool)) (a0_0 a0_1 : Int) (l0_2 : List (Int × Int × Int × Int × Int)) (a0_3 : Int) : T.main tyt (tbl k) o (a0_0, a0_1, l0_2, a0_3) = m (fun x0_7 x1_7 l2_7 x3_7 x4_7 l5_7 x6_7 x7_7 => o 7 (S7 x0_7 x1_7 l2_7 x3_7 x4_7 l5_7 x6_7 x7_7)) k a0_0 a0_1 l0_2 a0_3 := by kernel_rfl
theorem ok : T.ok = true := by kernel_rfl
theorem run (k : Nat) : (∀ (x0_7 x1_7 : Int) (l2_7 : List (Int × Int × Int × Int × Int)) (x3_7 x4_7 : Int) (l5_7 : List (Int × Int × Int × Int × Int)) (x6_7 x7_7 : Int), T.run tyt tbl k 7 (S7 x0_7 x1_7 l2_7 x3_7 x4_7 l5_7 x6_7 x7_7) = impl_DaysToSell.l7 k x0_7 x1_7 l2_7 x3_7 x4_7 l5_7 x6_7 x7_7) := by
  induction k with
  | zero => exact fun x0_7 x1_7 l2_7 x3_7 x4_7 l5_7 x6_7 x7_7 => rfl
  | succ k ih =>
    exact fun x0_7 x1_7 l2_7 x3_7 x4_7 l5_7 x6_7 x7_7 => by
      have q7 : (fun x0_7 x1_7 l2_7 x3_7 x4_7 l5_7 x6_7 x7_7 => T.run tyt tbl k 7 (S7 x0_7 x1_7 l2_7 x3_7 x4_7 l5_7 x6_7 x7_7)) = impl_DaysToSell.l7 k := by funext x0_7 x1_7 l2_7 x3_7 x4_7 l5_7 x6_7 x7_7; exact ih x0_7 x1_7 l2_7 x3_7 x4_7 l5_7 x6_7 x7_7
      exact (e7 k (T.run tyt tbl k) x0_7 x1_7 l2_7 x3_7 x4_7 l5_7 x6_7 x7_7).trans (by rw [q7]; rfl)
theorem tblok (k : Nat) : TblOk Tryz.prog (tbl k) := TblOk.cons (impl_IsShop.sound k) (TblOk.cons (impl_isDay.sound k) (TblOk.nil _))
theorem sound (k : Nat) : Sound Tryz.prog 145 (spec k) := by
  have h := fn_ok (F := T) (tbl := tbl) mixed tyok Tryz.func145 (by kernel_rfl) (c0 := bodyOf Tryz.f145) rfl (conv_code _ _ _) rfl rfl ok k (fun j _ => tblok j)
  have q7 : (fun x0_7 x1_7 l2_7 x3_7 x4_7 l5_7 x6_7 x7_7 => T.run tyt tbl k 7 (S7 x0_7 x1_7 l2_7 x3_7 x4_7 l5_7 x6_7 x7_7)) = impl_DaysToSell.l7 k := by funext x0_7 x1_7 l2_7 x3_7 x4_7 l5_7 x6_7 x7_7; exact (run k) x0_7 x1_7 l2_7 x3_7 x4_7 l5_7 x6_7 x7_7
  have e : spec k = ⟨T.ps, T.rs, T.ev tyt tbl k⟩ := congrArg (FnSpec.mk _ _) (funext fun x => ((e k (T.run tyt tbl k) x.1 x.2.1 x.2.2.1 x.2.2.2).trans (by rw [q7]; rfl)).symm)
  rw [e]
  exact h
end impl_DaysToSell

namespace impl_Shop_ask
/-! ### impl_Shop_ask: function 100 -/
def b2 (k : Nat) (x0_2 : ByteArray) (l1_2 : List Int) (x2_2 x3_2 : Int) (l4_2 : List (Int × Int × Int × Int × Int)) (x5_2 : Int) (x6_2 : Bool) : Option (ByteArray × Bool) := (cond x6_2 ((chk l1_2.length 0).bind fun i1 => ((impl_CarpetText.f k x2_2 x3_2 l4_2 x5_2 (l1_2.getD i1 0)).bind fun r2 => (some (r2.1, r2.2)))) (if 0 < (l1_2.length : Int) then (some ((⟨#[]⟩ : ByteArray), false)) else (if x0_2 = (⟨#[100, 97, 121]⟩ : ByteArray) then ((impl_decimal.f k x2_2).bind fun r3 => (some (r3, true))) else (if x0_2 = (⟨#[109, 111, 110, 101, 121]⟩ : ByteArray) then ((impl_decimal.f k x5_2).bind fun r4 => (some (r4, true))) else (if x0_2 = (⟨#[102, 114, 101, 101]⟩ : ByteArray) then ((impl_FreeLooms.f k x2_2 x3_2 l4_2 x5_2).bind fun r5 => ((impl_listText.f k r5.1).bind fun r6 => (some (r6, r5.2)))) else (if x0_2 = (⟨#[114, 111, 119, 115]⟩ : ByteArray) then ((impl_RowsLeft.f k x2_2 x3_2 l4_2 x5_2).bind fun r7 => ((impl_decimal.f k r7.1).bind fun r8 => (some (r8, r7.2)))) else (if x0_2 = (⟨#[115, 116, 97, 116, 101, 115]⟩ : ByteArray) then ((impl_CarpetStates.f k x2_2 x3_2 l4_2 x5_2).bind fun r9 => ((impl_listText.f k r9.1).bind fun r10 => (some (r10, r9.2)))) else (if x0_2 = (⟨#[110, 101, 120, 116]⟩ : ByteArray) then ((impl_DaysToSell.f k x2_2 x3_2 l4_2 x5_2).bind fun r11 => ((impl_decimal.f k r11.1).bind fun r12 => (some (r12, r11.2)))) else (some ((⟨#[]⟩ : ByteArray), false))))))))))
def l2 : Nat → ByteArray → List Int → Int → Int → (List (Int × Int × Int × Int × Int)) → Int → Bool → Option (ByteArray × Bool)
  | 0, _, _, _, _, _, _, _ => none
  | k + 1, x0_2, l1_2, x2_2, x3_2, l4_2, x5_2, x6_2 => b2 k x0_2 l1_2 x2_2 x3_2 l4_2 x5_2 x6_2
def m (o2 : ByteArray → List Int → Int → Int → (List (Int × Int × Int × Int × Int)) → Int → Bool → Option (ByteArray × Bool)) (k : Nat) (a0_0 a0_1 : Int) (l0_2 : List (Int × Int × Int × Int × Int)) (a0_3 : Int) (a1 : ByteArray) (l2 : List Int) : Option (ByteArray × Bool) := (if a1 = (⟨#[99, 97, 114, 112, 101, 116]⟩ : ByteArray) then (o2 a1 l2 a0_0 a0_1 l0_2 a0_3 (decide ((l2.length : Int) = 1))) else (o2 a1 l2 a0_0 a0_1 l0_2 a0_3 false))
def f (k : Nat) (a0_0 a0_1 : Int) (l0_2 : List (Int × Int × Int × Int × Int)) (a0_3 : Int) (a1 : ByteArray) (l2 : List Int) : Option (ByteArray × Bool) := m (impl_Shop_ask.l2 k) k a0_0 a0_1 l0_2 a0_3 a1 l2
noncomputable def spec (k : Nat) : FnSpec := ⟨[.ag [.d (.int .i64) none, .d (.int .i64) none, .d (.sl (.pair (.int .i64) (.pair (.int .i64) (.pair (.int .i64) (.pair (.int .i64) (.int .i64)))))) none, .d (.int .i64) none], .d .str none, .d (.sl (.int .i64)) none], [.d .str none, .d .bool none], fun x => f k x.1 x.2.1 x.2.2.1 x.2.2.2.1 x.2.2.2.2.1 x.2.2.2.2.2⟩
def S2 (x0_2 : ByteArray) (l1_2 : List Int) (x2_2 x3_2 : Int) (l4_2 : List (Int × Int × Int × Int × Int)) (x5_2 : Int) (x6_2 : Bool) : St := ⟨[(1, .val .str x0_2), (2, .val (.sl (.int .i64)) l1_2), (3, .ptr 100 0), (22, .val .bool x6_2)], [(100, some (.box [.val (.int .i64) x2_2, .val (.int .i64) x3_2, .val (.sl (.pair (.int .i64) (.pair (.int .i64) (.pair (.int .i64) (.pair (.int .i64) (.int .i64)))))) l4_2, .val (.int .i64) x5_2]))], 1000⟩
noncomputable def T : FnText := ⟨(conv [2] (bodyOf Tryz.f100) 0).1, Tryz.f100.results.toList, 84, [(2, [(1, .rd .str), (2, .rd (.sl (.int .i64))), (3, .bx 100 [.rd (.int .i64), .rd (.int .i64), .rd (.sl (.pair (.int .i64) (.pair (.int .i64) (.pair (.int .i64) (.pair (.int .i64) (.int .i64)))))), .rd (.int .i64)]), (22, .rd .bool)])], [.ag [.d (.int .i64) none, .d (.int .i64) none, .d (.sl (.pair (.int .i64) (.pair (.int .i64) (.pair (.int .i64) (.pair (.int .i64) (.int .i64)))))) none, .d (.int .i64) none], .d .str none, .d (.sl (.int .i64)) none], [.d .str none, .d .bool none]⟩
noncomputable def tbl (k : Nat) : Tbl := [(69, impl_CarpetText.spec k), (71, impl_decimal.spec k), (141, impl_FreeLooms.spec k), (142, impl_listText.spec k), (143, impl_RowsLeft.spec k), (144, impl_CarpetStates.spec k), (145, impl_DaysToSell.spec k)]
theorem e2 (k : Nat) (o : Nat → St → Option (ByteArray × Bool)) (x0_2 : ByteArray) (l1_2 : List Int) (x2_2 x3_2 : Int) (l4_2 : List (Int × Int × Int × Int × Int)) (x5_2 : Int) (x6_2 : Bool) : T.step tyt (tbl k) o 2 (S2 x0_2 l1_2 x2_2 x3_2 l4_2 x5_2 x6_2) = b2 k x0_2 l1_2 x2_2 x3_2 l4_2 x5_2 x6_2 := by kernel_rfl
theorem e (k : Nat) (o : Nat → St → Option (ByteArray × Bool)) (a0_0 a0_1 : Int) (l0_2 : List (Int × Int × Int × Int × Int)) (a0_3 : Int) (a1 : ByteArray) (l2 : List Int) : T.main tyt (tbl k) o (a0_0, a0_1, l0_2, a0_3, a1, l2) = m (fun x0_2 l1_2 x2_2 x3_2 l4_2 x5_2 x6_2 => o 2 (S2 x0_2 l1_2 x2_2 x3_2 l4_2 x5_2 x6_2)) k a0_0 a0_1 l0_2 a0_3 a1 l2 := by kernel_rfl
theorem ok : T.ok = true := by kernel_rfl
theorem run (k : Nat) : (∀ (x0_2 : ByteArray) (l1_2 : List Int) (x2_2 x3_2 : Int) (l4_2 : List (Int × Int × Int × Int × Int)) (x5_2 : Int) (x6_2 : Bool), T.run tyt tbl k 2 (S2 x0_2 l1_2 x2_2 x3_2 l4_2 x5_2 x6_2) = impl_Shop_ask.l2 k x0_2 l1_2 x2_2 x3_2 l4_2 x5_2 x6_2) := by
  induction k with
  | zero => exact fun x0_2 l1_2 x2_2 x3_2 l4_2 x5_2 x6_2 => rfl
  | succ k ih =>
    exact fun x0_2 l1_2 x2_2 x3_2 l4_2 x5_2 x6_2 => by
      exact (e2 k (T.run tyt tbl k) x0_2 l1_2 x2_2 x3_2 l4_2 x5_2 x6_2).trans (by rfl)
theorem tblok (k : Nat) : TblOk Tryz.prog (tbl k) := TblOk.cons (impl_CarpetText.sound k) (TblOk.cons (impl_decimal.sound k) (TblOk.cons (impl_FreeLooms.sound k) (TblOk.cons (impl_listText.sound k) (TblOk.cons (impl_RowsLeft.sound k) (TblOk.cons (impl_CarpetStates.sound k) (TblOk.cons (impl_DaysToSell.sound k) (TblOk.nil _)))))))
theorem sound (k : Nat) : Sound Tryz.prog 100 (spec k) := by
  have h := fn_ok (F := T) (tbl := tbl) mixed tyok Tryz.func100 (by kernel_rfl) (c0 := bodyOf Tryz.f100) rfl (conv_code _ _ _) rfl rfl ok k (fun j _ => tblok j)
  have q2 : (fun x0_2 l1_2 x2_2 x3_2 l4_2 x5_2 x6_2 => T.run tyt tbl k 2 (S2 x0_2 l1_2 x2_2 x3_2 l4_2 x5_2 x6_2)) = impl_Shop_ask.l2 k := by funext x0_2 l1_2 x2_2 x3_2 l4_2 x5_2 x6_2; exact (run k) x0_2 l1_2 x2_2 x3_2 l4_2 x5_2 x6_2
  have e : spec k = ⟨T.ps, T.rs, T.ev tyt tbl k⟩ := congrArg (FnSpec.mk _ _) (funext fun x => ((e k (T.run tyt tbl k) x.1 x.2.1 x.2.2.1 x.2.2.2.1 x.2.2.2.2.1 x.2.2.2.2.2).trans (by rw [q2]; rfl)).symm)
  rw [e]
  exact h
end impl_Shop_ask

namespace impl_Shop_execute
/-! ### impl_Shop_execute: function 51 -/
def m (k : Nat) (a0_0 a0_1 : Int) (l0_2 : List (Int × Int × Int × Int × Int)) (a0_3 : Int) (a1 : ByteArray) : Option (Int × Int × List (Int × Int × Int × Int × Int) × Int × ByteArray) := ((strings_Split.f k a1 (⟨#[32]⟩ : ByteArray)).bind fun r1 => ((cut r1.length 1 (r1.length : Int)).bind fun c2 => ((impl_parseInts.f k ((r1.drop c2.1).take c2.2)).bind fun r3 => (cond (!r3.2) (some (a0_0, a0_1, l0_2, a0_3, (⟨#[63]⟩ : ByteArray))) ((chk r1.length 0).bind fun i4 => ((impl_stepOf.f k (r1.getD i4 ByteArray.empty) r3.1).bind fun r5 => (cond r5.2.2.2 ((impl_Shop_step.f k a0_0 a0_1 l0_2 a0_3 r5.1 r5.2.1 r5.2.2.1).bind fun r6 => (cond (!r6.2.2.2.2) (some (a0_0, a0_1, l0_2, a0_3, (⟨#[63]⟩ : ByteArray))) ((impl_Shop_stepReply.f k r6.1 r6.2.1 r6.2.2.1 r6.2.2.2.1 r5.1 r5.2.1 r5.2.2.1).bind fun r7 => (some (r6.1, r6.2.1, r6.2.2.1, r6.2.2.2.1, r7))))) ((chk r1.length 0).bind fun i8 => ((impl_Shop_ask.f k a0_0 a0_1 l0_2 a0_3 (r1.getD i8 ByteArray.empty) r3.1).bind fun r9 => (cond (!r9.2) (some (a0_0, a0_1, l0_2, a0_3, (⟨#[63]⟩ : ByteArray))) (some (a0_0, a0_1, l0_2, a0_3, r9.1))))))))))))
def f (k : Nat) (a0_0 a0_1 : Int) (l0_2 : List (Int × Int × Int × Int × Int)) (a0_3 : Int) (a1 : ByteArray) : Option (Int × Int × List (Int × Int × Int × Int × Int) × Int × ByteArray) := m k a0_0 a0_1 l0_2 a0_3 a1
noncomputable def spec (k : Nat) : FnSpec := ⟨[.ag [.d (.int .i64) none, .d (.int .i64) none, .d (.sl (.pair (.int .i64) (.pair (.int .i64) (.pair (.int .i64) (.pair (.int .i64) (.int .i64)))))) (some 108), .d (.int .i64) none], .d .str none], [.ag [.d (.int .i64) none, .d (.int .i64) none, .d (.sl (.pair (.int .i64) (.pair (.int .i64) (.pair (.int .i64) (.pair (.int .i64) (.int .i64)))))) (some 108), .d (.int .i64) none], .d .str none], fun x => f k x.1 x.2.1 x.2.2.1 x.2.2.2.1 x.2.2.2.2⟩
noncomputable def T : FnText := ⟨(conv [] (bodyOf Tryz.f51) 0).1, Tryz.f51.results.toList, 61, [], [.ag [.d (.int .i64) none, .d (.int .i64) none, .d (.sl (.pair (.int .i64) (.pair (.int .i64) (.pair (.int .i64) (.pair (.int .i64) (.int .i64)))))) (some 108), .d (.int .i64) none], .d .str none], [.ag [.d (.int .i64) none, .d (.int .i64) none, .d (.sl (.pair (.int .i64) (.pair (.int .i64) (.pair (.int .i64) (.pair (.int .i64) (.int .i64)))))) (some 108), .d (.int .i64) none], .d .str none]⟩
noncomputable def tbl (k : Nat) : Tbl := [(67, strings_Split.spec k), (96, impl_parseInts.spec k), (97, impl_stepOf.spec k), (98, impl_Shop_step.spec k), (99, impl_Shop_stepReply.spec k), (100, impl_Shop_ask.spec k)]
theorem e (k : Nat) (o : Nat → St → Option (Int × Int × List (Int × Int × Int × Int × Int) × Int × ByteArray)) (a0_0 a0_1 : Int) (l0_2 : List (Int × Int × Int × Int × Int)) (a0_3 : Int) (a1 : ByteArray) : T.main tyt (tbl k) o (a0_0, a0_1, l0_2, a0_3, a1) = m k a0_0 a0_1 l0_2 a0_3 a1 := by kernel_rfl
theorem ok : T.ok = true := by kernel_rfl
theorem tblok (k : Nat) : TblOk Tryz.prog (tbl k) := TblOk.cons (strings_Split.sound k) (TblOk.cons (impl_parseInts.sound k) (TblOk.cons (impl_stepOf.sound k) (TblOk.cons (impl_Shop_step.sound k) (TblOk.cons (impl_Shop_stepReply.sound k) (TblOk.cons (impl_Shop_ask.sound k) (TblOk.nil _))))))
theorem sound (k : Nat) : Sound Tryz.prog 51 (spec k) := by
  have h := fn_ok (F := T) (tbl := tbl) mixed tyok Tryz.func51 (by kernel_rfl) (c0 := bodyOf Tryz.f51) rfl (conv_code _ _ _) rfl rfl ok k (fun j _ => tblok j)
  have e : spec k = ⟨T.ps, T.rs, T.ev tyt tbl k⟩ := congrArg (FnSpec.mk _ _) (funext fun x => ((e k (T.run tyt tbl k) x.1 x.2.1 x.2.2.1 x.2.2.2.1 x.2.2.2.2).trans (by rfl)).symm)
  rw [e]
  exact h
end impl_Shop_execute

namespace impl_AppendRecord
/-! ### impl_AppendRecord: function 52 -/
def m (k : Nat) (a0_0 a0_1 : ByteArray) (a0_2 : Int) (a1_0 a1_1 : ByteArray) : Option (ByteArray × ByteArray × Int × Int) := ((impl_IsValidLog.f k a0_0 a0_1 a0_2).bind fun r1 => (cond (!r1) (some (a0_0, a0_1, a0_2, 1)) ((impl_IsValidRecord.f k a1_0 a1_1).bind fun r2 => (cond (!r2) (some (a0_0, a0_1, a0_2, 1)) ((impl_EncodeRecord.f k a0_2 a1_0 a1_1).bind fun r3 => (cond (!r3.2) (some (a0_0, a0_1, a0_2, 2)) ((catS a0_1 r3.1).bind fun s4 => (some (a0_0, s4, (w64 (a0_2 + 1)), 0)))))))))
def f (k : Nat) (a0_0 a0_1 : ByteArray) (a0_2 : Int) (a1_0 a1_1 : ByteArray) : Option (ByteArray × ByteArray × Int × Int) := m k a0_0 a0_1 a0_2 a1_0 a1_1
noncomputable def spec (k : Nat) : FnSpec := ⟨[.ag [.d .str none, .d .str none, .d (.int .i64) none], .ag [.d .str none, .d .str none]], [.ag [.d .str none, .d .str none, .d (.int .i64) none], .d (.int .i64) none], fun x => f k x.1 x.2.1 x.2.2.1 x.2.2.2.1 x.2.2.2.2⟩
noncomputable def T : FnText := ⟨(conv [] (bodyOf Tryz.f52) 0).1, Tryz.f52.results.toList, 37, [], [.ag [.d .str none, .d .str none, .d (.int .i64) none], .ag [.d .str none, .d .str none]], [.ag [.d .str none, .d .str none, .d (.int .i64) none], .d (.int .i64) none]⟩
noncomputable def tbl (k : Nat) : Tbl := [(64, impl_IsValidLog.spec k), (50, impl_IsValidRecord.spec k), (101, impl_EncodeRecord.spec k)]
theorem e (k : Nat) (o : Nat → St → Option (ByteArray × ByteArray × Int × Int)) (a0_0 a0_1 : ByteArray) (a0_2 : Int) (a1_0 a1_1 : ByteArray) : T.main tyt (tbl k) o (a0_0, a0_1, a0_2, a1_0, a1_1) = m k a0_0 a0_1 a0_2 a1_0 a1_1 := by kernel_rfl
theorem ok : T.ok = true := by kernel_rfl
theorem tblok (k : Nat) : TblOk Tryz.prog (tbl k) := TblOk.cons (impl_IsValidLog.sound k) (TblOk.cons (impl_IsValidRecord.sound k) (TblOk.cons (impl_EncodeRecord.sound k) (TblOk.nil _)))
theorem sound (k : Nat) : Sound Tryz.prog 52 (spec k) := by
  have h := fn_ok (F := T) (tbl := tbl) mixed tyok Tryz.func52 (by kernel_rfl) (c0 := bodyOf Tryz.f52) rfl (conv_code _ _ _) rfl rfl ok k (fun j _ => tblok j)
  have e : spec k = ⟨T.ps, T.rs, T.ev tyt tbl k⟩ := congrArg (FnSpec.mk _ _) (funext fun x => ((e k (T.run tyt tbl k) x.1 x.2.1 x.2.2.1 x.2.2.2.1 x.2.2.2.2).trans (by rfl)).symm)
  rw [e]
  exact h
end impl_AppendRecord

namespace impl_ExecuteCommand
/-! ### impl_ExecuteCommand: function 16 -/
def m (k : Nat) (a0_0 a0_1 : Int) (l0_2 : List (Int × Int × Int × Int × Int)) (a0_3 : Int) (a0_4 a0_5 : ByteArray) (a0_6 : Int) (a1 : ByteArray) : Option (Int × Int × List (Int × Int × Int × Int × Int) × Int × ByteArray × ByteArray × Int × ByteArray) := ((impl_IsValidConsole.f k a0_0 a0_1 l0_2 a0_3 a0_4 a0_5 a0_6).bind fun r1 => (cond (!r1) ((impl_Console_copied.f k a0_0 a0_1 l0_2 a0_3 a0_4 a0_5 a0_6).bind fun r2 => (some (r2.1, r2.2.1, r2.2.2.1, r2.2.2.2.1, r2.2.2.2.2.1, r2.2.2.2.2.2.1, r2.2.2.2.2.2.2, (⟨#[110, 111]⟩ : ByteArray)))) ((impl_IsValidRecord.f k a1 ByteArray.empty).bind fun r3 => (cond (!r3) ((impl_Console_copied.f k a0_0 a0_1 l0_2 a0_3 a0_4 a0_5 a0_6).bind fun r4 => (some (r4.1, r4.2.1, r4.2.2.1, r4.2.2.2.1, r4.2.2.2.2.1, r4.2.2.2.2.2.1, r4.2.2.2.2.2.2, (⟨#[98, 97, 100]⟩ : ByteArray)))) (if a0_6 = 60 then ((impl_Console_copied.f k a0_0 a0_1 l0_2 a0_3 a0_4 a0_5 a0_6).bind fun r5 => (some (r5.1, r5.2.1, r5.2.2.1, r5.2.2.2.1, r5.2.2.2.2.1, r5.2.2.2.2.2.1, r5.2.2.2.2.2.2, (⟨#[102, 117, 108, 108]⟩ : ByteArray)))) else ((impl_Console_copied.f k a0_0 a0_1 l0_2 a0_3 a0_4 a0_5 a0_6).bind fun r6 => ((impl_Shop_execute.f k r6.1 r6.2.1 r6.2.2.1 r6.2.2.2.1 a1).bind fun r7 => (if 200 < (r7.2.2.2.2.size : Int) then ((impl_AppendRecord.f k a0_4 a0_5 a0_6 a1 (⟨#[108, 111, 110, 103]⟩ : ByteArray)).bind fun r8 => (some (r7.1, r7.2.1, r7.2.2.1, r7.2.2.2.1, r8.1, r8.2.1, r8.2.2.1, (⟨#[108, 111, 110, 103]⟩ : ByteArray)))) else ((impl_AppendRecord.f k a0_4 a0_5 a0_6 a1 r7.2.2.2.2).bind fun r9 => (some (r7.1, r7.2.1, r7.2.2.1, r7.2.2.2.1, r9.1, r9.2.1, r9.2.2.1, r7.2.2.2.2)))))))))))
def f (k : Nat) (a0_0 a0_1 : Int) (l0_2 : List (Int × Int × Int × Int × Int)) (a0_3 : Int) (a0_4 a0_5 : ByteArray) (a0_6 : Int) (a1 : ByteArray) : Option (Int × Int × List (Int × Int × Int × Int × Int) × Int × ByteArray × ByteArray × Int × ByteArray) := m k a0_0 a0_1 l0_2 a0_3 a0_4 a0_5 a0_6 a1
noncomputable def spec (k : Nat) : FnSpec := ⟨[.ag [.d (.int .i64) none, .d (.int .i64) none, .d (.sl (.pair (.int .i64) (.pair (.int .i64) (.pair (.int .i64) (.pair (.int .i64) (.int .i64)))))) none, .d (.int .i64) none, .d .str none, .d .str none, .d (.int .i64) none], .d .str none], [.ag [.d (.int .i64) none, .d (.int .i64) none, .d (.sl (.pair (.int .i64) (.pair (.int .i64) (.pair (.int .i64) (.pair (.int .i64) (.int .i64)))))) (some 108), .d (.int .i64) none, .d .str none, .d .str none, .d (.int .i64) none], .d .str none], fun x => f k x.1 x.2.1 x.2.2.1 x.2.2.2.1 x.2.2.2.2.1 x.2.2.2.2.2.1 x.2.2.2.2.2.2.1 x.2.2.2.2.2.2.2⟩
noncomputable def T : FnText := ⟨(conv [] (bodyOf Tryz.f16) 0).1, Tryz.f16.results.toList, 55, [], [.ag [.d (.int .i64) none, .d (.int .i64) none, .d (.sl (.pair (.int .i64) (.pair (.int .i64) (.pair (.int .i64) (.pair (.int .i64) (.int .i64)))))) none, .d (.int .i64) none, .d .str none, .d .str none, .d (.int .i64) none], .d .str none], [.ag [.d (.int .i64) none, .d (.int .i64) none, .d (.sl (.pair (.int .i64) (.pair (.int .i64) (.pair (.int .i64) (.pair (.int .i64) (.int .i64)))))) (some 108), .d (.int .i64) none, .d .str none, .d .str none, .d (.int .i64) none], .d .str none]⟩
noncomputable def tbl (k : Nat) : Tbl := [(23, impl_IsValidConsole.spec k), (49, impl_Console_copied.spec k), (50, impl_IsValidRecord.spec k), (51, impl_Shop_execute.spec k), (52, impl_AppendRecord.spec k)]
theorem e (k : Nat) (o : Nat → St → Option (Int × Int × List (Int × Int × Int × Int × Int) × Int × ByteArray × ByteArray × Int × ByteArray)) (a0_0 a0_1 : Int) (l0_2 : List (Int × Int × Int × Int × Int)) (a0_3 : Int) (a0_4 a0_5 : ByteArray) (a0_6 : Int) (a1 : ByteArray) : T.main tyt (tbl k) o (a0_0, a0_1, l0_2, a0_3, a0_4, a0_5, a0_6, a1) = m k a0_0 a0_1 l0_2 a0_3 a0_4 a0_5 a0_6 a1 := by kernel_rfl
theorem ok : T.ok = true := by kernel_rfl
theorem tblok (k : Nat) : TblOk Tryz.prog (tbl k) := TblOk.cons (impl_IsValidConsole.sound k) (TblOk.cons (impl_Console_copied.sound k) (TblOk.cons (impl_IsValidRecord.sound k) (TblOk.cons (impl_Shop_execute.sound k) (TblOk.cons (impl_AppendRecord.sound k) (TblOk.nil _)))))
theorem sound (k : Nat) : Sound Tryz.prog 16 (spec k) := by
  have h := fn_ok (F := T) (tbl := tbl) mixed tyok Tryz.func16 (by kernel_rfl) (c0 := bodyOf Tryz.f16) rfl (conv_code _ _ _) rfl rfl ok k (fun j _ => tblok j)
  have e : spec k = ⟨T.ps, T.rs, T.ev tyt tbl k⟩ := congrArg (FnSpec.mk _ _) (funext fun x => ((e k (T.run tyt tbl k) x.1 x.2.1 x.2.2.1 x.2.2.2.1 x.2.2.2.2.1 x.2.2.2.2.2.1 x.2.2.2.2.2.2.1 x.2.2.2.2.2.2.2).trans (by rfl)).symm)
  rw [e]
  exact h
end impl_ExecuteCommand

namespace laws_eqCarpet
/-! ### laws_eqCarpet: function 147 -/
def m (k : Nat) (a0_0 a0_1 a0_2 a0_3 a0_4 a1_0 a1_1 a1_2 a1_3 a1_4 : Int) : Option (Bool) := (if ¬ a0_0 = a1_0 then (some false) else (if ¬ a0_1 = a1_1 then (some false) else (if ¬ a0_2 = a1_2 then (some false) else (if ¬ a0_3 = a1_3 then (some false) else (if ¬ a0_4 = a1_4 then (some false) else (some true))))))
def f (k : Nat) (a0_0 a0_1 a0_2 a0_3 a0_4 a1_0 a1_1 a1_2 a1_3 a1_4 : Int) : Option (Bool) := m k a0_0 a0_1 a0_2 a0_3 a0_4 a1_0 a1_1 a1_2 a1_3 a1_4
noncomputable def spec (k : Nat) : FnSpec := ⟨[.ag [.d (.int .i64) none, .d (.int .i64) none, .d (.int .i64) none, .d (.int .i64) none, .d (.int .i64) none], .ag [.d (.int .i64) none, .d (.int .i64) none, .d (.int .i64) none, .d (.int .i64) none, .d (.int .i64) none]], [.d .bool none], fun x => f k x.1 x.2.1 x.2.2.1 x.2.2.2.1 x.2.2.2.2.1 x.2.2.2.2.2.1 x.2.2.2.2.2.2.1 x.2.2.2.2.2.2.2.1 x.2.2.2.2.2.2.2.2.1 x.2.2.2.2.2.2.2.2.2⟩
noncomputable def T : FnText := ⟨(conv [] (bodyOf Tryz.f147) 0).1, Tryz.f147.results.toList, 30, [], [.ag [.d (.int .i64) none, .d (.int .i64) none, .d (.int .i64) none, .d (.int .i64) none, .d (.int .i64) none], .ag [.d (.int .i64) none, .d (.int .i64) none, .d (.int .i64) none, .d (.int .i64) none, .d (.int .i64) none]], [.d .bool none]⟩
noncomputable def tbl (k : Nat) : Tbl := []
theorem e (k : Nat) (o : Nat → St → Option (Bool)) (a0_0 a0_1 a0_2 a0_3 a0_4 a1_0 a1_1 a1_2 a1_3 a1_4 : Int) : T.main tyt (tbl k) o (a0_0, a0_1, a0_2, a0_3, a0_4, a1_0, a1_1, a1_2, a1_3, a1_4) = m k a0_0 a0_1 a0_2 a0_3 a0_4 a1_0 a1_1 a1_2 a1_3 a1_4 := by kernel_rfl
theorem ok : T.ok = true := by kernel_rfl
theorem tblok (k : Nat) : TblOk Tryz.prog (tbl k) := TblOk.nil _
theorem sound (k : Nat) : Sound Tryz.prog 147 (spec k) := by
  have h := fn_ok (F := T) (tbl := tbl) mixed tyok Tryz.func147 (by kernel_rfl) (c0 := bodyOf Tryz.f147) rfl (conv_code _ _ _) rfl rfl ok k (fun j _ => tblok j)
  have e : spec k = ⟨T.ps, T.rs, T.ev tyt tbl k⟩ := congrArg (FnSpec.mk _ _) (funext fun x => ((e k (T.run tyt tbl k) x.1 x.2.1 x.2.2.1 x.2.2.2.1 x.2.2.2.2.1 x.2.2.2.2.2.1 x.2.2.2.2.2.2.1 x.2.2.2.2.2.2.2.1 x.2.2.2.2.2.2.2.2.1 x.2.2.2.2.2.2.2.2.2).trans (by rfl)).symm)
  rw [e]
  exact h
end laws_eqCarpet

namespace laws_eqCarpetS
/-! ### laws_eqCarpetS: function 102 -/
def b6 (o6 : (List (Int × Int × Int × Int × Int)) → (List (Int × Int × Int × Int × Int)) → Int → Option (Bool)) (k : Nat) (l0_6 l1_6 : List (Int × Int × Int × Int × Int)) (x2_6 : Int) : Option (Bool) := (if x2_6 < (l0_6.length : Int) then ((chk l0_6.length x2_6).bind fun i1 => ((chk l1_6.length x2_6).bind fun i2 => ((laws_eqCarpet.f k ((l0_6.getD i1 (0, 0, 0, 0, 0)).1) (((l0_6.getD i1 (0, 0, 0, 0, 0)).2).1) ((((l0_6.getD i1 (0, 0, 0, 0, 0)).2).2).1) (((((l0_6.getD i1 (0, 0, 0, 0, 0)).2).2).2).1) (((((l0_6.getD i1 (0, 0, 0, 0, 0)).2).2).2).2) ((l1_6.getD i2 (0, 0, 0, 0, 0)).1) (((l1_6.getD i2 (0, 0, 0, 0, 0)).2).1) ((((l1_6.getD i2 (0, 0, 0, 0, 0)).2).2).1) (((((l1_6.getD i2 (0, 0, 0, 0, 0)).2).2).2).1) (((((l1_6.getD i2 (0, 0, 0, 0, 0)).2).2).2).2)).bind fun r3 => (cond (!r3) (some false) (o6 l0_6 l1_6 (w64 (x2_6 + 1))))))) else (some true))
def l6 : Nat → (List (Int × Int × Int × Int × Int)) → (List (Int × Int × Int × Int × Int)) → Int → Option (Bool)
  | 0, _, _, _ => none
  | k + 1, l0_6, l1_6, x2_6 => b6 (laws_eqCarpetS.l6 k) k l0_6 l1_6 x2_6
def m (o6 : (List (Int × Int × Int × Int × Int)) → (List (Int × Int × Int × Int × Int)) → Int → Option (Bool)) (k : Nat) (l0 l1 : List (Int × Int × Int × Int × Int)) : Option (Bool) := (if ¬ (l0.length : Int) = (l1.length : Int) then (some false) else (o6 l0 l1 0))
def f (k : Nat) (l0 l1 : List (Int × Int × Int × Int × Int)) : Option (Bool) := m (laws_eqCarpetS.l6 k) k l0 l1
noncomputable def spec (k : Nat) : FnSpec := ⟨[.d (.sl (.pair (.int .i64) (.pair (.int .i64) (.pair (.int .i64) (.pair (.int .i64) (.int .i64)))))) none, .d (.sl (.pair (.int .i64) (.pair (.int .i64) (.pair (.int .i64) (.pair (.int .i64) (.int .i64)))))) none], [.d .bool none], fun x => f k x.1 x.2⟩
def S6 (l0_6 l1_6 : List (Int × Int × Int × Int × Int)) (x2_6 : Int) : St := ⟨[(0, .val (.sl (.pair (.int .i64) (.pair (.int .i64) (.pair (.int .i64) (.pair (.int .i64) (.int .i64)))))) l0_6), (1, .val (.sl (.pair (.int .i64) (.pair (.int .i64) (.pair (.int .i64) (.pair (.int .i64) (.int .i64)))))) l1_6), (5, .val (.int .i64) x2_6)], [], 1000⟩
noncomputable def T : FnText := ⟨(conv [] (bodyOf Tryz.f102) 0).1, Tryz.f102.results.toList, 27, [(6, [(0, .rd (.sl (.pair (.int .i64) (.pair (.int .i64) (.pair (.int .i64) (.pair (.int .i64) (.int .i64))))))), (1, .rd (.sl (.pair (.int .i64) (.pair (.int .i64) (.pair (.int .i64) (.pair (.int .i64) (.int .i64))))))), (5, .rd (.int .i64))])], [.d (.sl (.pair (.int .i64) (.pair (.int .i64) (.pair (.int .i64) (.pair (.int .i64) (.int .i64)))))) none, .d (.sl (.pair (.int .i64) (.pair (.int .i64) (.pair (.int .i64) (.pair (.int .i64) (.int .i64)))))) none], [.d .bool none]⟩
noncomputable def tbl (k : Nat) : Tbl := [(147, laws_eqCarpet.spec k)]
theorem e6 (k : Nat) (o : Nat → St → Option (Bool)) (l0_6 l1_6 : List (Int × Int × Int × Int × Int)) (x2_6 : Int) : T.step tyt (tbl k) o 6 (S6 l0_6 l1_6 x2_6) = b6 (fun l0_6 l1_6 x2_6 => o 6 (S6 l0_6 l1_6 x2_6)) k l0_6 l1_6 x2_6 := by kernel_rfl
theorem e (k : Nat) (o : Nat → St → Option (Bool)) (l0 l1 : List (Int × Int × Int × Int × Int)) : T.main tyt (tbl k) o (l0, l1) = m (fun l0_6 l1_6 x2_6 => o 6 (S6 l0_6 l1_6 x2_6)) k l0 l1 := by kernel_rfl
theorem ok : T.ok = true := by kernel_rfl
theorem run (k : Nat) : (∀ (l0_6 l1_6 : List (Int × Int × Int × Int × Int)) (x2_6 : Int), T.run tyt tbl k 6 (S6 l0_6 l1_6 x2_6) = laws_eqCarpetS.l6 k l0_6 l1_6 x2_6) := by
  induction k with
  | zero => exact fun l0_6 l1_6 x2_6 => rfl
  | succ k ih =>
    exact fun l0_6 l1_6 x2_6 => by
      have q6 : (fun l0_6 l1_6 x2_6 => T.run tyt tbl k 6 (S6 l0_6 l1_6 x2_6)) = laws_eqCarpetS.l6 k := by funext l0_6 l1_6 x2_6; exact ih l0_6 l1_6 x2_6
      exact (e6 k (T.run tyt tbl k) l0_6 l1_6 x2_6).trans (by rw [q6]; rfl)
theorem tblok (k : Nat) : TblOk Tryz.prog (tbl k) := TblOk.cons (laws_eqCarpet.sound k) (TblOk.nil _)
theorem sound (k : Nat) : Sound Tryz.prog 102 (spec k) := by
  have h := fn_ok (F := T) (tbl := tbl) mixed tyok Tryz.func102 (by kernel_rfl) (c0 := bodyOf Tryz.f102) rfl (conv_code _ _ _) rfl rfl ok k (fun j _ => tblok j)
  have q6 : (fun l0_6 l1_6 x2_6 => T.run tyt tbl k 6 (S6 l0_6 l1_6 x2_6)) = laws_eqCarpetS.l6 k := by funext l0_6 l1_6 x2_6; exact (run k) l0_6 l1_6 x2_6
  have e : spec k = ⟨T.ps, T.rs, T.ev tyt tbl k⟩ := congrArg (FnSpec.mk _ _) (funext fun x => ((e k (T.run tyt tbl k) x.1 x.2).trans (by rw [q6]; rfl)).symm)
  rw [e]
  exact h
end laws_eqCarpetS

namespace laws_eqShop
/-! ### laws_eqShop: function 53 -/
def m (k : Nat) (a0_0 a0_1 : Int) (l0_2 : List (Int × Int × Int × Int × Int)) (a0_3 a1_0 a1_1 : Int) (l1_2 : List (Int × Int × Int × Int × Int)) (a1_3 : Int) : Option (Bool) := (if ¬ a0_0 = a1_0 then (some false) else (if ¬ a0_1 = a1_1 then (some false) else ((laws_eqCarpetS.f k l0_2 l1_2).bind fun r1 => (cond (!r1) (some false) (if ¬ a0_3 = a1_3 then (some false) else (some true))))))
def f (k : Nat) (a0_0 a0_1 : Int) (l0_2 : List (Int × Int × Int × Int × Int)) (a0_3 a1_0 a1_1 : Int) (l1_2 : List (Int × Int × Int × Int × Int)) (a1_3 : Int) : Option (Bool) := m k a0_0 a0_1 l0_2 a0_3 a1_0 a1_1 l1_2 a1_3
noncomputable def spec (k : Nat) : FnSpec := ⟨[.ag [.d (.int .i64) none, .d (.int .i64) none, .d (.sl (.pair (.int .i64) (.pair (.int .i64) (.pair (.int .i64) (.pair (.int .i64) (.int .i64)))))) none, .d (.int .i64) none], .ag [.d (.int .i64) none, .d (.int .i64) none, .d (.sl (.pair (.int .i64) (.pair (.int .i64) (.pair (.int .i64) (.pair (.int .i64) (.int .i64)))))) none, .d (.int .i64) none]], [.d .bool none], fun x => f k x.1 x.2.1 x.2.2.1 x.2.2.2.1 x.2.2.2.2.1 x.2.2.2.2.2.1 x.2.2.2.2.2.2.1 x.2.2.2.2.2.2.2⟩
noncomputable def T : FnText := ⟨(conv [] (bodyOf Tryz.f53) 0).1, Tryz.f53.results.toList, 26, [], [.ag [.d (.int .i64) none, .d (.int .i64) none, .d (.sl (.pair (.int .i64) (.pair (.int .i64) (.pair (.int .i64) (.pair (.int .i64) (.int .i64)))))) none, .d (.int .i64) none], .ag [.d (.int .i64) none, .d (.int .i64) none, .d (.sl (.pair (.int .i64) (.pair (.int .i64) (.pair (.int .i64) (.pair (.int .i64) (.int .i64)))))) none, .d (.int .i64) none]], [.d .bool none]⟩
noncomputable def tbl (k : Nat) : Tbl := [(102, laws_eqCarpetS.spec k)]
theorem e (k : Nat) (o : Nat → St → Option (Bool)) (a0_0 a0_1 : Int) (l0_2 : List (Int × Int × Int × Int × Int)) (a0_3 a1_0 a1_1 : Int) (l1_2 : List (Int × Int × Int × Int × Int)) (a1_3 : Int) : T.main tyt (tbl k) o (a0_0, a0_1, l0_2, a0_3, a1_0, a1_1, l1_2, a1_3) = m k a0_0 a0_1 l0_2 a0_3 a1_0 a1_1 l1_2 a1_3 := by kernel_rfl
theorem ok : T.ok = true := by kernel_rfl
theorem tblok (k : Nat) : TblOk Tryz.prog (tbl k) := TblOk.cons (laws_eqCarpetS.sound k) (TblOk.nil _)
theorem sound (k : Nat) : Sound Tryz.prog 53 (spec k) := by
  have h := fn_ok (F := T) (tbl := tbl) mixed tyok Tryz.func53 (by kernel_rfl) (c0 := bodyOf Tryz.f53) rfl (conv_code _ _ _) rfl rfl ok k (fun j _ => tblok j)
  have e : spec k = ⟨T.ps, T.rs, T.ev tyt tbl k⟩ := congrArg (FnSpec.mk _ _) (funext fun x => ((e k (T.run tyt tbl k) x.1 x.2.1 x.2.2.1 x.2.2.2.1 x.2.2.2.2.1 x.2.2.2.2.2.1 x.2.2.2.2.2.2.1 x.2.2.2.2.2.2.2).trans (by rfl)).symm)
  rw [e]
  exact h
end laws_eqShop

namespace laws_eqLog
/-! ### laws_eqLog: function 54 -/
def m (k : Nat) (a0_0 a0_1 : ByteArray) (a0_2 : Int) (a1_0 a1_1 : ByteArray) (a1_2 : Int) : Option (Bool) := (if ¬ a0_0 = a1_0 then (some false) else (if ¬ a0_1 = a1_1 then (some false) else (if ¬ a0_2 = a1_2 then (some false) else (some true))))
def f (k : Nat) (a0_0 a0_1 : ByteArray) (a0_2 : Int) (a1_0 a1_1 : ByteArray) (a1_2 : Int) : Option (Bool) := m k a0_0 a0_1 a0_2 a1_0 a1_1 a1_2
noncomputable def spec (k : Nat) : FnSpec := ⟨[.ag [.d .str none, .d .str none, .d (.int .i64) none], .ag [.d .str none, .d .str none, .d (.int .i64) none]], [.d .bool none], fun x => f k x.1 x.2.1 x.2.2.1 x.2.2.2.1 x.2.2.2.2.1 x.2.2.2.2.2⟩
noncomputable def T : FnText := ⟨(conv [] (bodyOf Tryz.f54) 0).1, Tryz.f54.results.toList, 20, [], [.ag [.d .str none, .d .str none, .d (.int .i64) none], .ag [.d .str none, .d .str none, .d (.int .i64) none]], [.d .bool none]⟩
noncomputable def tbl (k : Nat) : Tbl := []
theorem e (k : Nat) (o : Nat → St → Option (Bool)) (a0_0 a0_1 : ByteArray) (a0_2 : Int) (a1_0 a1_1 : ByteArray) (a1_2 : Int) : T.main tyt (tbl k) o (a0_0, a0_1, a0_2, a1_0, a1_1, a1_2) = m k a0_0 a0_1 a0_2 a1_0 a1_1 a1_2 := by kernel_rfl
theorem ok : T.ok = true := by kernel_rfl
theorem tblok (k : Nat) : TblOk Tryz.prog (tbl k) := TblOk.nil _
theorem sound (k : Nat) : Sound Tryz.prog 54 (spec k) := by
  have h := fn_ok (F := T) (tbl := tbl) mixed tyok Tryz.func54 (by kernel_rfl) (c0 := bodyOf Tryz.f54) rfl (conv_code _ _ _) rfl rfl ok k (fun j _ => tblok j)
  have e : spec k = ⟨T.ps, T.rs, T.ev tyt tbl k⟩ := congrArg (FnSpec.mk _ _) (funext fun x => ((e k (T.run tyt tbl k) x.1 x.2.1 x.2.2.1 x.2.2.2.1 x.2.2.2.2.1 x.2.2.2.2.2).trans (by rfl)).symm)
  rw [e]
  exact h
end laws_eqLog

namespace laws_eqConsole
/-! ### laws_eqConsole: function 17 -/
def m (k : Nat) (a0_0 a0_1 : Int) (l0_2 : List (Int × Int × Int × Int × Int)) (a0_3 : Int) (a0_4 a0_5 : ByteArray) (a0_6 a1_0 a1_1 : Int) (l1_2 : List (Int × Int × Int × Int × Int)) (a1_3 : Int) (a1_4 a1_5 : ByteArray) (a1_6 : Int) : Option (Bool) := ((laws_eqShop.f k a0_0 a0_1 l0_2 a0_3 a1_0 a1_1 l1_2 a1_3).bind fun r1 => (cond (!r1) (some false) ((laws_eqLog.f k a0_4 a0_5 a0_6 a1_4 a1_5 a1_6).bind fun r2 => (cond (!r2) (some false) (some true)))))
def f (k : Nat) (a0_0 a0_1 : Int) (l0_2 : List (Int × Int × Int × Int × Int)) (a0_3 : Int) (a0_4 a0_5 : ByteArray) (a0_6 a1_0 a1_1 : Int) (l1_2 : List (Int × Int × Int × Int × Int)) (a1_3 : Int) (a1_4 a1_5 : ByteArray) (a1_6 : Int) : Option (Bool) := m k a0_0 a0_1 l0_2 a0_3 a0_4 a0_5 a0_6 a1_0 a1_1 l1_2 a1_3 a1_4 a1_5 a1_6
noncomputable def spec (k : Nat) : FnSpec := ⟨[.ag [.d (.int .i64) none, .d (.int .i64) none, .d (.sl (.pair (.int .i64) (.pair (.int .i64) (.pair (.int .i64) (.pair (.int .i64) (.int .i64)))))) none, .d (.int .i64) none, .d .str none, .d .str none, .d (.int .i64) none], .ag [.d (.int .i64) none, .d (.int .i64) none, .d (.sl (.pair (.int .i64) (.pair (.int .i64) (.pair (.int .i64) (.pair (.int .i64) (.int .i64)))))) none, .d (.int .i64) none, .d .str none, .d .str none, .d (.int .i64) none]], [.d .bool none], fun x => f k x.1 x.2.1 x.2.2.1 x.2.2.2.1 x.2.2.2.2.1 x.2.2.2.2.2.1 x.2.2.2.2.2.2.1 x.2.2.2.2.2.2.2.1 x.2.2.2.2.2.2.2.2.1 x.2.2.2.2.2.2.2.2.2.1 x.2.2.2.2.2.2.2.2.2.2.1 x.2.2.2.2.2.2.2.2.2.2.2.1 x.2.2.2.2.2.2.2.2.2.2.2.2.1 x.2.2.2.2.2.2.2.2.2.2.2.2.2⟩
noncomputable def T : FnText := ⟨(conv [] (bodyOf Tryz.f17) 0).1, Tryz.f17.results.toList, 17, [], [.ag [.d (.int .i64) none, .d (.int .i64) none, .d (.sl (.pair (.int .i64) (.pair (.int .i64) (.pair (.int .i64) (.pair (.int .i64) (.int .i64)))))) none, .d (.int .i64) none, .d .str none, .d .str none, .d (.int .i64) none], .ag [.d (.int .i64) none, .d (.int .i64) none, .d (.sl (.pair (.int .i64) (.pair (.int .i64) (.pair (.int .i64) (.pair (.int .i64) (.int .i64)))))) none, .d (.int .i64) none, .d .str none, .d .str none, .d (.int .i64) none]], [.d .bool none]⟩
noncomputable def tbl (k : Nat) : Tbl := [(53, laws_eqShop.spec k), (54, laws_eqLog.spec k)]
theorem e (k : Nat) (o : Nat → St → Option (Bool)) (a0_0 a0_1 : Int) (l0_2 : List (Int × Int × Int × Int × Int)) (a0_3 : Int) (a0_4 a0_5 : ByteArray) (a0_6 a1_0 a1_1 : Int) (l1_2 : List (Int × Int × Int × Int × Int)) (a1_3 : Int) (a1_4 a1_5 : ByteArray) (a1_6 : Int) : T.main tyt (tbl k) o (a0_0, a0_1, l0_2, a0_3, a0_4, a0_5, a0_6, a1_0, a1_1, l1_2, a1_3, a1_4, a1_5, a1_6) = m k a0_0 a0_1 l0_2 a0_3 a0_4 a0_5 a0_6 a1_0 a1_1 l1_2 a1_3 a1_4 a1_5 a1_6 := by kernel_rfl
theorem ok : T.ok = true := by kernel_rfl
theorem tblok (k : Nat) : TblOk Tryz.prog (tbl k) := TblOk.cons (laws_eqShop.sound k) (TblOk.cons (laws_eqLog.sound k) (TblOk.nil _))
theorem sound (k : Nat) : Sound Tryz.prog 17 (spec k) := by
  have h := fn_ok (F := T) (tbl := tbl) mixed tyok Tryz.func17 (by kernel_rfl) (c0 := bodyOf Tryz.f17) rfl (conv_code _ _ _) rfl rfl ok k (fun j _ => tblok j)
  have e : spec k = ⟨T.ps, T.rs, T.ev tyt tbl k⟩ := congrArg (FnSpec.mk _ _) (funext fun x => ((e k (T.run tyt tbl k) x.1 x.2.1 x.2.2.1 x.2.2.2.1 x.2.2.2.2.1 x.2.2.2.2.2.1 x.2.2.2.2.2.2.1 x.2.2.2.2.2.2.2.1 x.2.2.2.2.2.2.2.2.1 x.2.2.2.2.2.2.2.2.2.1 x.2.2.2.2.2.2.2.2.2.2.1 x.2.2.2.2.2.2.2.2.2.2.2.1 x.2.2.2.2.2.2.2.2.2.2.2.2.1 x.2.2.2.2.2.2.2.2.2.2.2.2.2).trans (by rfl)).symm)
  rw [e]
  exact h
end laws_eqConsole

namespace laws_markCarpetS
/-! ### laws_markCarpetS: function 103 -/
def b3 (o3 : (List (Int × Int × Int × Int × Int)) → Int → Int → Option (Int × List (Int × Int × Int × Int × Int))) (k : Nat) (l0_3 : List (Int × Int × Int × Int × Int)) (x1_3 x2_3 : Int) : Option (Int × List (Int × Int × Int × Int × Int)) := (if x2_3 < (l0_3.length : Int) then ((chk l0_3.length x2_3).bind fun i1 => ((chk (upd l0_3 i1 (0, 0, 0, 0, 0) fun e2 => (x1_3, e2.2.1, e2.2.2.1, e2.2.2.2.1, e2.2.2.2.2)).length x2_3).bind fun i3 => ((chk (upd (upd l0_3 i1 (0, 0, 0, 0, 0) fun e2 => (x1_3, e2.2.1, e2.2.2.1, e2.2.2.2.1, e2.2.2.2.2)) i3 (0, 0, 0, 0, 0) fun e4 => (e4.1, (w64 (x1_3 + 1)), e4.2.2.1, e4.2.2.2.1, e4.2.2.2.2)).length x2_3).bind fun i5 => ((chk (upd (upd (upd l0_3 i1 (0, 0, 0, 0, 0) fun e2 => (x1_3, e2.2.1, e2.2.2.1, e2.2.2.2.1, e2.2.2.2.2)) i3 (0, 0, 0, 0, 0) fun e4 => (e4.1, (w64 (x1_3 + 1)), e4.2.2.1, e4.2.2.2.1, e4.2.2.2.2)) i5 (0, 0, 0, 0, 0) fun e6 => (e6.1, e6.2.1, (w64 ((w64 (x1_3 + 1)) + 1)), e6.2.2.2.1, e6.2.2.2.2)).length x2_3).bind fun i7 => ((chk (upd (upd (upd (upd l0_3 i1 (0, 0, 0, 0, 0) fun e2 => (x1_3, e2.2.1, e2.2.2.1, e2.2.2.2.1, e2.2.2.2.2)) i3 (0, 0, 0, 0, 0) fun e4 => (e4.1, (w64 (x1_3 + 1)), e4.2.2.1, e4.2.2.2.1, e4.2.2.2.2)) i5 (0, 0, 0, 0, 0) fun e6 => (e6.1, e6.2.1, (w64 ((w64 (x1_3 + 1)) + 1)), e6.2.2.2.1, e6.2.2.2.2)) i7 (0, 0, 0, 0, 0) fun e8 => (e8.1, e8.2.1, e8.2.2.1, (w64 ((w64 ((w64 (x1_3 + 1)) + 1)) + 1)), e8.2.2.2.2)).length x2_3).bind fun i9 => (o3 (upd (upd (upd (upd (upd l0_3 i1 (0, 0, 0, 0, 0) fun e2 => (x1_3, e2.2.1, e2.2.2.1, e2.2.2.2.1, e2.2.2.2.2)) i3 (0, 0, 0, 0, 0) fun e4 => (e4.1, (w64 (x1_3 + 1)), e4.2.2.1, e4.2.2.2.1, e4.2.2.2.2)) i5 (0, 0, 0, 0, 0) fun e6 => (e6.1, e6.2.1, (w64 ((w64 (x1_3 + 1)) + 1)), e6.2.2.2.1, e6.2.2.2.2)) i7 (0, 0, 0, 0, 0) fun e8 => (e8.1, e8.2.1, e8.2.2.1, (w64 ((w64 ((w64 (x1_3 + 1)) + 1)) + 1)), e8.2.2.2.2)) i9 (0, 0, 0, 0, 0) fun e10 => (e10.1, e10.2.1, e10.2.2.1, e10.2.2.2.1, (w64 ((w64 ((w64 ((w64 (x1_3 + 1)) + 1)) + 1)) + 1)))) (w64 ((w64 ((w64 ((w64 ((w64 (x1_3 + 1)) + 1)) + 1)) + 1)) + 1)) (w64 (x2_3 + 1)))))))) else (some (x1_3, l0_3)))
def l3 : Nat → (List (Int × Int × Int × Int × Int)) → Int → Int → Option (Int × List (Int × Int × Int × Int × Int))
  | 0, _, _, _ => none
  | k + 1, l0_3, x1_3, x2_3 => b3 (laws_markCarpetS.l3 k) k l0_3 x1_3 x2_3
def m (o3 : (List (Int × Int × Int × Int × Int)) → Int → Int → Option (Int × List (Int × Int × Int × Int × Int))) (k : Nat) (l0 : List (Int × Int × Int × Int × Int)) (a1 : Int) : Option (Int × List (Int × Int × Int × Int × Int)) := (o3 l0 a1 0)
def f (k : Nat) (l0 : List (Int × Int × Int × Int × Int)) (a1 : Int) : Option (Int × List (Int × Int × Int × Int × Int)) := m (laws_markCarpetS.l3 k) k l0 a1
noncomputable def spec (k : Nat) : FnSpec := ⟨[.io 108 (.pair (.int .i64) (.pair (.int .i64) (.pair (.int .i64) (.pair (.int .i64) (.int .i64))))), .d (.int .i64) none], [.d (.int .i64) none], fun x => f k x.1 x.2⟩
def S3 (l0_3 : List (Int × Int × Int × Int × Int)) (x1_3 x2_3 : Int) : St := ⟨[(0, .ref 0), (1, .val (.int .i64) x1_3), (5, .val (.int .i64) x2_3)], [(0, some (.row 108 (.pair (.int .i64) (.pair (.int .i64) (.pair (.int .i64) (.pair (.int .i64) (.int .i64))))) l0_3))], 1000⟩
noncomputable def T : FnText := ⟨(conv [] (bodyOf Tryz.f103) 0).1, Tryz.f103.results.toList, 48, [(3, [(0, .own 108 (.pair (.int .i64) (.pair (.int .i64) (.pair (.int .i64) (.pair (.int .i64) (.int .i64))))) 0), (1, .rd (.int .i64)), (5, .rd (.int .i64))])], [.io 108 (.pair (.int .i64) (.pair (.int .i64) (.pair (.int .i64) (.pair (.int .i64) (.int .i64))))), .d (.int .i64) none], [.d (.int .i64) none]⟩
noncomputable def tbl (k : Nat) : Tbl := []
theorem e3 (k : Nat) (o : Nat → St → Option (Int × List (Int × Int × Int × Int × Int))) (l0_3 : List (Int × Int × Int × Int × Int)) (x1_3 x2_3 : Int) : T.step tyt (tbl k) o 3 (S3 l0_3 x1_3 x2_3) = b3 (fun l0_3 x1_3 x2_3 => o 3 (S3 l0_3 x1_3 x2_3)) k l0_3 x1_3 x2_3 := by kernel_rfl
theorem e (k : Nat) (o : Nat → St → Option (Int × List (Int × Int × Int × Int × Int))) (l0 : List (Int × Int × Int × Int × Int)) (a1 : Int) : T.main tyt (tbl k) o (l0, a1) = m (fun l0_3 x1_3 x2_3 => o 3 (S3 l0_3 x1_3 x2_3)) k l0 a1 := by kernel_rfl
theorem ok : T.ok = true := by kernel_rfl
theorem run (k : Nat) : (∀ (l0_3 : List (Int × Int × Int × Int × Int)) (x1_3 x2_3 : Int), T.run tyt tbl k 3 (S3 l0_3 x1_3 x2_3) = laws_markCarpetS.l3 k l0_3 x1_3 x2_3) := by
  induction k with
  | zero => exact fun l0_3 x1_3 x2_3 => rfl
  | succ k ih =>
    exact fun l0_3 x1_3 x2_3 => by
      have q3 : (fun l0_3 x1_3 x2_3 => T.run tyt tbl k 3 (S3 l0_3 x1_3 x2_3)) = laws_markCarpetS.l3 k := by funext l0_3 x1_3 x2_3; exact ih l0_3 x1_3 x2_3
      exact (e3 k (T.run tyt tbl k) l0_3 x1_3 x2_3).trans (by rw [q3]; rfl)
theorem tblok (k : Nat) : TblOk Tryz.prog (tbl k) := TblOk.nil _
theorem sound (k : Nat) : Sound Tryz.prog 103 (spec k) := by
  have h := fn_ok (F := T) (tbl := tbl) mixed tyok Tryz.func103 (by kernel_rfl) (c0 := bodyOf Tryz.f103) rfl (conv_code _ _ _) rfl rfl ok k (fun j _ => tblok j)
  have q3 : (fun l0_3 x1_3 x2_3 => T.run tyt tbl k 3 (S3 l0_3 x1_3 x2_3)) = laws_markCarpetS.l3 k := by funext l0_3 x1_3 x2_3; exact (run k) l0_3 x1_3 x2_3
  have e : spec k = ⟨T.ps, T.rs, T.ev tyt tbl k⟩ := congrArg (FnSpec.mk _ _) (funext fun x => ((e k (T.run tyt tbl k) x.1 x.2).trans (by rw [q3]; rfl)).symm)
  rw [e]
  exact h
end laws_markCarpetS

namespace laws_markShop
/-! ### laws_markShop: function 55 -/
def m (k : Nat) (a0_0 a0_1 : Int) (l0_2 : List (Int × Int × Int × Int × Int)) (a0_3 a1 : Int) : Option (Int × List (Int × Int × Int × Int × Int)) := ((laws_markCarpetS.f k l0_2 a1).bind fun r1 => (some (r1.1, r1.2)))
def f (k : Nat) (a0_0 a0_1 : Int) (l0_2 : List (Int × Int × Int × Int × Int)) (a0_3 a1 : Int) : Option (Int × List (Int × Int × Int × Int × Int)) := m k a0_0 a0_1 l0_2 a0_3 a1
noncomputable def spec (k : Nat) : FnSpec := ⟨[.ag [.d (.int .i64) none, .d (.int .i64) none, .io 108 (.pair (.int .i64) (.pair (.int .i64) (.pair (.int .i64) (.pair (.int .i64) (.int .i64))))), .d (.int .i64) none], .d (.int .i64) none], [.d (.int .i64) none], fun x => f k x.1 x.2.1 x.2.2.1 x.2.2.2.1 x.2.2.2.2⟩
noncomputable def T : FnText := ⟨(conv [] (bodyOf Tryz.f55) 0).1, Tryz.f55.results.toList, 10, [], [.ag [.d (.int .i64) none, .d (.int .i64) none, .io 108 (.pair (.int .i64) (.pair (.int .i64) (.pair (.int .i64) (.pair (.int .i64) (.int .i64))))), .d (.int .i64) none], .d (.int .i64) none], [.d (.int .i64) none]⟩
noncomputable def tbl (k : Nat) : Tbl := [(103, laws_markCarpetS.spec k)]
theorem e (k : Nat) (o : Nat → St → Option (Int × List (Int × Int × Int × Int × Int))) (a0_0 a0_1 : Int) (l0_2 : List (Int × Int × Int × Int × Int)) (a0_3 a1 : Int) : T.main tyt (tbl k) o (a0_0, a0_1, l0_2, a0_3, a1) = m k a0_0 a0_1 l0_2 a0_3 a1 := by kernel_rfl
theorem ok : T.ok = true := by kernel_rfl
theorem tblok (k : Nat) : TblOk Tryz.prog (tbl k) := TblOk.cons (laws_markCarpetS.sound k) (TblOk.nil _)
theorem sound (k : Nat) : Sound Tryz.prog 55 (spec k) := by
  have h := fn_ok (F := T) (tbl := tbl) mixed tyok Tryz.func55 (by kernel_rfl) (c0 := bodyOf Tryz.f55) rfl (conv_code _ _ _) rfl rfl ok k (fun j _ => tblok j)
  have e : spec k = ⟨T.ps, T.rs, T.ev tyt tbl k⟩ := congrArg (FnSpec.mk _ _) (funext fun x => ((e k (T.run tyt tbl k) x.1 x.2.1 x.2.2.1 x.2.2.2.1 x.2.2.2.2).trans (by rfl)).symm)
  rw [e]
  exact h
end laws_markShop

namespace laws_markConsole
/-! ### laws_markConsole: function 18 -/
def m (k : Nat) (a0_0 a0_1 : Int) (l0_2 : List (Int × Int × Int × Int × Int)) (a0_3 : Int) (a0_4 a0_5 : ByteArray) (a0_6 a1 : Int) : Option (Int × List (Int × Int × Int × Int × Int)) := ((laws_markShop.f k a0_0 a0_1 l0_2 a0_3 a1).bind fun r1 => (some (r1.1, r1.2)))
def f (k : Nat) (a0_0 a0_1 : Int) (l0_2 : List (Int × Int × Int × Int × Int)) (a0_3 : Int) (a0_4 a0_5 : ByteArray) (a0_6 a1 : Int) : Option (Int × List (Int × Int × Int × Int × Int)) := m k a0_0 a0_1 l0_2 a0_3 a0_4 a0_5 a0_6 a1
noncomputable def spec (k : Nat) : FnSpec := ⟨[.ag [.d (.int .i64) none, .d (.int .i64) none, .io 108 (.pair (.int .i64) (.pair (.int .i64) (.pair (.int .i64) (.pair (.int .i64) (.int .i64))))), .d (.int .i64) none, .d .str none, .d .str none, .d (.int .i64) none], .d (.int .i64) none], [.d (.int .i64) none], fun x => f k x.1 x.2.1 x.2.2.1 x.2.2.2.1 x.2.2.2.2.1 x.2.2.2.2.2.1 x.2.2.2.2.2.2.1 x.2.2.2.2.2.2.2⟩
noncomputable def T : FnText := ⟨(conv [] (bodyOf Tryz.f18) 0).1, Tryz.f18.results.toList, 10, [], [.ag [.d (.int .i64) none, .d (.int .i64) none, .io 108 (.pair (.int .i64) (.pair (.int .i64) (.pair (.int .i64) (.pair (.int .i64) (.int .i64))))), .d (.int .i64) none, .d .str none, .d .str none, .d (.int .i64) none], .d (.int .i64) none], [.d (.int .i64) none]⟩
noncomputable def tbl (k : Nat) : Tbl := [(55, laws_markShop.spec k)]
theorem e (k : Nat) (o : Nat → St → Option (Int × List (Int × Int × Int × Int × Int))) (a0_0 a0_1 : Int) (l0_2 : List (Int × Int × Int × Int × Int)) (a0_3 : Int) (a0_4 a0_5 : ByteArray) (a0_6 a1 : Int) : T.main tyt (tbl k) o (a0_0, a0_1, l0_2, a0_3, a0_4, a0_5, a0_6, a1) = m k a0_0 a0_1 l0_2 a0_3 a0_4 a0_5 a0_6 a1 := by kernel_rfl
theorem ok : T.ok = true := by kernel_rfl
theorem tblok (k : Nat) : TblOk Tryz.prog (tbl k) := TblOk.cons (laws_markShop.sound k) (TblOk.nil _)
theorem sound (k : Nat) : Sound Tryz.prog 18 (spec k) := by
  have h := fn_ok (F := T) (tbl := tbl) mixed tyok Tryz.func18 (by kernel_rfl) (c0 := bodyOf Tryz.f18) rfl (conv_code _ _ _) rfl rfl ok k (fun j _ => tblok j)
  have e : spec k = ⟨T.ps, T.rs, T.ev tyt tbl k⟩ := congrArg (FnSpec.mk _ _) (funext fun x => ((e k (T.run tyt tbl k) x.1 x.2.1 x.2.2.1 x.2.2.2.1 x.2.2.2.2.1 x.2.2.2.2.2.1 x.2.2.2.2.2.2.1 x.2.2.2.2.2.2.2).trans (by rfl)).symm)
  rw [e]
  exact h
end laws_markConsole

namespace laws_heldCarpetS
/-! ### laws_heldCarpetS: function 104 -/
def b3 (o3 : (List (Int × Int × Int × Int × Int)) → Int → Int → Option (Int)) (k : Nat) (l0_3 : List (Int × Int × Int × Int × Int)) (x1_3 x2_3 : Int) : Option (Int) := (if x2_3 < (l0_3.length : Int) then ((chk l0_3.length x2_3).bind fun i1 => (if ¬ ((l0_3.getD i1 (0, 0, 0, 0, 0)).1) = x1_3 then (some (-1)) else ((chk l0_3.length x2_3).bind fun i2 => (if ¬ (((l0_3.getD i2 (0, 0, 0, 0, 0)).2).1) = (w64 (x1_3 + 1)) then (some (-1)) else ((chk l0_3.length x2_3).bind fun i3 => (if ¬ ((((l0_3.getD i3 (0, 0, 0, 0, 0)).2).2).1) = (w64 ((w64 (x1_3 + 1)) + 1)) then (some (-1)) else ((chk l0_3.length x2_3).bind fun i4 => (if ¬ (((((l0_3.getD i4 (0, 0, 0, 0, 0)).2).2).2).1) = (w64 ((w64 ((w64 (x1_3 + 1)) + 1)) + 1)) then (some (-1)) else ((chk l0_3.length x2_3).bind fun i5 => (if ¬ (((((l0_3.getD i5 (0, 0, 0, 0, 0)).2).2).2).2) = (w64 ((w64 ((w64 ((w64 (x1_3 + 1)) + 1)) + 1)) + 1)) then (some (-1)) else (o3 l0_3 (w64 ((w64 ((w64 ((w64 ((w64 (x1_3 + 1)) + 1)) + 1)) + 1)) + 1)) (w64 (x2_3 + 1))))))))))))) else (some x1_3))
def l3 : Nat → (List (Int × Int × Int × Int × Int)) → Int → Int → Option (Int)
  | 0, _, _, _ => none
  | k + 1, l0_3, x1_3, x2_3 => b3 (laws_heldCarpetS.l3 k) k l0_3 x1_3 x2_3
def m (o3 : (List (Int × Int × Int × Int × Int)) → Int → Int → Option (Int)) (k : Nat) (l0 : List (Int × Int × Int × Int × Int)) (a1 : Int) : Option (Int) := (o3 l0 a1 0)
def f (k : Nat) (l0 : List (Int × Int × Int × Int × Int)) (a1 : Int) : Option (Int) := m (laws_heldCarpetS.l3 k) k l0 a1
noncomputable def spec (k : Nat) : FnSpec := ⟨[.d (.sl (.pair (.int .i64) (.pair (.int .i64) (.pair (.int .i64) (.pair (.int .i64) (.int .i64)))))) none, .d (.int .i64) none], [.d (.int .i64) none], fun x => f k x.1 x.2⟩
def S3 (l0_3 : List (Int × Int × Int × Int × Int)) (x1_3 x2_3 : Int) : St := ⟨[(0, .val (.sl (.pair (.int .i64) (.pair (.int .i64) (.pair (.int .i64) (.pair (.int .i64) (.int .i64)))))) l0_3), (1, .val (.int .i64) x1_3), (5, .val (.int .i64) x2_3)], [], 1000⟩
noncomputable def T : FnText := ⟨(conv [] (bodyOf Tryz.f104) 0).1, Tryz.f104.results.toList, 58, [(3, [(0, .rd (.sl (.pair (.int .i64) (.pair (.int .i64) (.pair (.int .i64) (.pair (.int .i64) (.int .i64))))))), (1, .rd (.int .i64)), (5, .rd (.int .i64))])], [.d (.sl (.pair (.int .i64) (.pair (.int .i64) (.pair (.int .i64) (.pair (.int .i64) (.int .i64)))))) none, .d (.int .i64) none], [.d (.int .i64) none]⟩
noncomputable def tbl (k : Nat) : Tbl := []
theorem e3 (k : Nat) (o : Nat → St → Option (Int)) (l0_3 : List (Int × Int × Int × Int × Int)) (x1_3 x2_3 : Int) : T.step tyt (tbl k) o 3 (S3 l0_3 x1_3 x2_3) = b3 (fun l0_3 x1_3 x2_3 => o 3 (S3 l0_3 x1_3 x2_3)) k l0_3 x1_3 x2_3 := by kernel_rfl
theorem e (k : Nat) (o : Nat → St → Option (Int)) (l0 : List (Int × Int × Int × Int × Int)) (a1 : Int) : T.main tyt (tbl k) o (l0, a1) = m (fun l0_3 x1_3 x2_3 => o 3 (S3 l0_3 x1_3 x2_3)) k l0 a1 := by kernel_rfl
theorem ok : T.ok = true := by kernel_rfl
theorem run (k : Nat) : (∀ (l0_3 : List (Int × Int × Int × Int × Int)) (x1_3 x2_3 : Int), T.run tyt tbl k 3 (S3 l0_3 x1_3 x2_3) = laws_heldCarpetS.l3 k l0_3 x1_3 x2_3) := by
  induction k with
  | zero => exact fun l0_3 x1_3 x2_3 => rfl
  | succ k ih =>
    exact fun l0_3 x1_3 x2_3 => by
      have q3 : (fun l0_3 x1_3 x2_3 => T.run tyt tbl k 3 (S3 l0_3 x1_3 x2_3)) = laws_heldCarpetS.l3 k := by funext l0_3 x1_3 x2_3; exact ih l0_3 x1_3 x2_3
      exact (e3 k (T.run tyt tbl k) l0_3 x1_3 x2_3).trans (by rw [q3]; rfl)
theorem tblok (k : Nat) : TblOk Tryz.prog (tbl k) := TblOk.nil _
theorem sound (k : Nat) : Sound Tryz.prog 104 (spec k) := by
  have h := fn_ok (F := T) (tbl := tbl) mixed tyok Tryz.func104 (by kernel_rfl) (c0 := bodyOf Tryz.f104) rfl (conv_code _ _ _) rfl rfl ok k (fun j _ => tblok j)
  have q3 : (fun l0_3 x1_3 x2_3 => T.run tyt tbl k 3 (S3 l0_3 x1_3 x2_3)) = laws_heldCarpetS.l3 k := by funext l0_3 x1_3 x2_3; exact (run k) l0_3 x1_3 x2_3
  have e : spec k = ⟨T.ps, T.rs, T.ev tyt tbl k⟩ := congrArg (FnSpec.mk _ _) (funext fun x => ((e k (T.run tyt tbl k) x.1 x.2).trans (by rw [q3]; rfl)).symm)
  rw [e]
  exact h
end laws_heldCarpetS

namespace laws_heldShop
/-! ### laws_heldShop: function 56 -/
def m (k : Nat) (a0_0 a0_1 : Int) (l0_2 : List (Int × Int × Int × Int × Int)) (a0_3 a1 : Int) : Option (Int) := ((laws_heldCarpetS.f k l0_2 a1).bind fun r1 => (if r1 < 0 then (some (-1)) else (some r1)))
def f (k : Nat) (a0_0 a0_1 : Int) (l0_2 : List (Int × Int × Int × Int × Int)) (a0_3 a1 : Int) : Option (Int) := m k a0_0 a0_1 l0_2 a0_3 a1
noncomputable def spec (k : Nat) : FnSpec := ⟨[.ag [.d (.int .i64) none, .d (.int .i64) none, .d (.sl (.pair (.int .i64) (.pair (.int .i64) (.pair (.int .i64) (.pair (.int .i64) (.int .i64)))))) none, .d (.int .i64) none], .d (.int .i64) none], [.d (.int .i64) none], fun x => f k x.1 x.2.1 x.2.2.1 x.2.2.2.1 x.2.2.2.2⟩
noncomputable def T : FnText := ⟨(conv [] (bodyOf Tryz.f56) 0).1, Tryz.f56.results.toList, 12, [], [.ag [.d (.int .i64) none, .d (.int .i64) none, .d (.sl (.pair (.int .i64) (.pair (.int .i64) (.pair (.int .i64) (.pair (.int .i64) (.int .i64)))))) none, .d (.int .i64) none], .d (.int .i64) none], [.d (.int .i64) none]⟩
noncomputable def tbl (k : Nat) : Tbl := [(104, laws_heldCarpetS.spec k)]
theorem e (k : Nat) (o : Nat → St → Option (Int)) (a0_0 a0_1 : Int) (l0_2 : List (Int × Int × Int × Int × Int)) (a0_3 a1 : Int) : T.main tyt (tbl k) o (a0_0, a0_1, l0_2, a0_3, a1) = m k a0_0 a0_1 l0_2 a0_3 a1 := by kernel_rfl
theorem ok : T.ok = true := by kernel_rfl
theorem tblok (k : Nat) : TblOk Tryz.prog (tbl k) := TblOk.cons (laws_heldCarpetS.sound k) (TblOk.nil _)
theorem sound (k : Nat) : Sound Tryz.prog 56 (spec k) := by
  have h := fn_ok (F := T) (tbl := tbl) mixed tyok Tryz.func56 (by kernel_rfl) (c0 := bodyOf Tryz.f56) rfl (conv_code _ _ _) rfl rfl ok k (fun j _ => tblok j)
  have e : spec k = ⟨T.ps, T.rs, T.ev tyt tbl k⟩ := congrArg (FnSpec.mk _ _) (funext fun x => ((e k (T.run tyt tbl k) x.1 x.2.1 x.2.2.1 x.2.2.2.1 x.2.2.2.2).trans (by rfl)).symm)
  rw [e]
  exact h
end laws_heldShop

namespace laws_heldConsole
/-! ### laws_heldConsole: function 19 -/
def m (k : Nat) (a0_0 a0_1 : Int) (l0_2 : List (Int × Int × Int × Int × Int)) (a0_3 : Int) (a0_4 a0_5 : ByteArray) (a0_6 a1 : Int) : Option (Int) := ((laws_heldShop.f k a0_0 a0_1 l0_2 a0_3 a1).bind fun r1 => (if r1 < 0 then (some (-1)) else (some r1)))
def f (k : Nat) (a0_0 a0_1 : Int) (l0_2 : List (Int × Int × Int × Int × Int)) (a0_3 : Int) (a0_4 a0_5 : ByteArray) (a0_6 a1 : Int) : Option (Int) := m k a0_0 a0_1 l0_2 a0_3 a0_4 a0_5 a0_6 a1
noncomputable def spec (k : Nat) : FnSpec := ⟨[.ag [.d (.int .i64) none, .d (.int .i64) none, .d (.sl (.pair (.int .i64) (.pair (.int .i64) (.pair (.int .i64) (.pair (.int .i64) (.int .i64)))))) none, .d (.int .i64) none, .d .str none, .d .str none, .d (.int .i64) none], .d (.int .i64) none], [.d (.int .i64) none], fun x => f k x.1 x.2.1 x.2.2.1 x.2.2.2.1 x.2.2.2.2.1 x.2.2.2.2.2.1 x.2.2.2.2.2.2.1 x.2.2.2.2.2.2.2⟩
noncomputable def T : FnText := ⟨(conv [] (bodyOf Tryz.f19) 0).1, Tryz.f19.results.toList, 12, [], [.ag [.d (.int .i64) none, .d (.int .i64) none, .d (.sl (.pair (.int .i64) (.pair (.int .i64) (.pair (.int .i64) (.pair (.int .i64) (.int .i64)))))) none, .d (.int .i64) none, .d .str none, .d .str none, .d (.int .i64) none], .d (.int .i64) none], [.d (.int .i64) none]⟩
noncomputable def tbl (k : Nat) : Tbl := [(56, laws_heldShop.spec k)]
theorem e (k : Nat) (o : Nat → St → Option (Int)) (a0_0 a0_1 : Int) (l0_2 : List (Int × Int × Int × Int × Int)) (a0_3 : Int) (a0_4 a0_5 : ByteArray) (a0_6 a1 : Int) : T.main tyt (tbl k) o (a0_0, a0_1, l0_2, a0_3, a0_4, a0_5, a0_6, a1) = m k a0_0 a0_1 l0_2 a0_3 a0_4 a0_5 a0_6 a1 := by kernel_rfl
theorem ok : T.ok = true := by kernel_rfl
theorem tblok (k : Nat) : TblOk Tryz.prog (tbl k) := TblOk.cons (laws_heldShop.sound k) (TblOk.nil _)
theorem sound (k : Nat) : Sound Tryz.prog 19 (spec k) := by
  have h := fn_ok (F := T) (tbl := tbl) mixed tyok Tryz.func19 (by kernel_rfl) (c0 := bodyOf Tryz.f19) rfl (conv_code _ _ _) rfl rfl ok k (fun j _ => tblok j)
  have e : spec k = ⟨T.ps, T.rs, T.ev tyt tbl k⟩ := congrArg (FnSpec.mk _ _) (funext fun x => ((e k (T.run tyt tbl k) x.1 x.2.1 x.2.2.1 x.2.2.2.1 x.2.2.2.2.1 x.2.2.2.2.2.1 x.2.2.2.2.2.2.1 x.2.2.2.2.2.2.2).trans (by rfl)).symm)
  rw [e]
  exact h
end laws_heldConsole

namespace laws_FnExactExecuteCommand
/-! ### laws_FnExactExecuteCommand: function 4 -/
def m (k : Nat) (a0_0 a0_1 : Int) (l0_2 : List (Int × Int × Int × Int × Int)) (a0_3 : Int) (a0_4 a0_5 : ByteArray) (a0_6 : Int) (a1 : ByteArray) : Option (Bool) := (if 1048576 < (a1.size : Int) then (some true) else ((laws_szConsole.f k a0_0 a0_1 l0_2 a0_3 a0_4 a0_5 a0_6 1048576).bind fun r1 => (if r1 < 0 then (some true) else ((laws_toConsole.f k a0_0 a0_1 l0_2 a0_3 a0_4 a0_5 a0_6).bind fun r2 => ((spec_ExecuteCommand.f k r2.1 r2.2.1 r2.2.2.1 r2.2.2.2.1 r2.2.2.2.2.1 r2.2.2.2.2.2.1 r2.2.2.2.2.2.2 a1).bind fun r3 => ((laws_toConsole.f k a0_0 a0_1 l0_2 a0_3 a0_4 a0_5 a0_6).bind fun r4 => ((impl_ExecuteCommand.f k r4.1 r4.2.1 r4.2.2.1 r4.2.2.2.1 r4.2.2.2.2.1 r4.2.2.2.2.2.1 r4.2.2.2.2.2.2 a1).bind fun r5 => ((laws_eqConsole.f k r5.1 r5.2.1 r5.2.2.1 r5.2.2.2.1 r5.2.2.2.2.1 r5.2.2.2.2.2.1 r5.2.2.2.2.2.2.1 r3.1 r3.2.1 r3.2.2.1 r3.2.2.2.1 r3.2.2.2.2.1 r3.2.2.2.2.2.1 r3.2.2.2.2.2.2.1).bind fun r6 => (cond (!r6) (some false) (if ¬ r5.2.2.2.2.2.2.2 = r3.2.2.2.2.2.2.2 then (some false) else ((laws_toConsole.f k a0_0 a0_1 l0_2 a0_3 a0_4 a0_5 a0_6).bind fun r7 => ((laws_eqConsole.f k r4.1 r4.2.1 r4.2.2.1 r4.2.2.2.1 r4.2.2.2.2.1 r4.2.2.2.2.2.1 r4.2.2.2.2.2.2 r7.1 r7.2.1 r7.2.2.1 r7.2.2.2.1 r7.2.2.2.2.1 r7.2.2.2.2.2.1 r7.2.2.2.2.2.2).bind fun r8 => (cond (!r8) (some false) ((laws_markConsole.f k r4.1 r4.2.1 r4.2.2.1 r4.2.2.2.1 r4.2.2.2.2.1 r4.2.2.2.2.2.1 r4.2.2.2.2.2.2 1).bind fun r9 => (if r9.1 < 0 then (some false) else ((laws_eqConsole.f k r5.1 r5.2.1 r5.2.2.1 r5.2.2.2.1 r5.2.2.2.2.1 r5.2.2.2.2.2.1 r5.2.2.2.2.2.2.1 r3.1 r3.2.1 r3.2.2.1 r3.2.2.2.1 r3.2.2.2.2.1 r3.2.2.2.2.2.1 r3.2.2.2.2.2.2.1).bind fun r10 => (cond (!r10) (some false) (if ¬ r5.2.2.2.2.2.2.2 = r3.2.2.2.2.2.2.2 then (some false) else ((laws_markConsole.f k r5.1 r5.2.1 r5.2.2.1 r5.2.2.2.1 r5.2.2.2.2.1 r5.2.2.2.2.2.1 r5.2.2.2.2.2.2.1 1).bind fun r11 => ((laws_heldConsole.f k r5.1 r5.2.1 r11.2 r5.2.2.2.1 r5.2.2.2.2.1 r5.2.2.2.2.2.1 r5.2.2.2.2.2.2.1 1).bind fun r12 => (if r12 < 0 then (some false) else (if ¬ r12 = r11.1 then (some false) else ((laws_toConsole.f k a0_0 a0_1 l0_2 a0_3 a0_4 a0_5 a0_6).bind fun r13 => ((impl_ExecuteCommand.f k r13.1 r13.2.1 r13.2.2.1 r13.2.2.2.1 r13.2.2.2.2.1 r13.2.2.2.2.2.1 r13.2.2.2.2.2.2 a1).bind fun r14 => ((laws_eqConsole.f k r14.1 r14.2.1 r14.2.2.1 r14.2.2.2.1 r14.2.2.2.2.1 r14.2.2.2.2.2.1 r14.2.2.2.2.2.2.1 r3.1 r3.2.1 r3.2.2.1 r3.2.2.2.1 r3.2.2.2.2.1 r3.2.2.2.2.2.1 r3.2.2.2.2.2.2.1).bind fun r15 => (cond (!r15) (some false) (if ¬ r14.2.2.2.2.2.2.2 = r3.2.2.2.2.2.2.2 then (some false) else ((laws_heldConsole.f k r5.1 r5.2.1 r11.2 r5.2.2.2.1 r5.2.2.2.2.1 r5.2.2.2.2.2.1 r5.2.2.2.2.2.2.1 1).bind fun r16 => (if r16 < 0 then (some false) else (if ¬ r16 = r11.1 then (some false) else (some true)))))))))))))))))))))))))))))))
def f (k : Nat) (a0_0 a0_1 : Int) (l0_2 : List (Int × Int × Int × Int × Int)) (a0_3 : Int) (a0_4 a0_5 : ByteArray) (a0_6 : Int) (a1 : ByteArray) : Option (Bool) := m k a0_0 a0_1 l0_2 a0_3 a0_4 a0_5 a0_6 a1
noncomputable def spec (k : Nat) : FnSpec := ⟨[.ag [.d (.int .i64) none, .d (.int .i64) none, .d (.sl (.pair (.int .i64) (.pair (.int .i64) (.pair (.int .i64) (.pair (.int .i64) (.int .i64)))))) none, .d (.int .i64) none, .d .str none, .d .str none, .d (.int .i64) none], .d .str none], [.d .bool none], fun x => f k x.1 x.2.1 x.2.2.1 x.2.2.2.1 x.2.2.2.2.1 x.2.2.2.2.2.1 x.2.2.2.2.2.2.1 x.2.2.2.2.2.2.2⟩
noncomputable def T : FnText := ⟨(conv [] (bodyOf Tryz.f4) 0).1, Tryz.f4.results.toList, 104, [], [.ag [.d (.int .i64) none, .d (.int .i64) none, .d (.sl (.pair (.int .i64) (.pair (.int .i64) (.pair (.int .i64) (.pair (.int .i64) (.int .i64)))))) none, .d (.int .i64) none, .d .str none, .d .str none, .d (.int .i64) none], .d .str none], [.d .bool none]⟩
noncomputable def tbl (k : Nat) : Tbl := [(13, laws_szConsole.spec k), (15, laws_toConsole.spec k), (14, spec_ExecuteCommand.spec k), (16, impl_ExecuteCommand.spec k), (17, laws_eqConsole.spec k), (18, laws_markConsole.spec k), (19, laws_heldConsole.spec k)]
theorem e (k : Nat) (o : Nat → St → Option (Bool)) (a0_0 a0_1 : Int) (l0_2 : List (Int × Int × Int × Int × Int)) (a0_3 : Int) (a0_4 a0_5 : ByteArray) (a0_6 : Int) (a1 : ByteArray) : T.main tyt (tbl k) o (a0_0, a0_1, l0_2, a0_3, a0_4, a0_5, a0_6, a1) = m k a0_0 a0_1 l0_2 a0_3 a0_4 a0_5 a0_6 a1 := by kernel_rfl
theorem ok : T.ok = true := by kernel_rfl
theorem tblok (k : Nat) : TblOk Tryz.prog (tbl k) := TblOk.cons (laws_szConsole.sound k) (TblOk.cons (laws_toConsole.sound k) (TblOk.cons (spec_ExecuteCommand.sound k) (TblOk.cons (impl_ExecuteCommand.sound k) (TblOk.cons (laws_eqConsole.sound k) (TblOk.cons (laws_markConsole.sound k) (TblOk.cons (laws_heldConsole.sound k) (TblOk.nil _)))))))
theorem sound (k : Nat) : Sound Tryz.prog 4 (spec k) := by
  have h := fn_ok (F := T) (tbl := tbl) mixed tyok Tryz.func4 (by kernel_rfl) (c0 := bodyOf Tryz.f4) rfl (conv_code _ _ _) rfl rfl ok k (fun j _ => tblok j)
  have e : spec k = ⟨T.ps, T.rs, T.ev tyt tbl k⟩ := congrArg (FnSpec.mk _ _) (funext fun x => ((e k (T.run tyt tbl k) x.1 x.2.1 x.2.2.1 x.2.2.2.1 x.2.2.2.2.1 x.2.2.2.2.2.1 x.2.2.2.2.2.2.1 x.2.2.2.2.2.2.2).trans (by rfl)).symm)
  rw [e]
  exact h
end laws_FnExactExecuteCommand


/-- The pure statement. -/
def Pure : Prop := ∀ (a0_0 : Int) (a0_1 : Int) (l0_2 : List (Int × Int × Int × Int × Int)) (a0_3 : Int) (a0_4 : ByteArray) (a0_5 : ByteArray) (a0_6 : Int) (a1 : ByteArray), ((Lit.int .i64 a0_0).wf = true) → ((Lit.int .i64 a0_1).wf = true) → (l0_2.length * 40 ≤ 140737488351232) → (∀ y0 ∈ l0_2, ((Lit.int .i64 y0.1).wf = true) ∧ ((Lit.int .i64 y0.2.1).wf = true) ∧ ((Lit.int .i64 y0.2.2.1).wf = true) ∧ ((Lit.int .i64 y0.2.2.2.1).wf = true) ∧ (Lit.int .i64 y0.2.2.2.2).wf = true) → ((Lit.int .i64 a0_3).wf = true) → (a0_4.size ≤ 140737488351232) → (a0_5.size ≤ 140737488351232) → ((Lit.int .i64 a0_6).wf = true) → (a1.size ≤ 140737488351232) → ∃ k, laws_FnExactExecuteCommand.f k a0_0 a0_1 l0_2 a0_3 a0_4 a0_5 a0_6 a1 = some true
end Go.Proofs.YtiacidpjplmgaaaGreatDoor.DFnExactExecuteCommand
