/- Words of this session's own: stepOf by a walk. -/
import Derived.Test.YtiacidpjplmgaaaGreatDoorHa
import Derived.WideMake
import Derived.MapKept
set_option linter.unusedVariables false
set_option linter.unusedSimpArgs false
namespace Go.Proofs.YtiacidpjplmgaaaGreatDoorD
open Go.RowKit Go.Lib
theorem push_set (h : Array Obj) (a b : Obj) : (h.push a).setIfInBounds h.size b = h.push b := by
  apply Array.ext
  · simp
  · intro i h1 h2
    simp only [Array.size_setIfInBounds, Array.size_push] at h1
    by_cases e : i = h.size
    · subst e; simp
    · rw [Array.getElem_setIfInBounds_ne (by simpa using h1) (fun q => e q.symm), Array.getElem_push_lt (by omega), Array.getElem_push_lt (by omega)]
theorem insert_at {P : Program} {t kt et : TypeId} (hm : P.underlying t = some (.map kt et)) (hk : P.underlying kt = some .string) (w : World) (es : Array MapEntry) (clock : Nat) (s : ByteArray) (val : Value) (hf : Instr.findNow .string (.string s) es.toList 0 = some none) :
    (Instr.mapUpdate t (.map (some w.heap.size)) (.string s) val).run P (w.alloc (.map es clock)) = .ok () (w.alloc (.map (es.push { key := .string s, val := val, born := clock }) (clock + 1))) := by
  have hb : (w.alloc (.map es clock)).heap[w.heap.size]? = some (.map es clock) := by
    show (w.heap.push _)[w.heap.size]? = _
    simp
  have hc : (Instr.checkKey false 10000 kt (.string s)).run P (w.alloc (.map es clock)) = .ok () (w.alloc (.map es clock)) := MapKept.run_checkKey (k := .string s) hk (by simp [MapKept.IsKey]) false 9999
  simp [Instr.mapUpdate, run_underlying hm, MapKept.run_getObj_map hb, hc, MapKept.run_findKey hk hf, MapKept.run_setObj_map _ hb, Result.andThen]
  show ({ w with heap := (w.heap.push _).setIfInBounds w.heap.size _ } : World) = { w with heap := w.heap.push _ }
  rw [push_set]
theorem lookup_hit {P : Program} {t kt et : TypeId} (hm : P.underlying t = some (.map kt et)) (hk : P.underlying kt = some .string) (w : World) (r : Nat) (es : Array MapEntry) (clock i : Nat) (s : ByteArray) (val : Value) (hb : w.heap[r]? = some (.map es clock)) (hf : Instr.findNow .string (.string s) es.toList 0 = some (some (i, val))) :
    (Instr.lookup t (.map (some r)) (.string s) true).run P w = .ok (.tuple #[val, .bool true]) w := by
  have hc : (Instr.checkKey es.isEmpty 10000 kt (.string s)).run P w = .ok () w := MapKept.run_checkKey (k := .string s) hk (by simp [MapKept.IsKey]) _ 9999
  simp [Instr.lookup, run_underlying hm, MapKept.run_getObj_map hb, hc, MapKept.run_findKey hk hf, Result.andThen]
theorem lookup_miss {P : Program} {t kt et : TypeId} (hm : P.underlying t = some (.map kt et)) (hk : P.underlying kt = some .string) (w : World) (r : Nat) (es : Array MapEntry) (clock : Nat) (s : ByteArray) (z : Value) (hb : w.heap[r]? = some (.map es clock)) (hf : Instr.findNow .string (.string s) es.toList 0 = some none) (hz : (zeroValue et).run P w = .ok z w) :
    (Instr.lookup t (.map (some r)) (.string s) true).run P w = .ok (.tuple #[z, .bool false]) w := by
  have hc : (Instr.checkKey es.isEmpty 10000 kt (.string s)).run P w = .ok () w := MapKept.run_checkKey (k := .string s) hk (by simp [MapKept.IsKey]) _ 9999
  simp [Instr.lookup, run_underlying hm, MapKept.run_getObj_map hb, hc, MapKept.run_findKey hk hf, hz, Result.andThen]
def bx3 (k c v : Int) : Value := .agg #[.int .i64 k, .int .i64 c, .int .i64 v]
def ent (s : ByteArray) (k c v : Int) (j : Nat) : MapEntry := { key := .string s, val := .agg #[.int .i64 k, .int .i64 c, .int .i64 v], born := j }
def es7 : Array MapEntry := #[ent ⟨#[119, 97, 105, 116]⟩ 1 0 1 0, ent ⟨#[111, 114, 100, 101, 114]⟩ 2 0 1 1, ent ⟨#[119, 97, 114, 112]⟩ 3 1 1 2, ent ⟨#[119, 101, 97, 118, 101]⟩ 4 1 1 3, ent ⟨#[116, 97, 107, 101]⟩ 5 1 0 4, ent ⟨#[119, 97, 115, 104]⟩ 6 1 0 5, ent ⟨#[115, 101, 108, 108]⟩ 7 1 1 6]
theorem zero135 (w : World) : (zeroValue 135).run Tryz.prog w = .ok (.agg #[.int .i64 0, .int .i64 0, .int .i64 0]) w := by kernel_rfl
def mp (j : Nat) : Obj := .map (es7.extract 0 j) j
theorem mp_step (w : World) (r : Nat) (hr : w.heap.size = r) (s : ByteArray) (k c v : Int) (j : Nat) (hj : es7[j]? = some (ent s k c v j)) (hf : Instr.findNow .string (.string s) (es7.extract 0 j).toList 0 = some none) :
    (Instr.mapUpdate 170 (.map (some r)) (.string s) (.agg #[.int .i64 k, .int .i64 c, .int .i64 v])).run Tryz.prog (w.alloc (mp j)) = .ok () (w.alloc (mp (j + 1))) := by
  subst hr
  unfold mp
  rw [insert_at Tryz.underlying170 Tryz.underlying9 w _ j s _ hf]
  have : es7.extract 0 (j + 1) = (es7.extract 0 j).push (ent s k c v j) := by
    obtain ⟨h1, h2⟩ := Array.getElem?_eq_some_iff.1 hj
    rw [← h2]
    exact (Array.extract_succ_right (by omega) h1)
  rw [this]
  rfl
set_option maxRecDepth 100000 in
theorem stepOf_miss (s : ByteArray) (A : Option Addr) (n cap : Nat) (w : World) (hf : Instr.findNow .string (.string s) es7.toList 0 = some none) :
    Calls Tryz.prog 97 #[.string s, .slice A n cap] w fun e w' => e = .returned (.tuple #[.agg #[.int .i64 0, .int .i64 0, .int .i64 0], .bool false]) ∧ Below w.heap.size w w' := by
  have h0 : (Instr.mapUpdate 170 (.map (some (w.heap.size + 1))) (.string ⟨#[119, 97, 105, 116]⟩) (.agg #[.int .i64 1, .int .i64 0, .int .i64 1])).run Tryz.prog ((w.alloc (.cells #[.int .i64 0, .int .i64 0, .int .i64 0] 135)).alloc (.map #[] 0)) = .ok () ((w.alloc (.cells #[.int .i64 0, .int .i64 0, .int .i64 0] 135)).alloc (mp 1)) := mp_step (w.alloc (.cells #[.int .i64 0, .int .i64 0, .int .i64 0] 135)) (w.heap.size + 1) (Array.size_push ..) ⟨#[119, 97, 105, 116]⟩ 1 0 1 0 rfl rfl
  have h1 : (Instr.mapUpdate 170 (.map (some (w.heap.size + 1))) (.string ⟨#[111, 114, 100, 101, 114]⟩) (.agg #[.int .i64 2, .int .i64 0, .int .i64 1])).run Tryz.prog ((w.alloc (.cells #[.int .i64 0, .int .i64 0, .int .i64 0] 135)).alloc (mp 1)) = .ok () ((w.alloc (.cells #[.int .i64 0, .int .i64 0, .int .i64 0] 135)).alloc (mp 2)) := mp_step (w.alloc (.cells #[.int .i64 0, .int .i64 0, .int .i64 0] 135)) (w.heap.size + 1) (Array.size_push ..) ⟨#[111, 114, 100, 101, 114]⟩ 2 0 1 1 rfl rfl
  have h2 : (Instr.mapUpdate 170 (.map (some (w.heap.size + 1))) (.string ⟨#[119, 97, 114, 112]⟩) (.agg #[.int .i64 3, .int .i64 1, .int .i64 1])).run Tryz.prog ((w.alloc (.cells #[.int .i64 0, .int .i64 0, .int .i64 0] 135)).alloc (mp 2)) = .ok () ((w.alloc (.cells #[.int .i64 0, .int .i64 0, .int .i64 0] 135)).alloc (mp 3)) := mp_step (w.alloc (.cells #[.int .i64 0, .int .i64 0, .int .i64 0] 135)) (w.heap.size + 1) (Array.size_push ..) ⟨#[119, 97, 114, 112]⟩ 3 1 1 2 rfl rfl
  have h3 : (Instr.mapUpdate 170 (.map (some (w.heap.size + 1))) (.string ⟨#[119, 101, 97, 118, 101]⟩) (.agg #[.int .i64 4, .int .i64 1, .int .i64 1])).run Tryz.prog ((w.alloc (.cells #[.int .i64 0, .int .i64 0, .int .i64 0] 135)).alloc (mp 3)) = .ok () ((w.alloc (.cells #[.int .i64 0, .int .i64 0, .int .i64 0] 135)).alloc (mp 4)) := mp_step (w.alloc (.cells #[.int .i64 0, .int .i64 0, .int .i64 0] 135)) (w.heap.size + 1) (Array.size_push ..) ⟨#[119, 101, 97, 118, 101]⟩ 4 1 1 3 rfl rfl
  have h4 : (Instr.mapUpdate 170 (.map (some (w.heap.size + 1))) (.string ⟨#[116, 97, 107, 101]⟩) (.agg #[.int .i64 5, .int .i64 1, .int .i64 0])).run Tryz.prog ((w.alloc (.cells #[.int .i64 0, .int .i64 0, .int .i64 0] 135)).alloc (mp 4)) = .ok () ((w.alloc (.cells #[.int .i64 0, .int .i64 0, .int .i64 0] 135)).alloc (mp 5)) := mp_step (w.alloc (.cells #[.int .i64 0, .int .i64 0, .int .i64 0] 135)) (w.heap.size + 1) (Array.size_push ..) ⟨#[116, 97, 107, 101]⟩ 5 1 0 4 rfl rfl
  have h5 : (Instr.mapUpdate 170 (.map (some (w.heap.size + 1))) (.string ⟨#[119, 97, 115, 104]⟩) (.agg #[.int .i64 6, .int .i64 1, .int .i64 0])).run Tryz.prog ((w.alloc (.cells #[.int .i64 0, .int .i64 0, .int .i64 0] 135)).alloc (mp 5)) = .ok () ((w.alloc (.cells #[.int .i64 0, .int .i64 0, .int .i64 0] 135)).alloc (mp 6)) := mp_step (w.alloc (.cells #[.int .i64 0, .int .i64 0, .int .i64 0] 135)) (w.heap.size + 1) (Array.size_push ..) ⟨#[119, 97, 115, 104]⟩ 6 1 0 5 rfl rfl
  have h6 : (Instr.mapUpdate 170 (.map (some (w.heap.size + 1))) (.string ⟨#[115, 101, 108, 108]⟩) (.agg #[.int .i64 7, .int .i64 1, .int .i64 1])).run Tryz.prog ((w.alloc (.cells #[.int .i64 0, .int .i64 0, .int .i64 0] 135)).alloc (mp 6)) = .ok () ((w.alloc (.cells #[.int .i64 0, .int .i64 0, .int .i64 0] 135)).alloc (mp 7)) := mp_step (w.alloc (.cells #[.int .i64 0, .int .i64 0, .int .i64 0] 135)) (w.heap.size + 1) (Array.size_push ..) ⟨#[115, 101, 108, 108]⟩ 7 1 1 6 rfl rfl
  have hl : (Instr.lookup 170 (.map (some (w.heap.size + 1))) (.string s) true).run Tryz.prog ((w.alloc (.cells #[.int .i64 0, .int .i64 0, .int .i64 0] 135)).alloc (mp 7)) = .ok (.tuple #[.agg #[.int .i64 0, .int .i64 0, .int .i64 0], .bool false]) ((w.alloc (.cells #[.int .i64 0, .int .i64 0, .int .i64 0] 135)).alloc (mp 7)) :=
    lookup_miss Tryz.underlying170 Tryz.underlying9 _ _ es7 7 s _ (by
      have e : ((w.heap.push (.cells #[.int .i64 0, .int .i64 0, .int .i64 0] 135)).push (mp 7))[(w.heap.push (.cells #[.int .i64 0, .int .i64 0, .int .i64 0] 135)).size]? = some (mp 7) := Array.getElem?_push_size
      rw [Array.size_push] at e
      exact e) hf (zero135 _)
  have hmm := @run_makeMap Tryz.prog
  go_enter Tryz.func97, Tryz.ntmps97
  go_wp2
  go_returns
  refine ⟨rfl, ?_⟩
  go_grown
theorem len_two {xs : List Int} (h : xs.length = 2) : ∃ x y, xs = [x, y] := by
  match xs, h with
  | [x, y], _ => exact ⟨x, y, rfl⟩
theorem cell4 {w : World} {a : Addr} {v : Value} (hb : a.block < w.heap.size) (hc : w.cell? a = some v) (p q r t : Obj) : ((((w.alloc p).alloc q).alloc r).alloc t).cell? a = some v := by
  have s1 : (w.alloc p).heap.size = w.heap.size + 1 := Array.size_push ..
  have s2 : ((w.alloc p).alloc q).heap.size = w.heap.size + 1 + 1 := by rw [← s1]; exact Array.size_push ..
  have s3 : (((w.alloc p).alloc q).alloc r).heap.size = w.heap.size + 1 + 1 + 1 := by rw [← s2]; exact Array.size_push ..
  have b1 := (Below.refl w.heap.size w).alloc (Nat.le_refl _) p
  have b2 := b1.alloc (by omega) q
  have b3 := b2.alloc (by omega) r
  have b4 := b3.alloc (by omega) t
  exact (b4.cell hb).trans hc
set_option maxHeartbeats 4000000 in
set_option maxRecDepth 100000 in
theorem stepOf_hit (s : ByteArray) (A : Option Addr) (n cap : Nat) (xs : List Int) (w : World) (i : Nat) (k c v : Int) (hf : Instr.findNow .string (.string s) es7.toList 0 = some (some (i, .agg #[.int .i64 k, .int .i64 c, .int .i64 v]))) (hcv : c = 0 ∧ v = 1 ∨ c = 1 ∧ v = 1 ∨ c = 1 ∧ v = 0) (hn : n = xs.length) (hn2 : n ≤ 1000000)
    (hX : n ≠ 0 → ∀ a, A = some a → a.block < w.heap.size ∧ a.spot = none ∧ ∀ j x, xs[j]? = some x → w.cell? ⟨a.block, a.off + j, none⟩ = some (.int .i64 x)) (hA : n ≠ 0 → A ≠ none) :
    Calls Tryz.prog 97 #[.string s, .slice A n cap] w fun e w' => e = .returned (if (n : Int) = c + v then .tuple #[.agg #[.int .i64 k, .int .i64 (if c = 1 then xs.getD 0 0 else 0), .int .i64 (if v = 1 then xs.getD (n - 1) 0 else 0)], .bool true] else .tuple #[.agg #[.int .i64 0, .int .i64 0, .int .i64 0], .bool false]) ∧ Below w.heap.size w w' := by
  have h0 : (Instr.mapUpdate 170 (.map (some (w.heap.size + 1))) (.string ⟨#[119, 97, 105, 116]⟩) (.agg #[.int .i64 1, .int .i64 0, .int .i64 1])).run Tryz.prog ((w.alloc (.cells #[.int .i64 0, .int .i64 0, .int .i64 0] 135)).alloc (.map #[] 0)) = .ok () ((w.alloc (.cells #[.int .i64 0, .int .i64 0, .int .i64 0] 135)).alloc (mp 1)) := mp_step (w.alloc (.cells #[.int .i64 0, .int .i64 0, .int .i64 0] 135)) (w.heap.size + 1) (Array.size_push ..) ⟨#[119, 97, 105, 116]⟩ 1 0 1 0 rfl rfl
  have h1 : (Instr.mapUpdate 170 (.map (some (w.heap.size + 1))) (.string ⟨#[111, 114, 100, 101, 114]⟩) (.agg #[.int .i64 2, .int .i64 0, .int .i64 1])).run Tryz.prog ((w.alloc (.cells #[.int .i64 0, .int .i64 0, .int .i64 0] 135)).alloc (mp 1)) = .ok () ((w.alloc (.cells #[.int .i64 0, .int .i64 0, .int .i64 0] 135)).alloc (mp 2)) := mp_step (w.alloc (.cells #[.int .i64 0, .int .i64 0, .int .i64 0] 135)) (w.heap.size + 1) (Array.size_push ..) ⟨#[111, 114, 100, 101, 114]⟩ 2 0 1 1 rfl rfl
  have h2 : (Instr.mapUpdate 170 (.map (some (w.heap.size + 1))) (.string ⟨#[119, 97, 114, 112]⟩) (.agg #[.int .i64 3, .int .i64 1, .int .i64 1])).run Tryz.prog ((w.alloc (.cells #[.int .i64 0, .int .i64 0, .int .i64 0] 135)).alloc (mp 2)) = .ok () ((w.alloc (.cells #[.int .i64 0, .int .i64 0, .int .i64 0] 135)).alloc (mp 3)) := mp_step (w.alloc (.cells #[.int .i64 0, .int .i64 0, .int .i64 0] 135)) (w.heap.size + 1) (Array.size_push ..) ⟨#[119, 97, 114, 112]⟩ 3 1 1 2 rfl rfl
  have h3 : (Instr.mapUpdate 170 (.map (some (w.heap.size + 1))) (.string ⟨#[119, 101, 97, 118, 101]⟩) (.agg #[.int .i64 4, .int .i64 1, .int .i64 1])).run Tryz.prog ((w.alloc (.cells #[.int .i64 0, .int .i64 0, .int .i64 0] 135)).alloc (mp 3)) = .ok () ((w.alloc (.cells #[.int .i64 0, .int .i64 0, .int .i64 0] 135)).alloc (mp 4)) := mp_step (w.alloc (.cells #[.int .i64 0, .int .i64 0, .int .i64 0] 135)) (w.heap.size + 1) (Array.size_push ..) ⟨#[119, 101, 97, 118, 101]⟩ 4 1 1 3 rfl rfl
  have h4 : (Instr.mapUpdate 170 (.map (some (w.heap.size + 1))) (.string ⟨#[116, 97, 107, 101]⟩) (.agg #[.int .i64 5, .int .i64 1, .int .i64 0])).run Tryz.prog ((w.alloc (.cells #[.int .i64 0, .int .i64 0, .int .i64 0] 135)).alloc (mp 4)) = .ok () ((w.alloc (.cells #[.int .i64 0, .int .i64 0, .int .i64 0] 135)).alloc (mp 5)) := mp_step (w.alloc (.cells #[.int .i64 0, .int .i64 0, .int .i64 0] 135)) (w.heap.size + 1) (Array.size_push ..) ⟨#[116, 97, 107, 101]⟩ 5 1 0 4 rfl rfl
  have h5 : (Instr.mapUpdate 170 (.map (some (w.heap.size + 1))) (.string ⟨#[119, 97, 115, 104]⟩) (.agg #[.int .i64 6, .int .i64 1, .int .i64 0])).run Tryz.prog ((w.alloc (.cells #[.int .i64 0, .int .i64 0, .int .i64 0] 135)).alloc (mp 5)) = .ok () ((w.alloc (.cells #[.int .i64 0, .int .i64 0, .int .i64 0] 135)).alloc (mp 6)) := mp_step (w.alloc (.cells #[.int .i64 0, .int .i64 0, .int .i64 0] 135)) (w.heap.size + 1) (Array.size_push ..) ⟨#[119, 97, 115, 104]⟩ 6 1 0 5 rfl rfl
  have h6 : (Instr.mapUpdate 170 (.map (some (w.heap.size + 1))) (.string ⟨#[115, 101, 108, 108]⟩) (.agg #[.int .i64 7, .int .i64 1, .int .i64 1])).run Tryz.prog ((w.alloc (.cells #[.int .i64 0, .int .i64 0, .int .i64 0] 135)).alloc (mp 6)) = .ok () ((w.alloc (.cells #[.int .i64 0, .int .i64 0, .int .i64 0] 135)).alloc (mp 7)) := mp_step (w.alloc (.cells #[.int .i64 0, .int .i64 0, .int .i64 0] 135)) (w.heap.size + 1) (Array.size_push ..) ⟨#[115, 101, 108, 108]⟩ 7 1 1 6 rfl rfl
  have hl : (Instr.lookup 170 (.map (some (w.heap.size + 1))) (.string s) true).run Tryz.prog ((w.alloc (.cells #[.int .i64 0, .int .i64 0, .int .i64 0] 135)).alloc (mp 7)) = .ok (.tuple #[.agg #[.int .i64 k, .int .i64 c, .int .i64 v], .bool true]) ((w.alloc (.cells #[.int .i64 0, .int .i64 0, .int .i64 0] 135)).alloc (mp 7)) :=
    lookup_hit Tryz.underlying170 Tryz.underlying9 _ _ es7 7 i s _ (by
      have e : ((w.heap.push (.cells #[.int .i64 0, .int .i64 0, .int .i64 0] 135)).push (mp 7))[(w.heap.push (.cells #[.int .i64 0, .int .i64 0, .int .i64 0] 135)).size]? = some (mp 7) := Array.getElem?_push_size
      rw [Array.size_push] at e
      exact e) hf
  have hmm := @run_makeMap Tryz.prog
  by_cases hq : (n : Int) = c + v
  · rw [if_pos hq]
    obtain ⟨a, rfl⟩ : ∃ a, A = some a := by
      cases A with
      | none => exact absurd rfl (hA (by rcases hcv with ⟨rfl, rfl⟩ | ⟨rfl, rfl⟩ | ⟨rfl, rfl⟩ <;> omega))
      | some a => exact ⟨a, rfl⟩
    obtain ⟨hb, hs, hx⟩ := hX (by rcases hcv with ⟨rfl, rfl⟩ | ⟨rfl, rfl⟩ | ⟨rfl, rfl⟩ <;> omega) a rfl
    obtain ⟨b, o, sp⟩ := a
    have hs : sp = none := hs
    subst hs
    clear hA hf hX
    dsimp only at hb hx
    rcases hcv with ⟨rfl, rfl⟩ | ⟨rfl, rfl⟩ | ⟨rfl, rfl⟩
    · obtain ⟨x, rfl⟩ : ∃ x, xs = [x] := List.length_eq_one_iff.1 (by omega)
      have n1 : n = 1 := hn
      subst n1
      have c0 := hx 0 x rfl
      rw [Nat.add_zero] at c0
      have c0' := cell4 (a := ⟨b, o, none⟩) hb c0
      clear hx hn hq
      go_enter Tryz.func97, Tryz.ntmps97
      go_wp2
      all_goals first
        | (go_returns; refine ⟨rfl, ?_⟩; go_grown)
        | go_show
    · obtain ⟨x, y, rfl⟩ : ∃ x y, xs = [x, y] := len_two (by omega)
      have n1 : n = 2 := hn
      subst n1
      have c0 := hx 0 x rfl
      have c1 := hx 1 y rfl
      have c1' := cell4 (a := ⟨b, o + 1, none⟩) hb c1
      rw [Nat.add_zero] at c0
      have c0' := cell4 (a := ⟨b, o, none⟩) hb c0
      clear hx hn hq
      go_enter Tryz.func97, Tryz.ntmps97
      go_wp2
      all_goals first
        | (go_returns; refine ⟨rfl, ?_⟩; go_grown)
        | go_show
    · obtain ⟨x, rfl⟩ : ∃ x, xs = [x] := List.length_eq_one_iff.1 (by omega)
      have n1 : n = 1 := hn
      subst n1
      have c0 := hx 0 x rfl
      rw [Nat.add_zero] at c0
      have c0' := cell4 (a := ⟨b, o, none⟩) hb c0
      clear hx hn hq
      go_enter Tryz.func97, Tryz.ntmps97
      go_wp2
      all_goals first
        | (go_returns; refine ⟨rfl, ?_⟩; go_grown)
        | go_show
  · rw [if_neg hq]
    clear hX hA
    rcases hcv with ⟨rfl, rfl⟩ | ⟨rfl, rfl⟩ | ⟨rfl, rfl⟩
    all_goals
      go_enter Tryz.func97, Tryz.ntmps97
      go_wp2
      all_goals first
        | (go_returns; refine ⟨rfl, ?_⟩; go_grown)
        | go_show
end Go.Proofs.YtiacidpjplmgaaaGreatDoorD
