/- Words of this session's own: slice literals, make, append. -/
import Derived.Test.YtiacidpjplmgaaaDoorDn7
import Derived.Laws.MakeOwn
set_option linter.unusedVariables false
set_option linter.unusedSimpArgs false
namespace Go.Proofs.YtiacidpjplmgaaaDoorD
section
variable {P : Program} {τ : TT} {F : Fr} {c : Ctx} {w w' : World} {hp : Hp} {α : Type}
theorem buildRow_ok {h : Nat → Option Blk} {t : Ty} {g : Operand → V} : ∀ {ps : List (Nat × Operand)} {i : Nat} {α : Type} {K : List t.D → List Nat → Option α} {r : α}, buildRow h t (ps.map fun p => (p.1, g p.2)) i K = some r →
    ∃ xs f, K xs f = some r ∧ (∀ {β : Type} (K' : List t.D → List Nat → Option β), buildRow h t (ps.map fun p => (p.1, g p.2)) i K' = K' xs f) ∧ Rows h f ∧ xs.length = ps.length ∧
      ∀ {c : Ctx} {w : World} {ev : Operand → Value} {S' : Nat → Prop}, (∀ b x, h b = some x → BR c w b x) → (∀ x, VR c w (g x) (ev x)) → Held c S' f →
        ∃ inner, Flat (Rd S' w t) xs inner ∧ ∀ cells : Array Value, cells.size = (i + ps.length) * t.cells →
          ∃ cells' : Array Value, Instr.fill (fun i => some (i * t.cells, t.cells)) cells (ps.map fun p => (p.1, ev p.2)) = some cells' ∧ cells'.toList = cells.toList.take (i * t.cells) ++ inner
  | [], i, _, K, r, he => ⟨[], [], he, fun _ => rfl, (by intro b hb; cases hb), rfl, fun hH hv hS => ⟨[], rfl, fun cells hc => ⟨cells, rfl, by
      rw [List.append_nil, List.take_of_length_le (by rw [Array.length_toList, hc]; simp)]⟩⟩⟩
  | (j, x) :: q, i, _, K, r, he => by
    simp only [List.map_cons] at he
    unfold buildRow at he
    split at he
    case h_2 => cases he
    rename_i h1 h2
    have h1' := Nat.eq_of_beq_eq_true h1
    subst h1'
    obtain ⟨y, l', f, k1, k2, k3, k4, k4', k5⟩ := ofLeaves_ok he
    split at k1
    case h_2 => cases k1
    obtain ⟨xs, f', m1, m2, m3, m4, m5⟩ := buildRow_ok k1
    refine ⟨y :: xs, f ++ f', m1, fun K' => ?_, k3.append m3, by rw [List.length_cons, List.length_cons, m4], fun {c w ev S'} hH hv hS => ?_⟩
    · simp only [List.map_cons]; unfold buildRow; simp only [h1, h2, k2]; exact m2 _
    · obtain ⟨q1, q2⟩ := parts_ok h2 (hv x)
      obtain ⟨cs, rest, e, hr, hrest⟩ := k5 hH q1 hS.left
      simp only [VRs] at hrest
      subst hrest
      rw [List.append_nil] at e
      obtain ⟨inner, n1, n2⟩ := m5 hH hv hS.right
      refine ⟨cs ++ inner, ⟨cs, inner, rfl, hr, n1⟩, fun cells hc => ?_⟩
      have hl := hr.len
      have hvl : (ev x).cells.size = t.cells := by rw [← Array.length_toList, e, hl]
      have hsz : (j + (q.length + 1)) * t.cells = j * t.cells + t.cells + q.length * t.cells := by rw [Nat.add_mul, Nat.succ_mul]; omega
      simp only [List.length_cons] at hc
      obtain ⟨c1, a1, a2⟩ := fill_cons (place := fun i => some (i * t.cells, t.cells)) (i := j) (rest := q.map fun p => (p.1, ev p.2)) (v := ev x) (cells := cells) rfl hvl (by omega)
      have hc1 : c1.size = (j + 1 + q.length) * t.cells := by
        rw [← Array.length_toList, a1, setMany_len, Array.length_toList, hc]; congr 1; omega
      obtain ⟨c2, b1, b2⟩ := n2 c1 hc1
      refine ⟨c2, by rw [List.map_cons, a2]; exact b1, ?_⟩
      rw [b2, a1, setMany_eq _ _ _ (by rw [Array.length_toList, Array.length_toList]; omega), e, Nat.succ_mul, List.take_append, List.length_take, Array.length_toList, Nat.min_eq_left (by omega), List.take_of_length_le (by rw [List.length_take, Array.length_toList]; omega), List.append_assoc]
      congr 1
      rw [show j * t.cells + t.cells - j * t.cells = t.cells by omega, List.take_append, hl, Nat.sub_self, List.take_zero, List.append_nil, List.take_of_length_le (by omega)]
theorem madeCells_take (z : Array Value) (sz : Nat) (hz : z.size = sz) (h0 : 0 < sz) (l m : Nat) (hl : l ≤ m) : (madeCells z (m * sz)).toList.take (l * sz) = (List.replicate l z.toList).flatten := by
  have hlm : l * sz ≤ m * sz := Nat.mul_le_mul_right _ hl
  have key : ∀ l i, i < l * sz → (List.replicate l z.toList).flatten[i]? = z[i % sz]? := by
    intro l
    induction l with
    | zero => intro i hi; omega
    | succ l ih =>
      intro i hi
      rw [List.replicate_succ, List.flatten_cons]
      by_cases h : i < sz
      · rw [List.getElem?_append_left (by rw [Array.length_toList]; omega), Array.getElem?_toList, Nat.mod_eq_of_lt h]
      · rw [List.getElem?_append_right (by rw [Array.length_toList]; omega), Array.length_toList, hz, ih _ (by rw [Nat.succ_mul] at hi; omega)]
        congr 1
        rw [Nat.mod_eq_sub_mod (a := i) (by omega)]
  have hlen : (List.replicate l z.toList).flatten.length = l * sz := by rw [List.length_flatten]; simp [hz]
  apply List.ext_getElem?
  intro i
  rw [List.getElem?_take]
  by_cases hi : i < l * sz
  · rw [if_pos hi, key l i hi]
    have hm : i % sz < z.size := by rw [hz]; exact Nat.mod_lt _ h0
    unfold madeCells
    rw [Array.getElem?_toList, Array.getElem?_map, Array.getElem?_range, if_pos (by omega)]
    simp [hz, Array.getElem?_eq_getElem hm, getElem!_pos z (i % sz) hm]
  · rw [if_neg hi, List.getElem?_eq_none (by omega)]
/-- A row that is handed over: what it owns, and that nobody else does. -/
theorem ownAs_ok {h : Nat → Option Blk} {e : Nat} {t : Ty} {v : V} {K : List t.D → List Nat → Option α} {r : α} (he : ownAs h e (.sl t) v K = some r) :
    ∃ xs k, K xs k = some r ∧ (∀ {β : Type} (K' : List t.D → List Nat → Option β), ownAs h e (.sl t) v K' = K' xs k) ∧ Rows h k ∧ (∀ b ∈ k, b ∈ idsV v) ∧ k.length ≤ 1 ∧
      ∀ {F : Fr} {c : Ctx} {w : World} {hp : Hp} {val : Value}, HR F c w hp → (∀ b x, h b = some x → hget hp b = some x) → VR c w v val →
        ∃ inner, Flat (Rd c.S w t) xs inner ∧ w.ownsRow 0 e t.cells val xs.length inner ∧ (∀ g, vblk val = some g → ∃ b ∈ k, vblk (c.ρ b) = some g) ∧ ∀ b ∈ k, vblk (c.ρ b) = vblk val := by
  unfold ownAs at he
  cases v with
  | nil =>
    refine ⟨[], [], he, fun K' => rfl, (by intro b hb; cases hb), (by intro b hb; cases hb), by simp, fun H hh hv => ?_⟩
    simp only [VR] at hv
    subst hv
    exact ⟨[], rfl, World.ownsRow_nil _ _ _ _, (by intro g hg; cases hg), (by intro b hb; cases hb)⟩
  | ref b =>
    dsimp only at he
    split at he
    case h_2 => cases he
    rename_i e' t' xs hb
    split at he
    case h_2 => cases he
    rename_i hee
    have := Nat.eq_of_beq_eq_true hee
    subst this
    obtain ⟨e1, h1, h2⟩ := castK_pt he
    cases e1
    refine ⟨_, [b], h1, fun K' => by unfold ownAs; simp only [hb, hee]; exact h2 _, (by intro d hd; simp at hd; subst hd; exact ⟨_, _, _, hb⟩), (by intro d hd; simpa [idsV] using hd), by simp, fun {F c w hp val} H hh hv => ?_⟩
    simp only [VR] at hv
    obtain ⟨_, rfl, _⟩ := hv
    obtain ⟨_, inner, hf, ho⟩ := H.blk b _ (hh b _ hb)
    exact ⟨inner, hf, ho, fun g hg => ⟨b, by simp, hg⟩, fun d hd => by simp at hd; rw [hd]⟩
  | sub s b lo n =>
    dsimp only at he
    split at he
    case h_2 => cases he
    · rename_i hlo
      have := Nat.eq_of_beq_eq_true hlo
      subst this
      split at he
      case h_2 => cases he
      rename_i e' t' xs hb
      split at he
      case h_2 => cases he
      rename_i hee hts
      have := Nat.eq_of_beq_eq_true hee
      subst this
      have := beq_ty hts
      subst this
      obtain ⟨e1, h1, h2⟩ := castK_pt he
      cases e1
      refine ⟨_, [b], h1, fun K' => by unfold ownAs; simp only [hlo, hb, hee, hts]; exact h2 _, (by intro d hd; simp at hd; subst hd; exact ⟨_, _, _, hb⟩), (by intro d hd; simpa [idsV] using hd), by simp, fun {F c w hp val} H hh hv => ?_⟩
      simp only [VR] at hv
      obtain ⟨_, hv⟩ := hv
      obtain ⟨_, inner, hf, ho⟩ := H.blk b _ (hh b _ hb)
      have hn : ∀ x cc, Rd c.S w t x cc → cc.length = t.cells := fun _ _ h => h.len
      rcases hv with ⟨v1, _, v3, v4⟩ | ⟨g, m, cap, A, v1, v2, v3, v4, v5, v6⟩
      · subst v3; subst v4
        refine ⟨[], by simp [Flat], World.ownsRow_nil _ _ _ _, (by intro g hg; cases hg), fun d hd => ?_⟩
        simp at hd; rw [hd, v1]
      · have hA := v6 (by simp)
        rw [Nat.zero_mul] at hA
        subst hA
        rw [v1] at ho
        have hm : m = xs.length := by
          rcases ho.2 with ⟨h, _⟩ | ⟨g', cap', cur, h, _⟩
          · cases h
          · injection h
        subst hm; subst v4
        have hle : n ≤ xs.length := by omega
        have hlen : (xs.take n).length = n := by rw [List.length_take]; omega
        refine ⟨inner.take (n * t.cells), hf.take hn n, ?_, fun g' hg' => ⟨b, by simp, by rw [v1]; exact hg'⟩, fun d hd => by simp at hd; rw [hd, v1]; rfl⟩
        have hil := hf.len hn
        rw [hlen]
        refine ⟨by rw [List.length_take, hil, Nat.min_eq_left (Nat.mul_le_mul_right _ hle)], ?_⟩
        rcases ho.2 with ⟨h, _⟩ | ⟨g', cap', cur, h, o1, o2, o3, o4, o5, o6⟩
        · cases h
        · simp only [Value.slice.injEq, Option.some.injEq, Addr.mk.injEq, and_true] at h
          obtain ⟨rfl, _, rfl⟩ := h
          refine .inr ⟨g, cap, cur, by rw [Nat.sub_zero], o1, o2, by omega, o4, o5, ?_⟩
          rw [← o6, List.take_take, Nat.min_eq_left (Nat.mul_le_mul_right _ hle)]
  | _ => cases he
end
end Go.Proofs.YtiacidpjplmgaaaDoorD
