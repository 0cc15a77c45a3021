/- Words of this session's own: layers of writes; operands; what stands ahead. -/
import Derived.Test.YtiacidpjplmgaaaDoorDn18
set_option linter.unusedVariables false
set_option linter.unusedSimpArgs false
namespace Go.Proofs.YtiacidpjplmgaaaDoorD

/-! ### Layers of writes -/
section
variable {β : Type}
theorem get_append : ∀ (a b : List (Nat × β)) (k : Nat), get (a ++ b) k = match get a k with | some x => some x | none => get b k
  | [], b, k => rfl
  | (d, v) :: r, b, k => by
    rw [List.cons_append, get_cons, get_cons]
    by_cases h : d = k
    · rw [if_pos h, if_pos h]
    · rw [if_neg h, if_neg h]; exact get_append r b k
/-- The layers that l names, the later ones on top. -/
def comp (L : Nat → Bool) : Nat → List (List (Nat × β)) → List (Nat × β) → List (Nat × β)
  | _, [], e => e
  | i, w :: r, e => comp L (i + 1) r (match L i with | true => w ++ e | false => e)
theorem comp_congr {L L' : Nat → Bool} {k : Nat} : ∀ {ws : List (List (Nat × β))} {i : Nat} {e e' : List (Nat × β)}, (∀ m w, ws[m]? = some w → get w k ≠ none → L (i + m) = L' (i + m)) → get e k = get e' k → get (comp L i ws e) k = get (comp L' i ws e') k
  | [], _, _, _, _, h => h
  | w :: r, i, e, e', hw, h => by
    rw [comp, comp]
    refine comp_congr (i := i + 1) (ws := r) (fun m w' hm hn => ?_) ?_
    · have := hw (m + 1) w' hm hn
      rwa [show i + (m + 1) = i + 1 + m by omega] at this
    · by_cases hn : get w k = none
      · have : ∀ (b : Bool) (x : List (Nat × β)), get (match b with | true => w ++ x | false => x) k = get x k := fun b x => by
          cases b
          · rfl
          · simp only [get_append, hn]
        exact (this _ _).trans (h.trans (this _ _).symm)
      · have := hw 0 w rfl hn
        rw [Nat.add_zero] at this
        rw [this]
        cases L' i with
        | true => simp only [get_append, h]
        | false => exact h
theorem comp_none {L : Nat → Bool} {k : Nat} : ∀ {ws : List (List (Nat × β))} {i : Nat} {e : List (Nat × β)}, (∀ m w, ws[m]? = some w → L (i + m) = true → get w k = none) → get (comp L i ws e) k = get e k
  | [], _, _, _ => rfl
  | w :: r, i, e, hw => by
    rw [comp, comp_none (fun m w' hm hl => hw (m + 1) w' hm (by rwa [show i + (m + 1) = i + 1 + m by omega]))]
    cases hL : L i with
    | true => simp only [get_append, hw 0 w rfl hL]
    | false => rfl
theorem comp_top {L : Nat → Bool} {k : Nat} {x : β} {w : List (Nat × β)} : ∀ {ws : List (List (Nat × β))} {i m : Nat} {e : List (Nat × β)}, ws[m]? = some w → L (i + m) = true → get w k = some x → (∀ m' w', m < m' → ws[m']? = some w' → L (i + m') = true → get w' k = none) → get (comp L i ws e) k = some x
  | [], _, _, _, h, _, _, _ => by simp at h
  | u :: r, i, 0, e, h, hL, hx, hn => by
    simp at h; subst h
    rw [comp, comp_none (fun m w' hm hl => hn (m + 1) w' (by omega) hm (by rwa [show i + (m + 1) = i + 1 + m by omega]))]
    rw [Nat.add_zero] at hL
    simp only [hL, get_append, hx]
  | u :: r, i, m + 1, e, h, hL, hx, hn => by
    rw [comp]
    exact comp_top (m := m) (by simpa using h) (by rwa [show i + 1 + m = i + (m + 1) by omega]) hx (fun m' w' hlt hm hl => hn (m' + 1) w' (by omega) hm (by rwa [show i + (m' + 1) = i + 1 + m' by omega]))
end
theorem egetd_of {e e' : List (Nat × V)} {t : Nat} (h : get e t = get e' t) : egetd e t = egetd e' t := by unfold egetd; rw [h]
theorem hget_of {e e' : Hp} {t : Nat} (h : get e t = get e' t) : hget e t = hget e' t := by unfold hget; rw [h]

/-! ### Operands -/
section
variable {τ : TT} {tbl : Tbl} {α : Type}
theorem opK_congr {fr : Nat} {g g' : Operand → V} {h : Nat → Option Blk} {op : Op} {K : V → Hp → Option α} (hg : ∀ x ∈ op.operands.toList, g x = g' x) : opK τ tbl fr g h op K = opK τ tbl fr g' h op K := by
  have hp : ∀ (ps : Array (Nat × Operand)), (∀ x ∈ ps.toList.map (·.2), g x = g' x) → (ps.toList.map fun p => (p.1, g p.2)) = ps.toList.map fun p => (p.1, g' p.2) := fun ps h =>
    List.map_congr_left (fun p hp => by rw [h p.2 (List.mem_map.2 ⟨p, hp, rfl⟩)])
  cases op <;> simp only [Op.operands, List.mem_cons, List.mem_append, List.not_mem_nil, or_false, forall_eq_or_imp, forall_eq, Array.toList_append] at hg <;> unfold opK <;> dsimp only <;> try (first | rfl | (rw [hg]; done) | (rw [hg.1, hg.2]; done) | (rw [hg.1, hg.2.1, hg.2.2]; done))
  case build t ps => rw [hp ps hg]
  case buildSlice t n ps => rw [hp ps hg]
  case makeFunc f a c => rw [List.map_congr_left (fun x hx => hg x (.inl hx)), List.map_congr_left (fun x hx => hg x (.inr hx))]
  case slice t x lo hi mx =>
    have ho : ∀ o : Option Operand, (∀ x ∈ o.toArray.toList, g x = g' x) → o.map g = o.map g' := fun o h => by
      cases o with
      | none => rfl
      | some y => simp only [Option.map_some]; rw [h y (by simp)]
    rw [hg x (.inl (.inl (.inl rfl))), ho lo (fun y hy => hg y (.inl (.inl (.inr hy)))), ho hi (fun y hy => hg y (.inl (.inr hy)))]
    cases mx with
    | none => rfl
    | some m => cases lo with
      | none => rfl
      | some i => cases hi with
        | none => rfl
        | some j => dsimp only; rw [hg m (.inr (by simp)), hg i (.inl (.inl (.inr (by simp)))), hg j (.inl (.inr (by simp)))]
  case call c =>
    simp only [Call.operands, Array.toList_append, List.mem_append] at hg
    rw [List.map_congr_left (fun x hx => hg x (.inr hx))]
    cases hc : c.callee with
    | value f =>
      dsimp only
      rw [hg f (.inl (by rw [hc]; simp))]
    | invoke r n => rfl
    | builtin b => rfl
end
end Go.Proofs.YtiacidpjplmgaaaDoorD
