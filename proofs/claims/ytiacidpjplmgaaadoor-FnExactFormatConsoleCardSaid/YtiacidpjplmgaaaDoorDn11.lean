/- Words of this session's own: addresses, indices, parts of rows, lengths on the machine. -/
import Derived.Test.YtiacidpjplmgaaaDoorDn10
set_option linter.unusedVariables false
set_option linter.unusedSimpArgs false
namespace Go.Proofs.YtiacidpjplmgaaaDoorD
section
variable {P : Program} {τ : TT} {F : Fr} {c : Ctx} {w w' : World} {hp : Hp} {α : Type}
theorem fieldOf_ok (hτ : TOk P τ) {t i o ft : Nat} (h : fieldOf τ t i = some (o, ft)) : ∃ fs f, P.underlying t = some (.struct fs) ∧ fs[i]? = some f ∧ f.offset = o ∧ f.type = ft := by
  unfold fieldOf at h
  split at h
  case h_2 => cases h
  rename_i ti hti
  split at h
  case h_2 => cases h
  rename_i fs hd
  split at h
  case h_2 => cases h
  rename_i f hf
  cases h
  exact ⟨fs, f, by rw [(hτ t ti hti).und, hd], by simpa using hf, rfl, rfl⟩
theorem fieldAt_run (hτ : TOk P τ) {t i o ft : Nat} {ti : TI} (h : fieldOf τ t i = some (o, ft)) (hti : get τ ft = some ti) (a : Addr) : (Instr.fieldAt t (.pointer (some a)) i).run P w = .ok (.pointer (some (a.add o))) w := by
  obtain ⟨fs, f, h1, h2, h3, h4⟩ := fieldOf_ok hτ h
  subst h3; subst h4
  have hT := hτ _ _ hti
  have hpos : ti.size ≠ 0 := by have := Ty.cells_pos ti.ty; rw [hT.cells] at this; omega
  simp only [Instr.fieldAt, Sem.run_bind, run_underlying h1, Result.andThen_ok, h2, Instr.sureAddr, Sem.run_pure, fieldPlace, sizeOf_run hT, if_neg hpos]
theorem fieldAddrK_ok {t i : Nat} {x : V} {K : V → Option α} {r : α} (hτ : TOk P τ) (he : fieldAddrK τ t x i K = some r) :
    ∃ v, K v = some r ∧ (∀ {β : Type} (K' : V → Option β), fieldAddrK τ t x i K' = K' v) ∧ ∀ {c : Ctx} {w : World} {xv : Value}, VR c w x xv → ∃ val, (Instr.fieldAt t xv i).run P w = .ok val w ∧ VR c w v val := by
  unfold fieldAddrK at he
  split at he
  · cases he
  rename_i o ft hf
  split at he
  · cases he
  rename_i ti hti
  cases x with
  | ptr b off =>
    refine ⟨_, he, fun K' => by unfold fieldAddrK; simp only [hf, hti], fun hx => ?_⟩
    simp only [VR] at hx
    obtain ⟨hM, g, e1, e2⟩ := hx
    subst e2
    refine ⟨_, fieldAt_run hτ hf hti _, ?_⟩
    simp only [VR]
    exact ⟨hM, g, e1, by rw [add_mid]⟩
  | eptr s b j off =>
    refine ⟨_, he, fun K' => by unfold fieldAddrK; simp only [hf, hti], fun hx => ?_⟩
    simp only [VR] at hx
    obtain ⟨hM, g, n, cap, e1, hj, e2⟩ := hx
    subst e2
    refine ⟨_, fieldAt_run hτ hf hti _, ?_⟩
    simp only [VR]
    exact ⟨hM, g, n, cap, e1, hj, by rw [add_mid, Nat.add_assoc]⟩
  | rptr s y off =>
    refine ⟨_, he, fun K' => by unfold fieldAddrK; simp only [hf, hti], fun hx => ?_⟩
    simp only [VR] at hx
    obtain ⟨a, cs, e1, h1, h2, h3⟩ := hx
    subst e1
    refine ⟨_, fieldAt_run hτ hf hti _, ?_⟩
    simp only [VR]
    exact ⟨a, cs, by rw [add_add], h1, h2, h3⟩
  | cptr vs off =>
    refine ⟨_, he, fun K' => by unfold fieldAddrK; simp only [hf, hti], fun hx => ?_⟩
    simp only [VR] at hx
    obtain ⟨g, cs, e, e1, h1, h2, h3⟩ := hx
    subst e1
    refine ⟨_, fieldAt_run hτ hf hti _, ?_⟩
    simp only [VR]
    exact ⟨g, cs, e, by rw [add_mid], h1, h2, h3⟩
  | _ => cases he
theorem fieldK_ok {t i : Nat} {x : V} {K : V → Option α} {r : α} (hτ : TOk P τ) (he : fieldK τ t x i K = some r) :
    ∃ v, K v = some r ∧ (∀ {β : Type} (K' : V → Option β), fieldK τ t x i K' = K' v) ∧ ∀ {c : Ctx} {w : World} {xv : Value}, VR c w x xv → ∃ val, (Instr.field t xv i).run P w = .ok val w ∧ VR c w v val := by
  unfold fieldK at he
  split at he
  case h_2 => cases he
  rename_i o ft l hf
  split at he
  case h_2 => cases he
  rename_i ti hti
  obtain ⟨v, h1, h2, h3⟩ := takeV_ok he
  refine ⟨v, h1, fun K' => by unfold fieldK; simp only [hf, hti]; exact h2 K', fun {c w xv} hx => ?_⟩
  simp only [VR] at hx
  obtain ⟨cs, rfl, hv⟩ := hx
  obtain ⟨fs, f, k1, k2, k3, k4⟩ := fieldOf_ok hτ hf
  subst k3; subst k4
  have hT := hτ _ _ hti
  rcases h3 with ⟨ha, rfl, hl⟩ | ⟨ha, q, hq⟩
  · refine ⟨.agg (cs.extract f.offset (f.offset + ti.size)), ?_, ?_⟩
    · simp only [Instr.field, Sem.run_bind, run_underlying k1, Result.andThen_ok, k2, asAgg, Sem.run_pure, part, isAgg_run hT.und, ha, if_true, sizeOf_run hT]
    · simp only [VR]
      refine ⟨_, rfl, ?_⟩
      have := (hv.drop f.offset).take ti.size
      rwa [show (cs.extract f.offset (f.offset + ti.size)).toList = (cs.toList.drop f.offset).take ti.size by simp [Array.toList_extract, List.extract_eq_take_drop]]
  · have hd := hv.drop f.offset
    rw [hq] at hd
    simp only [VRs] at hd
    obtain ⟨u, us, e, hu, _⟩ := hd
    have hc : cs[f.offset]? = some u := by
      have := congrArg (fun l : List Value => l[0]?) e
      simpa [List.getElem?_drop] using this
    refine ⟨u, ?_, hu⟩
    simp only [Instr.field, Sem.run_bind, run_underlying k1, Result.andThen_ok, k2, asAgg, Sem.run_pure, part, isAgg_run hT.und, ha, Bool.false_eq_true, if_false, hc]
theorem arrOf_ok {t e len : Nat} {ei : TI} (hτ : TOk P τ) (h : arrOf τ t = some (len, e, ei)) : P.underlying t = some (.array len e) ∧ TOk1 P e ei := by
  unfold arrOf at h
  split at h
  case h_2 => cases h
  rename_i i hi
  split at h
  case h_2 => cases h
  rename_i n e' hd
  split at h
  case h_2 => cases h
  rename_i ei' hei
  cases h
  exact ⟨by rw [(hτ t i hi).und, hd], hτ _ _ hei⟩
theorem arms_ok {α : Type} {len : Nat} {i : V} {f : Nat → Option α} {r : α} (h : arms len i f = some r) : ∃ j, j < len ∧ (∃ k, i = .val (.int k) ((j : Nat) : Int)) ∧ f j = some r ∧ ∀ {β : Type} (g : Nat → Option β), arms len i g = g j := by
  have key : ∀ (n : Int) (m : Nat), armsK n f m = some r → ∃ j, j < m ∧ n = ((j : Nat) : Int) ∧ f j = some r ∧ ∀ {β : Type} (g : Nat → Option β), armsK n g m = g j := by
    intro n m
    induction m with
    | zero => intro h; cases h
    | succ m ih =>
      intro h
      unfold armsK at h
      by_cases e : n = (m : Int)
      · rw [if_pos e] at h
        exact ⟨m, Nat.lt_succ_self m, e, h, fun g => by unfold armsK; rw [if_pos e]⟩
      · rw [if_neg e] at h
        obtain ⟨j, h1, h2, h3, h4⟩ := ih h
        exact ⟨j, by omega, h2, h3, fun g => by unfold armsK; rw [if_neg e]; exact h4 g⟩
  unfold arms at h
  split at h
  · rename_i k n
    obtain ⟨j, h1, h2, h3, h4⟩ := key n _ h
    exact ⟨j, h1, ⟨k, by rw [h2]⟩, h3, fun g => h4 g⟩
  · cases h
theorem addK_ok {x : V} {o : Nat} {K : V → Option α} {r : α} (he : addK x o K = some r) :
    ∃ v, K v = some r ∧ (∀ {β : Type} (K' : V → Option β), addK x o K' = K' v) ∧ ∀ {c : Ctx} {w : World} {xv : Value}, VR c w x xv → ∃ a, xv = .pointer (some a) ∧ VR c w v (.pointer (some (a.add o))) := by
  unfold addK at he
  split at he
  · rename_i b off
    refine ⟨_, he, fun K' => rfl, fun hx => ?_⟩
    simp only [VR] at hx
    obtain ⟨hM, g, e1, e2⟩ := hx
    subst e2
    refine ⟨_, rfl, ?_⟩
    simp only [VR]
    exact ⟨hM, g, e1, by rw [add_mid]⟩
  · rename_i s b j off
    refine ⟨_, he, fun K' => rfl, fun hx => ?_⟩
    simp only [VR] at hx
    obtain ⟨hM, g, n, cap, e1, hj, e2⟩ := hx
    subst e2
    refine ⟨_, rfl, ?_⟩
    simp only [VR]
    exact ⟨hM, g, n, cap, e1, hj, by rw [add_mid, Nat.add_assoc]⟩
  · rename_i s y off
    refine ⟨_, he, fun K' => rfl, fun hx => ?_⟩
    simp only [VR] at hx
    obtain ⟨a, cs, e1, h1, h2, h3⟩ := hx
    subst e1
    refine ⟨_, rfl, ?_⟩
    simp only [VR]
    exact ⟨a, cs, by rw [add_add], h1, h2, h3⟩
  · rename_i vs off
    refine ⟨_, he, fun K' => rfl, fun hx => ?_⟩
    simp only [VR] at hx
    obtain ⟨g, cs, e, e1, h1, h2, h3⟩ := hx
    subst e1
    refine ⟨_, rfl, ?_⟩
    simp only [VR]
    exact ⟨g, cs, e, by rw [add_mid], h1, h2, h3⟩
  · cases he
theorem isStr_ok {t : Nat} (hτ : TOk P τ) (h : isStr τ t = true) : P.underlying t = some .string := by
  unfold isStr at h
  split at h
  · rename_i i hi
    split at h
    · rename_i hd; rw [(hτ t i hi).und, hd]
    · cases h
  · cases h
theorem elemOf_ok {t e : Nat} {ei : TI} (hτ : TOk P τ) (h : elemOf τ t = some (e, ei)) : P.underlying t = some (.slice e) ∧ TOk1 P e ei := by
  unfold elemOf at h
  split at h
  case h_2 => cases h
  rename_i i hi
  split at h
  case h_2 => cases h
  rename_i e' hd
  split at h
  case h_2 => cases h
  rename_i ei' hei
  cases h
  exact ⟨by rw [(hτ t i hi).und, hd], hτ _ _ hei⟩
theorem rowOf_ok {h : Nat → Option Blk} {b : Nat} {K : (t : Ty) → List t.D → Option α} {r : α} (he : rowOf h b K = some r) :
    ∃ t xs, K t xs = some r ∧ (∀ {β : Type} (K' : (t : Ty) → List t.D → Option β), rowOf h b K' = K' t xs) ∧ ((∃ e, h b = some (.row e t xs)) ∨ h b = some (.frz t xs)) := by
  unfold rowOf at he
  split at he
  · rename_i e t xs hb; exact ⟨t, xs, he, fun K' => by unfold rowOf; simp only [hb], .inl ⟨e, hb⟩⟩
  · rename_i t xs hb; exact ⟨t, xs, he, fun K' => by unfold rowOf; simp only [hb], .inr hb⟩
  · cases he
/-- A row's header. -/
theorem row_head {b : Nat} {t : Ty} {xs : List t.D} {h : Nat → Option Blk} (hb : (∃ e, h b = some (.row e t xs)) ∨ h b = some (.frz t xs)) (hH : ∀ b x, h b = some x → BR c w b x) :
    ∃ A cap, c.ρ b = .slice A xs.length cap ∧ xs.length ≤ cap ∧ (A = none → cap = 0) := by
  rcases hb with ⟨e, hb⟩ | hb
  · obtain ⟨inner, hf, ho⟩ := hH b _ hb
    obtain ⟨A, cap, h1, ⟨h2, h3⟩, _⟩ := row_reads hf ho
    exact ⟨A, cap, h1, h2, h3⟩
  · obtain ⟨⟨A, cap, inner, h1, ⟨h2, h3⟩, _⟩, _⟩ := hH b _ hb
    simp only [List.cons.injEq, and_true] at h1
    exact ⟨A, cap, h1, h2, h3⟩
theorem sl_of {t : Ty} {xs : List t.D} {val : Value} (h : VR c w (.val (.sl t) xs) val) : ∃ A cap, val = .slice A xs.length cap ∧ xs.length ≤ cap ∧ (A = none → cap = 0) := by
  simp only [VR] at h
  obtain ⟨A, cap, inner, h1, ⟨h2, h3⟩, _⟩ := h
  simp only [List.cons.injEq, and_true] at h1
  exact ⟨A, cap, h1, h2, h3⟩
theorem sub_of {t : Ty} {b lo n : Nat} {val : Value} (h : VR c w (.sub t b lo n) val) : ∃ A cap, val = .slice A n cap ∧ n ≤ cap ∧ (A = none → cap = 0) := by
  simp only [VR] at h
  rcases h.2 with ⟨_, _, h3, h4⟩ | ⟨g, m, cap, A, h1, h2, h3, h4, _⟩
  · subst h3; exact ⟨none, 0, h4, Nat.le_refl _, fun _ => rfl⟩
  · exact ⟨some A, cap - lo, h4, by omega, fun h => by cases h⟩
theorem lenK_ok {h : Nat → Option Blk} {t : Nat} {x : V} {K : V → Option α} {r : α} (hτ : TOk P τ) (he : lenK τ h t x K = some r) :
    ∃ v, K v = some r ∧ (∀ {β : Type} (K' : V → Option β), lenK τ h t x K' = K' v) ∧ ∀ {c : Ctx} {w : World} {xv : Value} {ty : TypeId}, (∀ b x, h b = some x → BR c w b x) → VR c w x xv → ∃ val, (Builtin.len_ #[t] ty #[xv]).run P w = .ok val w ∧ VR c w v val := by
  unfold lenK at he
  split at he
  · rename_i hs
    have hu := isStr_ok hτ hs
    split at he
    case h_2 => cases he
    refine ⟨_, he, fun K' => by unfold lenK; simp only [hs], fun hH hx => ?_⟩
    rw [str_of hx]
    exact ⟨_, by simp [Builtin.len_, run_underlying hu, goInt], VR.int⟩
  · rename_i hs
    split at he
    case h_2 => cases he
    rename_i q hq
    obtain ⟨e, ei⟩ := q
    obtain ⟨hu, hT⟩ := elemOf_ok hτ hq
    have key : ∀ {w : World} {ty : TypeId} {A : Option Addr} {n cap : Nat}, (Builtin.len_ #[t] ty #[.slice A n cap]).run P w = .ok (.int .i64 (n : Int)) w := by
      intro w ty A n cap
      simp [Builtin.len_, run_underlying hu, goInt]
    unfold lenS at he
    split at he
    · refine ⟨_, he, fun K' => by unfold lenK; simp only [hs, hq]; rfl, fun hH hx => ?_⟩
      simp only [VR] at hx
      rw [hx]
      exact ⟨_, key, VR.int⟩
    · refine ⟨_, he, fun K' => by unfold lenK; simp only [hs, hq]; rfl, fun hH hx => ?_⟩
      obtain ⟨A, cap, hx, _⟩ := sl_of hx
      rw [hx]
      exact ⟨_, key, VR.int⟩
    · obtain ⟨s, xs, h1, h2, h3⟩ := rowOf_ok he
      refine ⟨_, h1, fun K' => by unfold lenK lenS; simp only [hs, hq]; exact h2 _, fun hH hx => ?_⟩
      simp only [VR] at hx
      obtain ⟨A, cap, hx', _⟩ := row_head h3 hH
      rw [hx.2.1, hx']
      exact ⟨_, key, VR.int⟩
    · refine ⟨_, he, fun K' => by unfold lenK; simp only [hs, hq]; rfl, fun hH hx => ?_⟩
      obtain ⟨A, cap, hx, _⟩ := sub_of hx
      rw [hx]
      exact ⟨_, key, VR.int⟩
    · cases he
theorem chk_ok {n j : Nat} {i : Int} (h : chk n i = some j) : j = i.toNat ∧ 0 ≤ i ∧ i < n := by
  unfold chk at h
  split at h
  · rename_i hc; cases h; exact ⟨rfl, hc⟩
  · cases h
theorem indexAt_run {t e : Nat} {ei : TI} (hu : P.underlying t = some (.slice e)) (hT : TOk1 P e ei) {a : Addr} {n cap : Nat} {k : IntKind} {i : Int} (h0 : 0 ≤ i) (h1 : i < n) :
    (Instr.indexAt t (.slice (some a) n cap) (.int k i)).run P w = .ok (.pointer (some (a.add (i.toNat * ei.ty.cells)))) w := by
  rw [hT.cells]
  simp only [Instr.indexAt, asIntOf, Sem.run_bind, Sem.run_pure, Result.andThen_ok, run_underlying hu, if_pos (And.intro h0 h1), sizeOf_run hT]
end
end Go.Proofs.YtiacidpjplmgaaaDoorD
