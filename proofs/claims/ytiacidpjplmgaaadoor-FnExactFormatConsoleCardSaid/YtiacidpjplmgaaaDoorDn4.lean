/- Words of this session's own: each operation does on the machine what it does in plain. -/
import Derived.Test.YtiacidpjplmgaaaDoorDn3
import Derived.Lib.ConvBytes
import Derived.Lib.AppendStr
set_option linter.unusedVariables false
set_option linter.unusedSimpArgs false
namespace Go.Proofs.YtiacidpjplmgaaaDoorD

section
variable {F : Fr} {c : Ctx} {w : World} {hp : Hp} {α : Type}
theorem castK_pt {t t' : Ty} {x : t.D} {K : t'.D → Option α} {r : α} (he : castK t t' x K = some r) : ∃ e : t = t', K (e ▸ x) = some r ∧ ∀ {β : Type} (K' : t'.D → Option β), castK t t' x K' = K' (e ▸ x) := by
  unfold castK at he
  split at he
  · rename_i h
    refine ⟨Ty.eq_of_beq h, he, fun K' => ?_⟩
    unfold castK
    split
    · rfl
    · rename_i h'; rw [h] at h'; cases h'
  · cases he
theorem beq_ty {a b : Ty} (h : Ty.beq a b = true) : a = b := Ty.eq_of_beq h
/-- What rows and boxes a part's data comes from: held from here on, it reads so. -/
def Held (c : Ctx) (S' : Nat → Prop) (f : List Nat) : Prop := (∀ k, c.S k → S' k) ∧ ∀ b ∈ f, ∀ g, vblk (c.ρ b) = some g → S' g
/-- The rows of a list are rows of the call's own. -/
def Rows (h : Nat → Option Blk) (f : List Nat) : Prop := ∀ b ∈ f, ∃ e t xs, h b = some (.row e t xs)
theorem row_part {S' : Nat → Prop} {e b : Nat} {s : Ty} {xs : List s.D} {lo n : Nat} {val : Value} (hb : BR c w b (.row e s xs)) (hv : VR c w (.sub s b lo n) val) (hS : Held c S' [b]) : Rd S' w (.sl s) ((xs.drop lo).take n) [val] := by
  obtain ⟨inner, hf, ho⟩ := hb
  simp only [VR] at hv
  obtain ⟨hM, hv⟩ := hv
  have hfl := hf.imp (q := Rd S' w s) (fun _ _ h => h.move hS.1 (fun _ _ => rfl))
  have hn : ∀ x cc, Rd S' w s x cc → cc.length = s.cells := fun _ _ h => h.len
  rcases hv with ⟨h1, h2, h3, h4⟩ | ⟨g, m, cap, A, h1, h2, h3, h4, h5, h6⟩
  · subst h2; subst h3; subst h4
    exact ⟨none, 0, [], by simp, ⟨by simp, fun _ => rfl⟩, by simp [Flat], fun h => absurd rfl h⟩
  · rw [h1] at ho
    have hm : m = xs.length := by
      rcases ho.2 with ⟨h, _⟩ | ⟨g', cap', cur, h, _⟩
      · cases h
      · injection h
    subst hm
    have hlen : ((xs.drop lo).take n).length = n := by rw [List.length_take, List.length_drop]; omega
    refine ⟨some A, cap - lo, (inner.drop (lo * s.cells)).take (n * s.cells), by rw [h4, hlen], ⟨by rw [hlen]; omega, fun h => by cases h⟩, (hfl.drop hn lo).take hn n, fun hi => ?_⟩
    have hpos : 0 < n := by
      rcases Nat.eq_zero_or_pos n with h | h
      · subst h; simp at hi
      · exact h
    have hA := h6 (.inl (by omega))
    subst hA
    refine ⟨_, rfl, hS.2 b (by simp) g (by rw [h1]; rfl), fun j u hu => ?_⟩
    rw [List.getElem?_take] at hu
    split at hu
    · rw [List.getElem?_drop] at hu
      have := ho.cells (g := g) rfl _ u hu
      rw [add_mid, Nat.zero_add] at this
      rw [add_mid]
      exact this
    · cases hu
theorem frz_part {S' : Nat → Prop} {b : Nat} {s : Ty} {xs : List s.D} {lo n : Nat} {val : Value} (hb : BR c w b (.frz s xs)) (hv : VR c w (.sub s b lo n) val) (hS : ∀ k, c.S k → S' k) : Rd S' w (.sl s) ((xs.drop lo).take n) [val] := by
  obtain ⟨⟨A0, cap0, inner, e0, hc0, hf, hr⟩, _⟩ := hb
  simp only [VR] at hv
  obtain ⟨hM, hv⟩ := hv
  have hfl := hf.imp (q := Rd S' w s) (fun _ _ h => h.move hS (fun _ _ => rfl))
  have hn : ∀ x cc, Rd S' w s x cc → cc.length = s.cells := fun _ _ h => h.len
  rcases hv with ⟨h1, h2, h3, h4⟩ | ⟨g, m, cap, A, h1, h2, h3, h4, h5, h6⟩
  · subst h2; subst h3; subst h4
    exact ⟨none, 0, [], by simp, ⟨by simp, fun _ => rfl⟩, by simp [Flat], fun h => absurd rfl h⟩
  · rw [h1] at e0
    simp only [List.cons.injEq, and_true, Value.slice.injEq] at e0
    obtain ⟨rfl, rfl, rfl⟩ := e0
    have hlen : ((xs.drop lo).take n).length = n := by rw [List.length_take, List.length_drop]; omega
    refine ⟨some A, cap - lo, (inner.drop (lo * s.cells)).take (n * s.cells), by rw [h4, hlen], ⟨by rw [hlen]; omega, fun h => by cases h⟩, (hfl.drop hn lo).take hn n, fun hi => ?_⟩
    have hpos : 0 < n := by
      rcases Nat.eq_zero_or_pos n with h | h
      · subst h; simp at hi
      · exact h
    have hA := h6 (.inl (by omega))
    subst hA
    have hi2 : inner ≠ [] := by rintro rfl; simp at hi
    obtain ⟨ad, had, hs, hcell⟩ := hr hi2
    injection had with had
    subst had
    refine ⟨_, rfl, hS _ hs, fun j u hu => ?_⟩
    rw [List.getElem?_take] at hu
    split at hu
    · rw [List.getElem?_drop] at hu
      have := hcell _ u hu
      rw [add_mid, Nat.zero_add] at this
      rw [add_mid]
      exact this
    · cases hu
/-- A part as data. -/
theorem leafAs_ok {h : Nat → Option Blk} {t : Ty} {v : V} {K : t.D → List Nat → Option α} {r : α} (he : leafAs h t v K = some r) :
    ∃ x f, K x f = some r ∧ (∀ {β : Type} (K' : t.D → List Nat → Option β), leafAs h t v K' = K' x f) ∧ Rows h f ∧ (∀ b ∈ f, b ∈ idsV v) ∧
      ∀ {c : Ctx} {w : World} {val : Value} {S' : Nat → Prop}, (∀ b x, h b = some x → BR c w b x) → VR c w v val → Held c S' f → Rd S' w t x [val] := by
  unfold leafAs at he
  cases v with
  | val t' x =>
    obtain ⟨rfl, h1, h2⟩ := castK_pt he
    refine ⟨_, [], h1, fun K' => by unfold leafAs; exact h2 _, (by intro b hb; cases hb), (by intro b hb; cases hb), fun hH hv hS => ?_⟩
    simp only [VR] at hv
    exact hv.move hS.1 (fun _ _ => rfl)
  | prop p d =>
    obtain ⟨rfl, h1, h2⟩ := castK_pt he
    refine ⟨_, [], h1, fun K' => by unfold leafAs; exact h2 _, (by intro b hb; cases hb), (by intro b hb; cases hb), fun hH hv hS => ?_⟩
    simp only [VR] at hv
    subst hv
    rfl
  | nil =>
    cases t with
    | sl s =>
      refine ⟨[], [], he, fun K' => rfl, (by intro b hb; cases hb), (by intro b hb; cases hb), fun hH hv hS => ?_⟩
      simp only [VR] at hv
      subst hv
      exact ⟨none, 0, [], rfl, ⟨Nat.le_refl _, fun _ => rfl⟩, rfl, fun h => absurd rfl h⟩
    | _ => cases he
  | ref b =>
    dsimp only at he
    split at he
    · rename_i e t' xs hb
      obtain ⟨rfl, h1, h2⟩ := castK_pt he
      refine ⟨_, [b], h1, fun K' => by unfold leafAs; simp only [hb]; exact h2 _, (by intro d hd; simp at hd; subst hd; exact ⟨_, _, _, hb⟩), (by intro d hd; simpa [idsV] using hd), fun {c w val S'} hH hv hS => ?_⟩
      simp only [VR] at hv
      obtain ⟨inner, hf, ho⟩ := hH b _ hb
      rw [hv.2.1]
      exact row_frz hS.1 hf ho (hS.2 b (by simp))
    · rename_i t' xs hb
      obtain ⟨rfl, h1, h2⟩ := castK_pt he
      refine ⟨_, [], h1, fun K' => by unfold leafAs; simp only [hb]; exact h2 _, (by intro d hd; cases hd), (by intro d hd; cases hd), fun {c w val S'} hH hv hS => ?_⟩
      simp only [VR] at hv
      rw [hv.2.1]
      exact Rd.move (t := .sl t') hS.1 (fun _ _ => rfl) (hH b _ hb).1
    · cases he
  | sub s b lo n =>
    dsimp only at he
    split at he
    · rename_i e t' xs hb
      split at he
      · rename_i hs
        have := beq_ty hs
        subst this
        obtain ⟨rfl, h1, h2⟩ := castK_pt he
        refine ⟨_, [b], h1, fun K' => by unfold leafAs; simp only [hb, hs]; exact h2 _, (by intro d hd; simp at hd; subst hd; exact ⟨_, _, _, hb⟩), (by intro d hd; simpa [idsV] using hd), fun {c w val S'} hH hv hS => ?_⟩
        exact row_part (hH b _ hb) hv hS
      · cases he
    · rename_i t' xs hb
      split at he
      · rename_i hs
        have := beq_ty hs
        subst this
        obtain ⟨rfl, h1, h2⟩ := castK_pt he
        refine ⟨_, [], h1, fun K' => by unfold leafAs; simp only [hb, hs]; exact h2 _, (by intro d hd; cases hd), (by intro d hd; cases hd), fun {c w val S'} hH hv hS => ?_⟩
        exact frz_part (hH b _ hb) hv hS.1
      · cases he
    · cases he
  | _ => cases he

theorem Held.left {S' : Nat → Prop} {f f' : List Nat} (h : Held c S' (f ++ f')) : Held c S' f := ⟨h.1, fun b hb => h.2 b (List.mem_append_left _ hb)⟩
theorem Held.right {S' : Nat → Prop} {f f' : List Nat} (h : Held c S' (f ++ f')) : Held c S' f' := ⟨h.1, fun b hb => h.2 b (List.mem_append_right _ hb)⟩
theorem Rows.append {h : Nat → Option Blk} {f f' : List Nat} (h1 : Rows h f) (h2 : Rows h f') : Rows h (f ++ f') := fun b hb => by
  rcases List.mem_append.1 hb with hb | hb
  · exact h1 b hb
  · exact h2 b hb
/-- Reading as data; what it needs. -/
def Reads (h : Nat → Option Blk) (t : Ty) (l : List V) (x : t.D) (l' : List V) (f : List Nat) : Prop :=
  Rows h f ∧ (∀ b ∈ f, b ∈ idsL l) ∧ (∀ v ∈ l', v ∈ l) ∧
    ∀ {c : Ctx} {w : World} {vals : List Value} {S' : Nat → Prop}, (∀ b x, h b = some x → BR c w b x) → VRs c w l vals → Held c S' f → ∃ cs rest, vals = cs ++ rest ∧ Rd S' w t x cs ∧ VRs c w l' rest
theorem mem_idsL {v : V} {l : List V} {b : Nat} (hv : v ∈ l) (hb : b ∈ idsV v) : b ∈ idsL l := by
  induction l with
  | nil => cases hv
  | cons u r ih =>
    simp only [idsL, List.mem_append]
    rcases List.mem_cons.1 hv with h | h
    · subst h; exact .inl hb
    · exact .inr (ih h)
theorem idsL_sub {l l' : List V} (h : ∀ v ∈ l', v ∈ l) {b : Nat} (hb : b ∈ idsL l') : b ∈ idsL l := by
  induction l' with
  | nil => simp [idsL] at hb
  | cons u r ih =>
    simp only [idsL, List.mem_append] at hb
    rcases hb with hb | hb
    · exact mem_idsL (h u List.mem_cons_self) hb
    · exact ih (fun v hv => h v (List.mem_cons_of_mem _ hv)) hb
theorem leaf_reads {h : Nat → Option Blk} {t : Ty} {l : List V} {K : t.D → List V → List Nat → Option α} {r : α} (he : headK h t l K = some r) :
    ∃ x l' f, K x l' f = some r ∧ (∀ {β : Type} (K' : t.D → List V → List Nat → Option β), headK h t l K' = K' x l' f) ∧ Reads h t l x l' f := by
  cases l with
  | nil => cases he
  | cons v q =>
    obtain ⟨x, f, h1, h2, h3, h4, h5⟩ := leafAs_ok he
    refine ⟨x, q, f, h1, fun K' => h2 _, h3, fun b hb => ?_, fun u hu => List.mem_cons_of_mem _ hu, fun hH hv hS => ?_⟩
    · simp only [idsL, List.mem_append]; exact .inl (h4 b hb)
    · simp only [VRs] at hv
      obtain ⟨y, r', e, hy, hr⟩ := hv
      exact ⟨[y], r', e, h5 hH hy hS, hr⟩
theorem ofLeaves_ok {h : Nat → Option Blk} : ∀ {t : Ty} {l : List V} {α : Type} {K : t.D → List V → List Nat → Option α} {r : α}, ofLeaves h t l K = some r →
    ∃ x l' f, K x l' f = some r ∧ (∀ {β : Type} (K' : t.D → List V → List Nat → Option β), ofLeaves h t l K' = K' x l' f) ∧ Reads h t l x l' f
  | .int _, _, _, _, _, he | .bool, _, _, _, _, he | .str, _, _, _, _, he | .fn, _, _, _, _, he | .sl _, _, _, _, _, he => leaf_reads he
  | .pair a b, l, _, K, r, he => by
    unfold ofLeaves at he
    obtain ⟨x, l1, f1, h1, h2, h3, h4, h4', h5⟩ := ofLeaves_ok he
    obtain ⟨y, l2, f2, k1, k2, k3, k4, k4', k5⟩ := ofLeaves_ok h1
    refine ⟨(x, y), l2, f1 ++ f2, k1, fun K' => ?_, h3.append k3, fun d hd => ?_, fun v hv => h4' v (k4' v hv), fun hH hv hS => ?_⟩
    · unfold ofLeaves; rw [h2, k2]
    · rcases List.mem_append.1 hd with hd | hd
      · exact h4 d hd
      · exact idsL_sub h4' (k4 d hd)
    · obtain ⟨cs, rest, e, hr, hq⟩ := h5 hH hv hS.left
      obtain ⟨ds, rest', e', hr', hq'⟩ := k5 hH hq hS.right
      exact ⟨cs ++ ds, rest', by rw [e, e', List.append_assoc], ⟨cs, ds, rfl, hr, hr'⟩, hq'⟩
theorem setAt_leaf {h : Nat → Option Blk} {t : Ty} {off : Nat} {v : V} {K : t.D → List Nat → Option α} {r : α} (h1c : t.cells = 1) (he : wholeK h t off v K = some r) :
    ∃ y f, K y f = some r ∧ (∀ {β : Type} (K' : t.D → List Nat → Option β), wholeK h t off v K' = K' y f) ∧ Rows h f ∧ (∀ b ∈ f, b ∈ idsV v) ∧ off < t.cells ∧
      ∀ {c : Ctx} {w : World} {val : Value} {S' : Nat → Prop}, (∀ b x, h b = some x → BR c w b x) → VR c w v val → Held c S' f → ∀ (x : t.D) cs, Rd S' w t x cs → Rd S' w t y (cs.set off val) := by
  unfold wholeK at he
  split at he
  · rename_i hb
    have h0 : off = 0 := Nat.eq_of_beq_eq_true hb
    subst h0
    obtain ⟨y, f, k1, k2, k3, k4, k5⟩ := leafAs_ok he
    refine ⟨y, f, k1, fun K' => k2 K', k3, k4, by omega, fun hH hv hS x cs hr => ?_⟩
    have hl := hr.len
    rw [h1c] at hl
    match cs, hl with
    | [u], _ => exact k5 hH hv hS
  · cases he
theorem setAt_ok {h : Nat → Option Blk} : ∀ {t : Ty} {x : t.D} {off : Nat} {v : V} {α : Type} {K : t.D → List Nat → Option α} {r : α}, setAt h t x off v K = some r →
    ∃ y f, K y f = some r ∧ (∀ {β : Type} (K' : t.D → List Nat → Option β), setAt h t x off v K' = K' y f) ∧ Rows h f ∧ (∀ b ∈ f, b ∈ idsV v) ∧ off < t.cells ∧
      ∀ {c : Ctx} {w : World} {val : Value} {S' : Nat → Prop}, (∀ b x, h b = some x → BR c w b x) → VR c w v val → Held c S' f → ∀ cs, Rd S' w t x cs → Rd S' w t y (cs.set off val)
  | .int _, x, _, _, _, _, _, he | .bool, x, _, _, _, _, _, he | .str, x, _, _, _, _, _, he | .fn, x, _, _, _, _, _, he | .sl _, x, _, _, _, _, _, he => by
    obtain ⟨y, f, h1, h2, h3, h4, h5, h6⟩ := setAt_leaf rfl he
    exact ⟨y, f, h1, fun K' => h2 K', h3, h4, h5, fun hH hv hS cs => h6 hH hv hS x cs⟩
  | .pair a b, x, off, v, _, K, r, he => by
    unfold setAt at he
    split at he
    · rename_i hb
      obtain ⟨y, f, h1, h2, h3, h4, h5, h6⟩ := setAt_ok he
      refine ⟨(y, x.2), f, h1, fun K' => by unfold setAt; simp only [hb]; exact h2 _, h3, h4, by simp only [Ty.cells]; omega, fun hH hv hS cs hr => ?_⟩
      obtain ⟨c1, c2, e, hr1, hr2⟩ := hr
      have := hr1.len
      refine ⟨_, c2, ?_, h6 hH hv hS c1 hr1, hr2⟩
      rw [e, List.set_append_left _ _ (by omega)]
    · rename_i hb
      have hb' : a.cells ≤ off := by
        rcases Nat.lt_or_ge off a.cells with h | h
        · have : Nat.blt off a.cells = true := by simpa [Nat.blt_eq] using h
          rw [this] at hb; cases hb
        · exact h
      obtain ⟨y, f, h1, h2, h3, h4, h5, h6⟩ := setAt_ok he
      refine ⟨(x.1, y), f, h1, fun K' => by unfold setAt; simp only [hb]; exact h2 _, h3, h4, by simp only [Ty.cells]; omega, fun hH hv hS cs hr => ?_⟩
      obtain ⟨c1, c2, e, hr1, hr2⟩ := hr
      have := hr1.len
      refine ⟨c1, _, ?_, hr1, h6 hH hv hS c2 hr2⟩
      rw [e, List.set_append_right _ _ (by omega), this]
def setMany (cs : List Value) (off : Nat) : List Value → List Value
  | [] => cs
  | u :: r => setMany (cs.set off u) (off + 1) r
theorem setMany_eq : ∀ (us : List Value) (cs : List Value) (off : Nat), off + us.length ≤ cs.length → setMany cs off us = cs.take off ++ (us ++ cs.drop (off + us.length))
  | [], cs, off, _ => by simp [setMany]
  | u :: r, cs, off, h => by
    simp only [List.length_cons] at h
    have hl : (cs.take off).length = off := by rw [List.length_take]; omega
    rw [setMany, setMany_eq r _ _ (by rw [List.length_set]; omega), List.set_eq_take_append_cons_drop, if_pos (by omega), List.take_append, hl, List.take_of_length_le (by omega), show off + 1 - off = 1 by omega, List.take_succ_cons, List.take_zero, List.drop_append, hl,
      List.drop_eq_nil_of_le (by omega), List.nil_append, show off + 1 + r.length - off = r.length + 1 by omega, List.drop_succ_cons, List.drop_drop, List.append_assoc]
    simp only [List.cons_append, List.nil_append, List.length_cons]
    rw [show off + 1 + r.length = off + (r.length + 1) by omega]
theorem setAll_ok {h : Nat → Option Blk} {t : Ty} : ∀ {l : List V} {x : t.D} {off : Nat} {α : Type} {K : t.D → List Nat → Option α} {r : α}, setAll h t l x off K = some r →
    ∃ y f, K y f = some r ∧ (∀ {β : Type} (K' : t.D → List Nat → Option β), setAll h t l x off K' = K' y f) ∧ Rows h f ∧ (∀ b ∈ f, b ∈ idsL l) ∧ (l ≠ [] → off + l.length ≤ t.cells) ∧
      ∀ {c : Ctx} {w : World} {vals : List Value} {S' : Nat → Prop}, (∀ b x, h b = some x → BR c w b x) → VRs c w l vals → Held c S' f → ∀ cs, Rd S' w t x cs → Rd S' w t y (setMany cs off vals)
  | [], x, off, _, K, r, he => ⟨x, [], he, fun _ => rfl, (by intro b hb; cases hb), (by intro b hb; cases hb), fun h => absurd rfl h, fun hH hv hS cs hr => by simp only [VRs] at hv; subst hv; exact hr⟩
  | v :: q, x, off, _, K, r, he => by
    unfold setAll at he
    obtain ⟨y, f, h1, h2, h3, h4, h5, h6⟩ := setAt_ok he
    obtain ⟨z, f', k1, k2, k3, k4, k5, k6⟩ := setAll_ok h1
    refine ⟨z, f ++ f', k1, fun K' => by unfold setAll; rw [h2, k2], h3.append k3, fun b hb => ?_, fun _ => ?_, fun hH hv hS cs hr => ?_⟩
    · simp only [idsL, List.mem_append]
      exact (List.mem_append.1 hb).imp (h4 b) (k4 b)
    · simp only [List.length_cons]
      by_cases hq : q = []
      · subst hq; simp; omega
      · have := k5 hq; omega
    · simp only [VRs] at hv
      obtain ⟨u, us, e, hu, hus⟩ := hv
      subst e
      exact k6 hH hus hS.right _ (h6 hH hu hS.left cs hr)
end
end Go.Proofs.YtiacidpjplmgaaaDoorD
