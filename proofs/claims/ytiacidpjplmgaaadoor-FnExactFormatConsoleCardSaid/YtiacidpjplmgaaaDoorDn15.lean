/- Words of this session's own: what goes into a call and comes out of it, on the machine. -/
import Derived.Test.YtiacidpjplmgaaaDoorDn14
set_option linter.unusedVariables false
set_option linter.unusedSimpArgs false
namespace Go.Proofs.YtiacidpjplmgaaaDoorD
section
variable {P : Program} {τ : TT} {α : Type}
theorem toRT_ok : ∀ {ts : List Ty} {l : List Leaf} {α : Type} {K : RT ts → Option α} {r : α}, toRT ts l K = some r → ∃ x, K x = some r ∧ ofRT ts x = l ∧ ∀ {β : Type} (K' : RT ts → Option β), toRT ts l K' = K' x
  | [], l, _, K, r, he => by
    unfold toRT at he
    split at he
    · exact ⟨(), he, rfl, fun _ => rfl⟩
    · cases he
  | [t], l, _, K, r, he => by
    unfold toRT at he
    split at he
    · rename_i a
      obtain ⟨e, h1, h2⟩ := castK_pt he
      obtain ⟨t', x⟩ := a
      dsimp only at e
      subst e
      exact ⟨x, h1, rfl, fun K' => h2 K'⟩
    · cases he
  | t :: u :: ts, l, _, K, r, he => by
    unfold toRT at he
    split at he
    · rename_i a q
      obtain ⟨e, h1, h2⟩ := castK_pt he
      obtain ⟨t', x⟩ := a
      dsimp only at e
      subst e
      obtain ⟨y, k1, k2, k3⟩ := toRT_ok h1
      exact ⟨(x, y), k1, by rw [ofRT, k2], fun K' => by unfold toRT; exact (h2 _).trans (k3 _)⟩
    · cases he
theorem hget_append : ∀ (h1 h2 : Hp) (b : Nat), (∀ x, (b, x) ∉ h1) → hget (h1 ++ h2) b = hget h2 b
  | [], _, _, _ => rfl
  | (d, y) :: r, h2, b, hb => by
    rw [List.cons_append, hget_cons, if_neg (fun e => hb y (by rw [e]; exact List.mem_cons_self))]
    exact hget_append r h2 b (fun x hx => hb x (List.mem_cons_of_mem _ hx))
theorem hget_append_left : ∀ (h1 h2 : Hp) (b : Nat), (∃ x, (b, x) ∈ h1) → hget (h1 ++ h2) b = hget h1 b
  | [], _, _, h => by obtain ⟨x, h⟩ := h; cases h
  | (d, y) :: r, h2, b, hb => by
    rw [List.cons_append, hget_cons, hget_cons]
    by_cases e : d = b
    · rw [if_pos e, if_pos e]
    · rw [if_neg e, if_neg e]
      obtain ⟨x, hx⟩ := hb
      refine hget_append_left r h2 b ⟨x, ?_⟩
      rcases List.mem_cons.1 hx with h | h
      · cases h; exact absurd rfl e
      · exact h
theorem hget_mem {h : Hp} {b : Nat} {x : Blk} (e : hget h b = some x) : ∃ y, (b, y) ∈ h := by
  induction h with
  | nil => cases e
  | cons p r ih =>
    obtain ⟨d, y⟩ := p
    rw [hget_cons] at e
    split at e
    · rename_i hd; subst hd; exact ⟨y, List.mem_cons_self⟩
    · obtain ⟨z, hz⟩ := ih e; exact ⟨z, List.mem_cons_of_mem _ hz⟩
theorem ownAs_sl {h : Nat → Option Blk} {e : Nat} {t : Ty} {v : V} {K : t.D → List Nat → Option α} {r : α} (he : ownAs h e t v K = some r) : ∃ s, t = .sl s := by
  cases t with
  | sl s => exact ⟨s, rfl⟩
  | _ =>
    all_goals
      exfalso
      unfold ownAs at he
      repeat' split at he
      all_goals first
        | (cases he; done)
        | (unfold leafAs at he; cases he; done)
        | (obtain ⟨e1, _⟩ := castK_pt he; cases e1; done)
/-- What an own row or box of the other side stands on: its number there. -/
structure Came (c c1 : Ctx) (w : World) (n m : Nat) (heap : Hp) (E : List (Nat × Nat)) : Prop where
  le : n ≤ m
  mem : ∀ b x, (b, x) ∈ heap → n ≤ b ∧ b < m ∧ ∃ y, x = some y ∧ y.own = true
  get : ∀ b x, hget heap b = some x → c1.M b ∧ BR c1 w b x ∧ ∀ g, vblk (c1.ρ b) = some g → ∃ d, (b, d) ∈ E ∧ vblk (c.ρ d) = some g
theorem Came.append {c c1 c2 : Ctx} {w : World} {n m k : Nat} {h1 h2 : Hp} {E1 E2 : List (Nat × Nat)} (a : Came c c1 w n m h1 E1) (b : Came c c2 w m k h2 E2) (ht : c1.To c2 w w) : Came c c2 w n k (h1 ++ h2) (E1 ++ E2) := by
  refine ⟨Nat.le_trans a.le b.le, fun d x hd => ?_, fun d x hd => ?_⟩
  · rcases List.mem_append.1 hd with h | h
    · obtain ⟨h1, h2, h3⟩ := a.mem d x h; exact ⟨h1, Nat.lt_of_lt_of_le h2 b.le, h3⟩
    · obtain ⟨h1, h2, h3⟩ := b.mem d x h; exact ⟨Nat.le_trans a.le h1, h2, h3⟩
  · by_cases hm : ∃ x, (d, x) ∈ h1
    · rw [hget_append_left _ _ _ hm] at hd
      obtain ⟨k1, k2, k3⟩ := a.get d x hd
      refine ⟨ht.M _ k1, k2.to ht k1 (fun _ _ _ => rfl), fun g hg => ?_⟩
      rw [ht.ρ d k1] at hg
      obtain ⟨q, hq, hq2⟩ := k3 g hg
      exact ⟨q, List.mem_append_left _ hq, hq2⟩
    · rw [hget_append _ _ _ (fun x hx => hm ⟨x, hx⟩)] at hd
      obtain ⟨k1, k2, k3⟩ := b.get d x hd
      refine ⟨k1, k2, fun g hg => ?_⟩
      obtain ⟨q, hq, hq2⟩ := k3 g hg
      exact ⟨q, List.mem_append_right _ hq, hq2⟩
theorem pk_perm {a b c d : List Nat} : ((a ++ b) ++ (c ++ d)).Perm ((a ++ c) ++ (b ++ d)) := by
  rw [List.append_assoc, List.append_assoc]
  refine List.Perm.append_left a ?_
  rw [← List.append_assoc, ← List.append_assoc]
  exact List.Perm.append_right d List.perm_append_comm
structure PassFacts (h : Nat → Option Blk) (p : Pk) : Prop where
  rds : Rows h p.rds
  kill : Rows h p.kill
  rbs : ∀ b ∈ p.rbs, ∃ vs, h b = some (.box vs)
  bxs : ∀ b ∈ p.bxs, ∃ x, h b = some x ∧ x.own = true
theorem PassFacts.add {h : Nat → Option Blk} {p q : Pk} (a : PassFacts h p) (b : PassFacts h q) : PassFacts h (p.add q) :=
  ⟨a.rds.append b.rds, a.kill.append b.kill, fun d hd => (List.mem_append.1 hd).elim (a.rbs d) (b.rbs d), fun d hd => (List.mem_append.1 hd).elim (a.bxs d) (b.bxs d)⟩
def Keep (c c0 : Ctx) (lk : Bool) (p : Pk) : Prop := lk = true → (∀ k, c.S k → c0.S k) ∧ ∀ b ∈ p.rds ++ p.rbs, ∀ g, vblk (c.ρ b) = some g → c0.S g
theorem Keep.left {c c0 : Ctx} {p q : Pk} (h : Keep c c0 true (p.add q)) (lk : Bool) : Keep c c0 lk p := fun _ => ⟨(h rfl).1, fun b hb => (h rfl).2 b (by
  simp only [Pk.add, List.mem_append] at hb ⊢
  rcases hb with hb | hb
  · exact .inl (.inl hb)
  · exact .inr (.inl hb))⟩
theorem Keep.right {c c0 : Ctx} {p q : Pk} (h : Keep c c0 true (p.add q)) (lk : Bool) : Keep c c0 lk q := fun _ => ⟨(h rfl).1, fun b hb => (h rfl).2 b (by
  simp only [Pk.add, List.mem_append] at hb ⊢
  rcases hb with hb | hb
  · exact .inl (.inr hb)
  · exact .inr (.inr hb))⟩
theorem Keep.S {c c0 c1 : Ctx} {lk : Bool} {p : Pk} (h : Keep c c0 lk p) (e : c1.S = c0.S) : Keep c c1 lk p := fun hl => by rw [e]; exact h hl
theorem inD_next (t : Ty) (own : Option Nat) (l l' : List Leaf) (n : Nat) : n ≤ (inD t own l n).next ∧ (inD t own l n).next = (inD t own l' n).next := by
  unfold inD
  repeat' split
  all_goals first
    | exact ⟨Nat.le_refl _, rfl⟩
    | exact ⟨Nat.le_succ _, rfl⟩
    | (exfalso; simp_all; done)
mutual
/-- Numbers hang on the shapes alone. -/
theorem inV_next : ∀ (sh : Sh) (l l' : List Leaf) (n : Nat), n ≤ (sh.inV l n).next ∧ (sh.inV l n).next = (sh.inV l' n).next ∧ bxId (sh.inV l n).v sh = bxId (sh.inV l' n).v sh
  | .d t own, l, l', n => by
    have := inD_next t own l l' n
    refine ⟨by simpa [Sh.inV] using this.1, by simpa [Sh.inV] using this.2, ?_⟩
    have hd : ∀ v, bxId v (.d t own) = [] := fun v => by unfold bxId; split <;> simp_all
    rw [hd, hd]
  | .ag s, l, l', n => by
    have := inVL_next s l l' n
    simp only [Sh.inV, bxId]; exact this
  | .rb s, l, l', n => by
    have := inVL_next s l l' n
    simp only [Sh.inV, bxId]; exact ⟨this.1, this.2.1, trivial⟩
  | .bx s, l, l', n => by
    have := inVL_next s l l' (n + 1)
    simp only [Sh.inV, bxId]; exact ⟨by omega, this.2.1, trivial⟩
  | .fv f a c, l, l', n => by
    have h1 := inVL_next a l l' n
    have h2 := inVL_next c (inVL a l n).rest (inVL a l' n).rest (inVL a l n).next
    simp only [Sh.inV, bxId]
    rw [← h1.2.1]
    exact ⟨Nat.le_trans h1.1 h2.1, h2.2.1, by rw [h1.2.2, h2.2.2]⟩
  | .io e t, l, l', n => by
    have h : ∀ l : List Leaf, (inIo e n l).next = n + 1 ∧ (inIo e n l).v = .ref n := fun l => by unfold inIo; split <;> exact ⟨rfl, rfl⟩
    simp only [Sh.inV, (h l).1, (h l').1, (h l).2, (h l').2]
    exact ⟨Nat.le_succ _, trivial, trivial⟩
  | .nl, l, l', n => by simp only [Sh.inV]; exact ⟨Nat.le_refl _, trivial, trivial⟩
theorem inVL_next : ∀ (sh : List Sh) (l l' : List Leaf) (n : Nat), n ≤ (inVL sh l n).next ∧ (inVL sh l n).next = (inVL sh l' n).next ∧ bxIds (inVL sh l n).vs sh = bxIds (inVL sh l' n).vs sh
  | [], l, l', n => by simp [inVL, bxIds]
  | s :: r, l, l', n => by
    have h1 := inV_next s l l' n
    have h2 := inVL_next r (s.inV l n).rest (s.inV l' n).rest (s.inV l n).next
    simp only [inVL, bxIds]
    rw [← h1.2.1]
    exact ⟨Nat.le_trans h1.1 h2.1, h2.2.1, by rw [h1.2.2, h2.2.2]⟩
end
theorem Pk.flat_ok {p : Pk} {K : Unit → Option α} {r : α} (h : p.flat K = some r) : p.bxs = [] ∧ K () = some r ∧ ∀ {β : Type} (K' : Unit → Option β), p.flat K' = K' () := by
  unfold Pk.flat at h
  split at h
  · rename_i e; exact ⟨e, h, fun K' => by unfold Pk.flat; rw [e]⟩
  · cases h
/-- Boxes to be changed: one number on each side. -/
def Pairs (c c1 : Ctx) : List Nat → List Nat → Prop
  | [], [] => True
  | d :: ds, b :: bs => (c1.M d ∧ c1.ρ d = c.ρ b) ∧ Pairs c c1 ds bs
  | _, _ => False
theorem Pairs.append {c c1 : Ctx} : ∀ {a b a' b' : List Nat}, Pairs c c1 a b → Pairs c c1 a' b' → Pairs c c1 (a ++ a') (b ++ b')
  | [], [], _, _, _, h => h
  | _ :: _, _ :: _, _, _, h, h' => ⟨h.1, h.2.append h'⟩
theorem Pairs.to {c c1 c2 : Ctx} {w w' : World} (ht : c1.To c2 w w') : ∀ {a b : List Nat}, Pairs c c1 a b → Pairs c c2 a b
  | [], [], h => h
  | _ :: _, _ :: _, h => ⟨⟨ht.M _ h.1.1, (ht.ρ _ h.1.1).trans h.1.2⟩, h.2.to ht⟩
mutual
theorem pass_ok {h : Nat → Option Blk} : ∀ {sh : Sh} {v : V} {α : Type} {K : Pk → Option α} {r : α}, sh.pass h v K = some r →
    ∃ p, K p = some r ∧ (∀ {β : Type} (K' : Pk → Option β), sh.pass h v K' = K' p) ∧ PassFacts h p ∧
      ∀ {F : Fr} {c : Ctx} {w : World} {hp : Hp} {val : Value} {c0 : Ctx} {n : Nat} {rest : List Leaf}, HR F c w hp → (∀ b x, h b = some x → hget hp b = some x) → VR c w v val → Keep c c0 sh.leaks p → (∀ b, n ≤ b → b < (sh.inV (p.leaves ++ rest) n).next → ¬ c0.M b) →
        ∃ (c1 : Ctx) (E : List (Nat × Nat)), c0.To c1 w w ∧ c1.S = c0.S ∧ (∀ b, c1.M b → c0.M b ∨ n ≤ b ∧ b < (sh.inV (p.leaves ++ rest) n).next) ∧ (sh.inV (p.leaves ++ rest) n).rest = rest ∧ VR c1 w (sh.inV (p.leaves ++ rest) n).v val ∧
          Came c c1 w n (sh.inV (p.leaves ++ rest) n).next (sh.inV (p.leaves ++ rest) n).heap E ∧ (E.map (·.2)).Perm (p.kill ++ p.bxs) ∧ Pairs c c1 (bxId (sh.inV (p.leaves ++ rest) n).v sh) p.bxs
  | .d t none, v, _, K, r, he => by
    unfold Sh.pass at he
    obtain ⟨x, f, h1, h2, h3, h4, h5⟩ := leafAs_ok he
    refine ⟨_, h1, fun K' => by unfold Sh.pass; exact h2 _, ⟨h3, (by intro b hb; cases hb), (by intro b hb; cases hb), (by intro b hb; cases hb)⟩, fun {F c w hp val c0 n rest} H hh hv hS hn => ⟨c0, [], .refl c0 w, rfl, fun b hb => .inl hb, ?_, ?_, ?_, .refl _, ?_⟩⟩
    · simp [Sh.inV, inD]
    · simp only [Sh.inV, inD, List.cons_append, VR]
      cases hd : t.deep with
      | true =>
        have hk := hS (by simp [Sh.leaks, leakD, hd])
        exact h5 (fun b x hb => (H.blk b x (hh b x hb)).2) hv ⟨hk.1, fun b hb g hg => hk.2 b (List.mem_append_left _ hb) g hg⟩
      | false =>
        exact Rd.flat hd (h5 (S' := fun k => c.S k ∨ ∃ b ∈ f, vblk (c.ρ b) = some k) (fun b x hb => (H.blk b x (hh b x hb)).2) hv ⟨fun k hk => .inl hk, fun b hb g hg => .inr ⟨b, hb, hg⟩⟩)
    · simp only [Sh.inV, inD, List.cons_append]
      exact ⟨Nat.le_refl _, (by intro b x hb; cases hb), (by intro b x hb; cases hb)⟩
    · have hd : ∀ v, bxId v (.d t none) = [] := fun v => by unfold bxId; split <;> simp_all
      rw [hd]; trivial
  | .d t (some e), v, _, K, r, he => by
    unfold Sh.pass at he
    dsimp only at he
    obtain ⟨s, rfl⟩ := ownAs_sl he
    obtain ⟨xs, k, h1, h2, h3, h4, h4', h5⟩ := ownAs_ok he
    refine ⟨_, h1, fun K' => by unfold Sh.pass; dsimp only; exact h2 _, ⟨(by intro b hb; cases hb), h3, (by intro b hb; cases hb), (by intro b hb; cases hb)⟩, fun {F c w hp val c0 n rest} H hh hv hS hn => ?_⟩
    obtain ⟨inner, hf, ho, hs1, hs2⟩ := h5 H hh hv
    have hin : Sh.inV (.d (.sl s) (some e)) ([⟨.sl s, xs⟩] ++ rest) n = ⟨.ref n, rest, [(n, some (.row e s xs))], n + 1⟩ := rfl
    simp only [hin]
    simp only [hin] at hn
    have hf0 : Flat (Rd c0.S w s) xs inner := by
      cases hd : s.deep with
      | true =>
        have hk := hS (by simp [Sh.leaks, leakD, hd])
        exact hf.imp (fun _ _ h => h.move hk.1 (fun _ _ => rfl))
      | false => exact hf.imp (fun _ _ h => h.flat hd)
    refine ⟨c0.ext n val, k.map fun d => (n, d), .ext (hn n (Nat.le_refl _) (Nat.lt_succ_self _)) (fun _ _ => rfl), rfl, fun b hb => hb.imp id (fun e => by subst e; exact ⟨Nat.le_refl _, Nat.lt_succ_self _⟩), trivial, ?_, ⟨Nat.le_succ _, fun b x hb => ?_, fun b x hb => ?_⟩, ?_, ?_⟩
    · simp only [VR]
      exact ⟨.inr rfl, (Ctx.ext_at _ _ _).symm, own_form ho⟩
    · simp at hb; obtain ⟨rfl, rfl⟩ := hb
      exact ⟨Nat.le_refl _, Nat.lt_succ_self _, _, rfl, rfl⟩
    · rw [hget_cons] at hb
      split at hb
      · rename_i e'; subst e'; cases hb
        refine ⟨.inr rfl, ⟨inner, hf0, by rw [Ctx.ext_at]; exact ho⟩, fun g hg => ?_⟩
        rw [Ctx.ext_at] at hg
        obtain ⟨d, hd, hg'⟩ := hs1 g hg
        exact ⟨d, List.mem_map.2 ⟨d, hd, rfl⟩, hg'⟩
      · cases hb
    · rw [List.map_map, List.append_nil]
      have : (fun (x : Nat × Nat) => x.2) ∘ (fun d : Nat => (n, d)) = id := rfl
      rw [this, List.map_id]
    · simp [bxId, Pairs]
  | .ag l, v, _, K, r, he => by
    unfold Sh.pass at he
    split at he
    case h_2 => cases he
    rename_i vs
    obtain ⟨p, h1, h2, h3, h4⟩ := passL_ok he
    refine ⟨p, h1, fun K' => by unfold Sh.pass; exact h2 _, h3, fun {F c w hp val c0 n rest} H hh hv hS hn => ?_⟩
    simp only [VR] at hv
    obtain ⟨cs, rfl, hv⟩ := hv
    obtain ⟨c1, E, k1, k2, k3, k4, k5, k6, k7, k8⟩ := h4 (rest := rest) H hh hv (by simpa [Sh.leaks] using hS) hn
    refine ⟨c1, E, k1, k2, k3, k4, ?_, k6, k7, k8⟩
    simp only [Sh.inV, VR]
    exact ⟨cs, rfl, k5⟩
  | .rb l, v, _, K, r, he => by
    unfold Sh.pass at he
    split at he
    · rename_i b
      split at he
      case h_2 => cases he
      rename_i vs hb
      obtain ⟨p, h1, h2, h3, h4⟩ := passL_ok he
      obtain ⟨hfl, h1, hf2⟩ := Pk.flat_ok h1
      refine ⟨_, h1, fun K' => by unfold Sh.pass; simp only [hb]; exact (h2 _).trans (hf2 _), h3.add ⟨(by intro b hb; cases hb), (by intro b hb; cases hb), (by intro d hd; simp at hd; subst hd; exact ⟨_, hb⟩), (by intro b hb; cases hb)⟩, fun {F c w hp val c0 n rest} H hh hv hS hn => ?_⟩
      have hS' := hS.left (leaksL l)
      simp only [VR] at hv
      obtain ⟨hM, g, e1, e2⟩ := hv
      obtain ⟨_, g', cs, e, m1, m2, m3⟩ := H.blk b _ (hh b _ hb)
      rw [e1] at m1
      simp only [Value.pointer.injEq, Option.some.injEq, Addr.mk.injEq, and_true] at m1
      subst m1; subst e2
      have hle : ((p.add ⟨[], [], [], [b], []⟩).leaves ++ rest) = p.leaves ++ rest := by simp [Pk.add]
      rw [hle] at hn ⊢
      obtain ⟨c1, E, k1, k2, k3, k4, k5, k6, k7, k8⟩ := h4 (rest := rest) H hh m3 hS' hn
      refine ⟨c1, E, k1, k2, k3, k4, ?_, k6, by simpa [Pk.add] using k7, by simp [Pk.add, hfl, Sh.inV, bxId, Pairs]⟩
      simp only [Sh.inV, VR]
      exact ⟨g, cs, e, rfl, by rw [k2]; exact (hS rfl).2 b (by simp [Pk.add]) g (by rw [e1]; rfl), m2, k5⟩
    · rename_i vs
      obtain ⟨p, h1, h2, h3, h4⟩ := passL_ok he
      obtain ⟨hfl, h1, hf2⟩ := Pk.flat_ok h1
      refine ⟨p, h1, fun K' => by unfold Sh.pass; exact (h2 _).trans (hf2 _), h3, fun {F c w hp val c0 n rest} H hh hv hS hn => ?_⟩
      simp only [VR] at hv
      obtain ⟨g, cs, e, rfl, m1, m2, m3⟩ := hv
      obtain ⟨c1, E, k1, k2, k3, k4, k5, k6, k7, k8⟩ := h4 (rest := rest) H hh m3 (fun _ => hS rfl) hn
      refine ⟨c1, E, k1, k2, k3, k4, ?_, k6, k7, by simp [hfl, Sh.inV, bxId, Pairs]⟩
      simp only [Sh.inV, VR]
      exact ⟨g, cs, e, rfl, by rw [k2]; exact (hS rfl).1 g m1, m2, k5⟩
    · cases he
  | .bx l, v, _, K, r, he => by
    unfold Sh.pass at he
    split at he
    case h_2 => cases he
    rename_i b
    split at he
    case h_2 => cases he
    rename_i vs hb
    obtain ⟨p, h1, h2, h3, h4⟩ := passL_ok he
    obtain ⟨hflt, h1, hf2⟩ := Pk.flat_ok h1
    refine ⟨_, h1, fun K' => by unfold Sh.pass; simp only [hb]; exact (h2 _).trans (hf2 _), h3.add ⟨(by intro b hb; cases hb), (by intro b hb; cases hb), (by intro b hb; cases hb), (by intro d hd; simp at hd; subst hd; exact ⟨_, hb, rfl⟩)⟩, fun {F c w hp val c0 n rest} H hh hv hS hn => ?_⟩
    have hS' := hS.left (leaksL l)
    simp only [VR] at hv
    obtain ⟨hM, g, e1, e2⟩ := hv
    obtain ⟨_, g', cs, e, m1, m2, m3⟩ := H.blk b _ (hh b _ hb)
    rw [e1] at m1
    simp only [Value.pointer.injEq, Option.some.injEq, Addr.mk.injEq, and_true] at m1
    subst m1; subst e2
    have hle : ((p.add ⟨[], [], [], [], [b]⟩).leaves ++ rest) = p.leaves ++ rest := by simp [Pk.add]
    rw [hle] at hn ⊢
    have hnx : ((Sh.bx l).inV (p.leaves ++ rest) n).next = (inVL l (p.leaves ++ rest) (n + 1)).next := by simp only [Sh.inV]
    rw [hnx] at hn
    have hmo := (inVL_next l (p.leaves ++ rest) [] (n + 1)).1
    have hn1 : ∀ d, n + 1 ≤ d → d < (inVL l (p.leaves ++ rest) (n + 1)).next → ¬ (c0.ext n (.pointer (some ⟨g, 0, none⟩))).M d := fun d hd hlt h => by
      rcases h with h | h
      · exact hn d (by omega) hlt h
      · omega
    obtain ⟨c1, E, k1, k2, k3, k4, k5, k6, k7, k8⟩ := h4 (c0 := c0.ext n (.pointer (some ⟨g, 0, none⟩))) (rest := rest) H hh m3 (hS'.S rfl) hn1
    have hto0 : c0.To (c0.ext n (.pointer (some ⟨g, 0, none⟩))) w w := .ext (hn n (Nat.le_refl _) (by omega)) (fun _ _ => rfl)
    have hMn : (c0.ext n (.pointer (some ⟨g, 0, none⟩))).M n := .inr rfl
    have hρn : c1.ρ n = .pointer (some ⟨g, 0, none⟩) := by rw [k1.ρ n hMn, Ctx.ext_at]
    simp only [Sh.inV]
    refine ⟨c1, (n, b) :: E, hto0.trans k1, k2, fun d hd => ?_, k4, ?_, ⟨by have := k6.le; omega, fun d x hd => ?_, fun d x hd => ?_⟩, ?_, ?_⟩
    · rcases k3 d hd with h | h
      · rcases h with h | h
        · exact .inl h
        · subst h; have := k6.le; exact .inr ⟨Nat.le_refl _, by omega⟩
      · exact .inr ⟨by omega, h.2⟩
    · simp only [VR]
      exact ⟨k1.M n hMn, g, hρn, rfl⟩
    · rcases List.mem_cons.1 hd with hd | hd
      · cases hd; have := k6.le; exact ⟨Nat.le_refl _, by omega, _, rfl, rfl⟩
      · obtain ⟨q1, q2, q3⟩ := k6.mem d x hd; exact ⟨by omega, q2, q3⟩
    · rw [hget_cons] at hd
      split at hd
      · rename_i e'; subst e'; cases hd
        refine ⟨k1.M n hMn, ⟨g, cs, e, hρn, m2, k5⟩, fun g' hg' => ⟨b, List.mem_cons_self, ?_⟩⟩
        rw [hρn] at hg'; rw [e1]; exact hg'
      · obtain ⟨q1, q2, q3⟩ := k6.get d x hd
        refine ⟨q1, q2, fun g' hg' => ?_⟩
        obtain ⟨z, hz, hz2⟩ := q3 g' hg'
        exact ⟨z, List.mem_cons_of_mem _ hz, hz2⟩
    · simp only [Pk.add, List.map_cons, List.append_nil]
      rw [← List.append_assoc]
      exact (List.Perm.cons b k7).trans (List.perm_append_comm (l₁ := [b]))
    · simp only [Pk.add, hflt, List.nil_append, bxId, Pairs, and_true]
      exact ⟨k1.M n hMn, by rw [hρn, e1]⟩
  | .fv f a k, v, _, K, r, he => by
    unfold Sh.pass at he
    split at he
    case h_2 => cases he
    rename_i f' a' k'
    split at he
    case h_2 => cases he
    rename_i hf
    have hf' := Nat.eq_of_beq_eq_true hf
    subst hf'
    obtain ⟨p, h1, h2, h3, h4⟩ := passL_ok he
    obtain ⟨q, i1, i2, i3, i4⟩ := passL_ok h1
    refine ⟨_, i1, fun K' => by unfold Sh.pass; simp only [hf]; rw [h2, i2], h3.add i3, fun {F c w hp val c0 n rest} H hh hv hS hn => ?_⟩
    simp only [VR] at hv
    obtain ⟨av, kv, rfl, hva, hvk⟩ := hv
    have hle : ((p.add q).leaves ++ rest) = p.leaves ++ (q.leaves ++ rest) := by simp [Pk.add]
    rw [hle] at hn ⊢
    have hmo1 := (inVL_next a (p.leaves ++ (q.leaves ++ rest)) [] n).1
    have hmo2 := (inVL_next k (inVL a (p.leaves ++ (q.leaves ++ rest)) n).rest [] (inVL a (p.leaves ++ (q.leaves ++ rest)) n).next).1
    simp only [Sh.inV] at hn ⊢
    obtain ⟨c1, E, k1, k2, k3, k4, k5, k6, k7, k8⟩ := h4 (rest := q.leaves ++ rest) H hh hva (Keep.left hS _) (fun b hb hlt => hn b hb (by omega))
    rw [k4] at hn hmo2 ⊢
    obtain ⟨c2, E2, l1, l2, l3, l4, l5, l6, l7, l8⟩ := i4 (c0 := c1) (rest := rest) H hh hvk ((Keep.right hS _).S k2) (fun b hb hlt h => by
      rcases k3 b h with h | h
      · exact hn b (Nat.le_trans k6.le hb) hlt h
      · omega)
    refine ⟨c2, E ++ E2, k1.trans l1, l2.trans k2, fun b hb => ?_, l4, ?_, k6.append l6 l1, ?_, (k8.to l1).append l8⟩
    · rcases l3 b hb with h | h
      · rcases k3 b h with h | h
        · exact .inl h
        · exact .inr ⟨h.1, Nat.lt_of_lt_of_le h.2 l6.le⟩
      · exact .inr ⟨Nat.le_trans k6.le h.1, h.2⟩
    · simp only [VR]
      exact ⟨av, kv, rfl, k5.to l1, l5⟩
    · rw [List.map_append]
      exact (k7.append l7).trans pk_perm
  | .nl, v, _, K, r, he => by
    unfold Sh.pass at he
    split at he
    case h_2 => cases he
    refine ⟨_, he, fun K' => by unfold Sh.pass; rfl, ⟨(by intro b hb; cases hb), (by intro b hb; cases hb), (by intro b hb; cases hb), (by intro b hb; cases hb)⟩, fun {F c w hp val c0 n rest} H hh hv hS hn => ⟨c0, [], .refl c0 w, rfl, fun b hb => .inl hb, rfl, ?_, ⟨Nat.le_refl _, (by intro b x hb; cases hb), (by intro b x hb; cases hb)⟩, .refl _, ?_⟩⟩
    · simp only [Sh.inV, VR] at hv ⊢; exact hv
    · simp [Sh.inV, bxId, Pairs]
  | .io e s, v, _, K, r, he => by
    unfold Sh.pass at he
    split at he
    case h_2 => cases he
    rename_i b
    split at he
    case h_2 => cases he
    rename_i e' t' xs hb
    split at he
    case h_2 => cases he
    rename_i hee
    have := Nat.eq_of_beq_eq_true hee
    subst this
    obtain ⟨ht, h1, h2⟩ := castK_pt he
    cases ht
    refine ⟨_, h1, fun K' => by unfold Sh.pass; simp only [hb, hee]; exact h2 _, ⟨(by intro b hb; cases hb), (by intro b hb; cases hb), (by intro b hb; cases hb), (by intro d hd; simp at hd; subst hd; exact ⟨_, hb, rfl⟩)⟩, fun {F c w hp val c0 n rest} H hh hv hS hn => ?_⟩
    have hin : Sh.inV (.io e' s) ([⟨.sl s, xs⟩] ++ rest) n = ⟨.ref n, rest, [(n, some (.row e' s xs))], n + 1⟩ := rfl
    simp only [hin] at hn ⊢
    simp only [VR] at hv
    obtain ⟨hM, hval, _⟩ := hv
    subst hval
    obtain ⟨inner, hf, ho⟩ := (H.blk b _ (hh b _ hb)).2
    have hk := hS rfl
    refine ⟨c0.ext n (c.ρ b), [(n, b)], .ext (hn n (Nat.le_refl _) (Nat.lt_succ_self _)) (fun _ _ => rfl), rfl, fun d hd => hd.imp id (fun e => by subst e; exact ⟨Nat.le_refl _, Nat.lt_succ_self _⟩), trivial, ?_, ⟨Nat.le_succ _, fun d x hd => ?_, fun d x hd => ?_⟩, .refl _, ?_⟩
    · simp only [VR]
      exact ⟨.inr rfl, (Ctx.ext_at _ _ _).symm, own_form ho⟩
    · simp at hd; obtain ⟨rfl, rfl⟩ := hd
      exact ⟨Nat.le_refl _, Nat.lt_succ_self _, _, rfl, rfl⟩
    · rw [hget_cons] at hd
      split at hd
      · rename_i e1; subst e1; cases hd
        refine ⟨.inr rfl, ⟨inner, hf.imp (fun _ _ h => h.move hk.1 (fun _ _ => rfl)), by rw [Ctx.ext_at]; exact ho⟩, fun g hg => ?_⟩
        rw [Ctx.ext_at] at hg
        exact ⟨b, by simp, hg⟩
      · cases hd
    · simp only [bxId, Pairs, and_true]
      exact ⟨.inr rfl, Ctx.ext_at _ _ _⟩
theorem passL_ok {h : Nat → Option Blk} : ∀ {shs : List Sh} {vs : List V} {α : Type} {K : Pk → Option α} {r : α}, passL h shs vs K = some r →
    ∃ p, K p = some r ∧ (∀ {β : Type} (K' : Pk → Option β), passL h shs vs K' = K' p) ∧ PassFacts h p ∧
      ∀ {F : Fr} {c : Ctx} {w : World} {hp : Hp} {vals : List Value} {c0 : Ctx} {n : Nat} {rest : List Leaf}, HR F c w hp → (∀ b x, h b = some x → hget hp b = some x) → VRs c w vs vals → Keep c c0 (leaksL shs) p → (∀ b, n ≤ b → b < (inVL shs (p.leaves ++ rest) n).next → ¬ c0.M b) →
        ∃ (c1 : Ctx) (E : List (Nat × Nat)), c0.To c1 w w ∧ c1.S = c0.S ∧ (∀ b, c1.M b → c0.M b ∨ n ≤ b ∧ b < (inVL shs (p.leaves ++ rest) n).next) ∧ (inVL shs (p.leaves ++ rest) n).rest = rest ∧ VRs c1 w (inVL shs (p.leaves ++ rest) n).vs vals ∧
          Came c c1 w n (inVL shs (p.leaves ++ rest) n).next (inVL shs (p.leaves ++ rest) n).heap E ∧ (E.map (·.2)).Perm (p.kill ++ p.bxs) ∧ Pairs c c1 (bxIds (inVL shs (p.leaves ++ rest) n).vs shs) p.bxs
  | [], vs, _, K, r, he => by
    unfold passL at he
    split at he
    case h_2 => cases he
    refine ⟨_, he, fun K' => rfl, ⟨(by intro b hb; cases hb), (by intro b hb; cases hb), (by intro b hb; cases hb), (by intro b hb; cases hb)⟩, fun {F c w hp vals c0 n rest} H hh hv hS hn => ⟨c0, [], .refl c0 w, rfl, fun b hb => .inl hb, rfl, ?_, ⟨Nat.le_refl _, (by intro b x hb; cases hb), (by intro b x hb; cases hb)⟩, .refl _, (by simp [inVL, bxIds, Pairs])⟩⟩
    simpa [VRs, inVL] using hv
  | s :: q, vs, _, K, r, he => by
    unfold passL at he
    split at he
    case h_2 => cases he
    rename_i v vq
    obtain ⟨p, h1, h2, h3, h4⟩ := pass_ok he
    obtain ⟨p', i1, i2, i3, i4⟩ := passL_ok h1
    refine ⟨_, i1, fun K' => by unfold passL; dsimp only; rw [h2, i2], h3.add i3, fun {F c w hp vals c0 n rest} H hh hv hS hn => ?_⟩
    simp only [VRs] at hv
    obtain ⟨x, qv, rfl, hx, hq⟩ := hv
    have hle : ((p.add p').leaves ++ rest) = p.leaves ++ (p'.leaves ++ rest) := by simp [Pk.add]
    rw [hle] at hn ⊢
    have hmo1 := (inV_next s (p.leaves ++ (p'.leaves ++ rest)) [] n).1
    have hmo2 := (inVL_next q (s.inV (p.leaves ++ (p'.leaves ++ rest)) n).rest [] (s.inV (p.leaves ++ (p'.leaves ++ rest)) n).next).1
    simp only [inVL] at hn ⊢
    have hS1 : Keep c c0 s.leaks p := fun hl => by
      have := hS (by unfold leaksL; rw [hl])
      exact Keep.left (p := p) (q := p') (fun _ => this) _ hl
    have hS2 : Keep c c0 (leaksL q) p' := fun hl => by
      have := hS (by unfold leaksL; rw [hl]; split <;> rfl)
      exact Keep.right (p := p) (q := p') (fun _ => this) _ hl
    obtain ⟨c1, E, k1, k2, k3, k4, k5, k6, k7, k8⟩ := h4 (rest := p'.leaves ++ rest) H hh hx hS1 (fun b hb hlt => hn b hb (by omega))
    rw [k4] at hn hmo2 ⊢
    obtain ⟨c2, E2, l1, l2, l3, l4, l5, l6, l7, l8⟩ := i4 (c0 := c1) (rest := rest) H hh hq (hS2.S k2) (fun b hb hlt h => by
      rcases k3 b h with h | h
      · exact hn b (Nat.le_trans k6.le hb) hlt h
      · omega)
    refine ⟨c2, E ++ E2, k1.trans l1, l2.trans k2, fun b hb => ?_, l4, ?_, k6.append l6 l1, ?_, (k8.to l1).append l8⟩
    · rcases l3 b hb with h | h
      · rcases k3 b h with h | h
        · exact .inl h
        · exact .inr ⟨h.1, Nat.lt_of_lt_of_le h.2 l6.le⟩
      · exact .inr ⟨Nat.le_trans k6.le h.1, h.2⟩
    · simp only [VRs]
      exact ⟨x, qv, rfl, k5.to l1, l5⟩
    · rw [List.map_append]
      exact (k7.append l7).trans pk_perm
end
end
end Go.Proofs.YtiacidpjplmgaaaDoorD
