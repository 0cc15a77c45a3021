/- Words of this session's own: what the machine's values and cells stand for. -/
import Derived.Test.YtiacidpjplmgaaaDoorDn2
import Derived.Laws.Rows
import Derived.Laws.OwnMore
import Derived.Maps.AppendAt
import Derived.Deep.MidRow
set_option linter.unusedVariables false
set_option linter.unusedSimpArgs false
namespace Go.Proofs.YtiacidpjplmgaaaDoorD

/-! ### Lists laid flat -/
section
variable {α : Type} {p q : α → List Value → Prop}
def Flat (p : α → List Value → Prop) : List α → List Value → Prop
  | [], l => l = []
  | x :: xs, l => ∃ c r, l = c ++ r ∧ p x c ∧ Flat p xs r
theorem Flat.imp (h : ∀ x c, p x c → q x c) : ∀ {xs l}, Flat p xs l → Flat q xs l
  | [], _, e => e
  | _ :: _, _, ⟨c, r, e, hp, hr⟩ => ⟨c, r, e, h _ _ hp, hr.imp h⟩
theorem Flat.append : ∀ {xs ys l m}, Flat p xs l → Flat p ys m → Flat p (xs ++ ys) (l ++ m)
  | [], _, _, _, e, h => by cases e; simpa using h
  | x :: xs, _, _, _, ⟨c, r, e, hp, hr⟩, h => ⟨c, r ++ _, by rw [e, List.append_assoc], hp, hr.append h⟩
theorem Flat.len {n : Nat} (hn : ∀ x c, p x c → c.length = n) : ∀ {xs l}, Flat p xs l → l.length = xs.length * n
  | [], _, e => by cases e; simp
  | x :: xs, _, ⟨c, r, e, hp, hr⟩ => by rw [e, List.length_append, hn _ _ hp, hr.len hn, List.length_cons, Nat.succ_mul, Nat.add_comm]
theorem Flat.get {n : Nat} (hn : ∀ x c, p x c → c.length = n) : ∀ {xs l}, Flat p xs l → ∀ j x, xs[j]? = some x → ∃ c, p x c ∧ ∀ i u, c[i]? = some u → l[j * n + i]? = some u
  | [], _, _, j, x, h => by simp at h
  | y :: xs, _, ⟨c, r, e, hp, hr⟩, 0, x, h => by
    simp at h; subst h
    refine ⟨c, hp, fun i u hu => ?_⟩
    rw [e, Nat.zero_mul, Nat.zero_add, List.getElem?_append_left (List.getElem?_eq_some_iff.1 hu).1]; exact hu
  | y :: xs, _, ⟨c, r, e, hp, hr⟩, j + 1, x, h => by
    obtain ⟨c', hp', hc'⟩ := hr.get hn j x (by simpa using h)
    refine ⟨c', hp', fun i u hu => ?_⟩
    have hl := hn _ _ hp
    rw [e, Nat.succ_mul, List.getElem?_append_right (by omega), hl, show j * n + n + i - n = j * n + i by omega]
    exact hc' i u hu
theorem Flat.take {n : Nat} (hn : ∀ x c, p x c → c.length = n) : ∀ {xs l}, Flat p xs l → ∀ k, Flat p (xs.take k) (l.take (k * n))
  | [], _, e, k => by cases e; simp [Flat]
  | x :: xs, _, ⟨c, r, e, hp, hr⟩, 0 => by simp [Flat]
  | x :: xs, _, ⟨c, r, e, hp, hr⟩, k + 1 => by
    have hl := hn _ _ hp
    refine ⟨c, r.take (k * n), ?_, hp, hr.take hn k⟩
    rw [e, List.take_append, Nat.succ_mul, hl, List.take_of_length_le (by omega), show k * n + n - n = k * n by omega]
theorem Flat.drop {n : Nat} (hn : ∀ x c, p x c → c.length = n) : ∀ {xs l}, Flat p xs l → ∀ k, Flat p (xs.drop k) (l.drop (k * n))
  | [], _, e, k => by cases e; simp [Flat]
  | x :: xs, _, h, 0 => by simpa using h
  | x :: xs, _, ⟨c, r, e, hp, hr⟩, k + 1 => by
    have hl := hn _ _ hp
    have := hr.drop hn k
    rw [List.drop_succ_cons, e, Nat.succ_mul, List.drop_append, hl, show k * n + n - n = k * n by omega, List.drop_eq_nil_of_le (as := c) (by omega), List.nil_append]
    exact this
theorem Flat.set {n : Nat} (hn : ∀ x c, p x c → c.length = n) : ∀ {xs l}, Flat p xs l → ∀ j y d, j < xs.length → p y d → Flat p (xs.set j y) (l.take (j * n) ++ (d ++ l.drop (j * n + n)))
  | [], _, _, j, y, d, h, _ => by simp at h
  | x :: xs, _, ⟨c, r, e, hp, hr⟩, 0, y, d, h, hd => by
    have hl := hn _ _ hp
    refine ⟨d, r, ?_, hd, hr⟩
    rw [e, Nat.zero_mul, Nat.zero_add, List.take_zero, List.nil_append, ← hl, List.drop_left]
  | x :: xs, _, ⟨c, r, e, hp, hr⟩, j + 1, y, d, h, hd => by
    have hl := hn _ _ hp
    refine ⟨c, _, ?_, hp, hr.set hn j y d (by simpa using h) hd⟩
    rw [e, Nat.succ_mul, List.take_append, hl, List.take_of_length_le (by omega), show j * n + n - n = j * n by omega, List.drop_append, List.drop_eq_nil_of_le (by omega), hl, List.nil_append, show j * n + n + n - n = j * n + n by omega, List.append_assoc]
theorem Flat.nil_iff {l : List Value} : Flat p [] l ↔ l = [] := Iff.rfl
theorem Flat.replicate {x : α} {c : List Value} (h : p x c) : ∀ n, Flat p (List.replicate n x) (List.replicate n c).flatten
  | 0 => by simp [Flat]
  | n + 1 => by rw [List.replicate_succ, List.replicate_succ, List.flatten_cons]; exact ⟨c, _, rfl, h, Flat.replicate h n⟩
theorem Flat.one (h1 : ∀ x c, p x c → ∀ u ∈ c, Value.oneCell' u = true) : ∀ {xs l}, Flat p xs l → ∀ u ∈ l, u.oneCell' = true
  | [], _, e, u, h => by cases e; simp at h
  | x :: xs, _, ⟨c, r, e, hp, hr⟩, u, h => by
    rw [e] at h
    rcases List.mem_append.1 h with h | h
    · exact h1 _ _ hp u h
    · exact hr.one h1 u h
end

/-! ### Data that is read; S: the blocks that stay as they are -/
def Rd (S : Nat → Prop) (w : World) : (t : Ty) → t.D → List Value → Prop
  | .int k, x, cs => cs = [.int k x]
  | .bool, x, cs => cs = [.bool x]
  | .str, x, cs => cs = [.string x]
  | .fn, x, cs => cs = [.nilFunc]
  | .sl t, xs, cs => ∃ A cap inner, cs = [.slice A (List.length (α := t.D) xs) cap] ∧ (List.length (α := t.D) xs ≤ cap ∧ (A = none → cap = 0)) ∧ Flat (Rd S w t) xs inner ∧ (inner ≠ [] → ∃ ad, A = some ad ∧ S ad.block ∧ ∀ j u, inner[j]? = some u → w.cell? (ad.add j) = some u)
  | .pair a b, x, cs => ∃ c d, cs = c ++ d ∧ Rd S w a x.1 c ∧ Rd S w b x.2 d
theorem Ty.cells_pos : ∀ t : Ty, 0 < t.cells
  | .int _ | .bool | .str | .fn | .sl _ => by simp [Ty.cells]
  | .pair a b => by have := Ty.cells_pos a; simp only [Ty.cells]; omega
theorem cell_congr {w w' : World} {a : Addr} (h : w'.heap[a.block]? = w.heap[a.block]?) : w'.cell? a = w.cell? a := by unfold World.cell?; rw [h]
theorem add_block (a : Addr) (n : Nat) : (a.add n).block = a.block := by unfold Addr.add; split <;> rfl
section
variable {S S' : Nat → Prop} {w w' : World}
theorem Rd.len : ∀ {t : Ty} {x : t.D} {c : List Value}, Rd S w t x c → c.length = t.cells
  | .int _, _, _, h | .bool, _, _, h | .str, _, _, h | .fn, _, _, h => by cases h; rfl
  | .sl _, _, _, ⟨_, _, _, e, _⟩ => by cases e; rfl
  | .pair a b, _, _, ⟨c, d, e, h1, h2⟩ => by rw [e, List.length_append, h1.len, h2.len]; rfl
theorem Rd.one : ∀ {t : Ty} {x : t.D} {c : List Value}, Rd S w t x c → ∀ u ∈ c, u.oneCell' = true
  | .int _, _, _, h, u, hu | .bool, _, _, h, u, hu | .str, _, _, h, u, hu | .fn, _, _, h, u, hu => by cases h; simp at hu; subst hu; rfl
  | .sl _, _, _, ⟨_, _, _, e, _⟩, u, hu => by cases e; simp at hu; subst hu; rfl
  | .pair a b, _, _, ⟨c, d, e, h1, h2⟩, u, hu => by
    rw [e] at hu
    rcases List.mem_append.1 hu with hu | hu
    · exact h1.one u hu
    · exact h2.one u hu
theorem Rd.move (hS : ∀ k, S k → S' k) (hw : ∀ k, S k → w'.heap[k]? = w.heap[k]?) : ∀ {t : Ty} {x : t.D} {c : List Value}, Rd S w t x c → Rd S' w' t x c
  | .int _, _, _, h | .bool, _, _, h | .str, _, _, h | .fn, _, _, h => h
  | .sl t, _, _, ⟨A, cap, inner, e, hc, hf, hr⟩ => ⟨A, cap, inner, e, hc, hf.imp (fun x c h => Rd.move hS hw h), fun hi => by
      obtain ⟨ad, ha, hs, hcell⟩ := hr hi
      exact ⟨ad, ha, hS _ hs, fun j u hu => (cell_congr (by rw [add_block]; exact hw _ hs)).trans (hcell j u hu)⟩⟩
  | .pair a b, _, _, ⟨c, d, e, h1, h2⟩ => ⟨c, d, e, h1.move hS hw, h2.move hS hw⟩
end
def zcells : Ty → List Value
  | .int k => [.int k 0]
  | .bool => [.bool false]
  | .str => [.string ByteArray.empty]
  | .fn => [.nilFunc]
  | .sl _ => [.slice none 0 0]
  | .pair a b => zcells a ++ zcells b
theorem Rd.zero (S : Nat → Prop) (w : World) : ∀ t : Ty, Rd S w t t.dflt (zcells t)
  | .int _ | .bool | .str | .fn => rfl
  | .sl t => ⟨none, 0, [], rfl, ⟨Nat.le_refl _, fun _ => rfl⟩, rfl, fun h => absurd rfl h⟩
  | .pair a b => ⟨_, _, rfl, Rd.zero S w a, Rd.zero S w b⟩

/-! ### Values; ρ: what a row's or a box's number stands for; M: the numbers in use -/
structure Ctx where
  S : Nat → Prop
  ρ : Nat → Value
  M : Nat → Prop
mutual
def VR (c : Ctx) (w : World) : V → Value → Prop
  | .undef, _ => True
  | .nil, v => v = .slice none 0 0
  | .val t x, v => Rd c.S w t x [v]
  | .prop p d, v => v = .bool (@decide p d)
  | .ref b, v => c.M b ∧ v = c.ρ b ∧ ∃ A n cap, v = .slice A n cap
  | .sub t b lo n, v => c.M b ∧ ((c.ρ b = .slice none 0 0 ∧ lo = 0 ∧ n = 0 ∧ v = .slice none 0 0) ∨ ∃ (g m cap : Nat) (A : Addr), c.ρ b = .slice (some ⟨g, 0, none⟩) m cap ∧ lo + n ≤ m ∧ m ≤ cap ∧ v = .slice (some A) n (cap - lo) ∧ A.block = g ∧ (lo < cap ∨ lo = 0 → A = ⟨g, lo * t.cells, none⟩))
  | .ptr b off, v => c.M b ∧ ∃ g, c.ρ b = .pointer (some ⟨g, 0, none⟩) ∧ v = .pointer (some ⟨g, off, none⟩)
  | .eptr t b i off, v => c.M b ∧ ∃ g n cap, c.ρ b = .slice (some ⟨g, 0, none⟩) n cap ∧ i < n ∧ v = .pointer (some ⟨g, i * t.cells + off, none⟩)
  | .rptr t x off, v => ∃ (a : Addr) (cs : List Value), v = .pointer (some (a.add off)) ∧ c.S a.block ∧ Rd c.S w t x cs ∧ ∀ i u, cs[i]? = some u → w.cell? (a.add i) = some u
  | .cptr vs off, v => ∃ (g : Nat) (cs : Array Value) (e : Nat), v = .pointer (some ⟨g, off, none⟩) ∧ c.S g ∧ w.heap[g]? = some (.cells cs e (0, 0)) ∧ VRs c w vs cs.toList
  | .agg l, v => ∃ cs, v = .agg cs ∧ VRs c w l cs.toList
  | .tup l, v => ∃ vs, v = .tuple vs ∧ VRs c w l vs.toList
  | .fn f a k, v => ∃ a' k', v = .func (.func f) a' k' ∧ VRs c w a a'.toList ∧ VRs c w k k'.toList
def VRs (c : Ctx) (w : World) : List V → List Value → Prop
  | [], l => l = []
  | v :: r, l => ∃ x q, l = x :: q ∧ VR c w v x ∧ VRs c w r q
end

theorem add_add (a : Addr) (i j : Nat) : (a.add i).add j = a.add (i + j) := by
  unfold Addr.add
  repeat' split
  all_goals (first | rfl | omega | (simp_all; done) | (simp_all; omega) | skip)
theorem add_mid (g o n : Nat) : (⟨g, o, none⟩ : Addr).add n = ⟨g, o + n, none⟩ := by unfold Addr.add; split <;> simp_all

/-- One setting goes over into another. -/
structure Ctx.To (c c' : Ctx) (w w' : World) : Prop where
  S : ∀ k, c.S k → c'.S k
  M : ∀ b, c.M b → c'.M b
  ρ : ∀ b, c.M b → c'.ρ b = c.ρ b
  heap : ∀ k, c.S k → w'.heap[k]? = w.heap[k]?
theorem Ctx.To.refl (c : Ctx) (w : World) : c.To c w w := ⟨fun _ h => h, fun _ h => h, fun _ _ => rfl, fun _ _ => rfl⟩
theorem Ctx.To.trans {a b c : Ctx} {u v w : World} (h : a.To b u v) (k : b.To c v w) : a.To c u w :=
  ⟨fun x hx => k.S x (h.S x hx), fun x hx => k.M x (h.M x hx), fun x hx => (k.ρ x (h.M x hx)).trans (h.ρ x hx), fun x hx => (k.heap x (h.S x hx)).trans (h.heap x hx)⟩
section
variable {c c' : Ctx} {w w' : World}
mutual
theorem VR.to (h : c.To c' w w') : ∀ {v : V} {x : Value}, VR c w v x → VR c' w' v x
  | .undef, _, _ => by simp only [VR]
  | .nil, _, e => by simp only [VR] at e ⊢; exact e
  | .val t y, _, e => by simp only [VR] at e ⊢; exact e.move h.S h.heap
  | .prop p d, _, e => by simp only [VR] at e ⊢; exact e
  | .ref b, _, e => by simp only [VR] at e ⊢; exact ⟨h.M _ e.1, by rw [h.ρ _ e.1]; exact e.2⟩
  | .sub t b lo n, _, e => by simp only [VR] at e ⊢; exact ⟨h.M _ e.1, by rw [h.ρ _ e.1]; exact e.2⟩
  | .ptr b off, _, e => by simp only [VR] at e ⊢; exact ⟨h.M _ e.1, by rw [h.ρ _ e.1]; exact e.2⟩
  | .eptr t b i off, _, e => by simp only [VR] at e ⊢; exact ⟨h.M _ e.1, by rw [h.ρ _ e.1]; exact e.2⟩
  | .rptr t y off, _, e => by
    simp only [VR] at e ⊢
    obtain ⟨a, cs, e, hs, hr, hc⟩ := e
    exact ⟨a, cs, e, h.S _ hs, hr.move h.S h.heap, fun i u hu => (cell_congr (by rw [add_block]; exact h.heap _ hs)).trans (hc i u hu)⟩
  | .cptr vs off, _, e => by
    simp only [VR] at e ⊢
    obtain ⟨g, cs, ty, e, hs, hh, hv⟩ := e
    exact ⟨g, cs, ty, e, h.S _ hs, (h.heap _ hs).trans hh, VRs.to h hv⟩
  | .agg l, _, e => by simp only [VR] at e ⊢; obtain ⟨cs, e, hv⟩ := e; exact ⟨cs, e, VRs.to h hv⟩
  | .tup l, _, e => by simp only [VR] at e ⊢; obtain ⟨cs, e, hv⟩ := e; exact ⟨cs, e, VRs.to h hv⟩
  | .fn f a k, _, e => by simp only [VR] at e ⊢; obtain ⟨a', k', e, h1, h2⟩ := e; exact ⟨a', k', e, VRs.to h h1, VRs.to h h2⟩
theorem VRs.to (h : c.To c' w w') : ∀ {v : List V} {x : List Value}, VRs c w v x → VRs c' w' v x
  | [], _, e => by simp only [VRs] at e ⊢; exact e
  | v :: r, _, e => by simp only [VRs] at e ⊢; obtain ⟨x, q, e, h1, h2⟩ := e; exact ⟨x, q, e, VR.to h h1, VRs.to h h2⟩
end
theorem VRs.len : ∀ {vs : List V} {l : List Value}, VRs c w vs l → l.length = vs.length
  | [], _, e => by simp only [VRs] at e; cases e; rfl
  | v :: r, _, e => by simp only [VRs] at e; obtain ⟨x, q, e, _, h2⟩ := e; rw [e, List.length_cons, h2.len]; rfl
theorem VRs.append : ∀ {vs us : List V} {l m : List Value}, VRs c w vs l → VRs c w us m → VRs c w (vs ++ us) (l ++ m)
  | [], _, _, _, e, h => by simp only [VRs] at e; cases e; exact h
  | v :: r, _, _, _, e, h => by simp only [VRs, List.cons_append] at e ⊢; obtain ⟨x, q, e, h1, h2⟩ := e; exact ⟨x, q ++ _, by rw [e]; rfl, h1, h2.append h⟩
theorem VRs.take : ∀ {vs : List V} {l : List Value}, VRs c w vs l → ∀ n, VRs c w (vs.take n) (l.take n)
  | _, _, _, 0 => by simp [VRs]
  | [], _, e, n + 1 => by simp only [VRs] at e; cases e; simp [VRs]
  | v :: r, _, e, n + 1 => by simp only [VRs] at e; obtain ⟨x, q, e, h1, h2⟩ := e; rw [e, List.take_succ_cons, List.take_succ_cons]; simp only [VRs]; exact ⟨x, _, rfl, h1, h2.take n⟩
theorem VRs.drop : ∀ {vs : List V} {l : List Value}, VRs c w vs l → ∀ n, VRs c w (vs.drop n) (l.drop n)
  | _, _, h, 0 => h
  | [], _, e, n + 1 => by simp only [VRs] at e; cases e; simp [VRs]
  | v :: r, _, e, n + 1 => by simp only [VRs] at e; obtain ⟨x, q, e, h1, h2⟩ := e; rw [e, List.drop_succ_cons, List.drop_succ_cons]; exact h2.drop n
theorem VRs.get : ∀ {vs : List V} {l : List Value}, VRs c w vs l → ∀ (n : Nat) (v : V), vs[n]? = some v → ∃ x : Value, l[n]? = some x ∧ VR c w v x
  | [], _, _, n, v, h => by simp at h
  | u :: r, _, e, 0, v, h => by simp only [VRs] at e; obtain ⟨x, q, e, h1, h2⟩ := e; simp at h; subst h; exact ⟨x, by rw [e]; rfl, h1⟩
  | u :: r, _, e, n + 1, v, h => by simp only [VRs] at e; obtain ⟨x, q, e, h1, h2⟩ := e; rw [e]; simpa using h2.get n v (by simpa using h)
theorem VRs.one {v : V} {x : Value} (h : VR c w v x) : VRs c w [v] [x] := by simp only [VRs]; exact ⟨x, [], rfl, h, rfl⟩
theorem VR.leaves : ∀ {t : Ty} {x : t.D} {cs : List Value}, Rd c.S w t x cs → VRs c w (leaves t x) cs
  | .int _, _, _, h | .bool, _, _, h | .str, _, _, h | .fn, _, _, h => by
    cases h; simp only [Go.Proofs.YtiacidpjplmgaaaDoorD.leaves]; exact VRs.one (by simp only [VR] <;> rfl)
  | .sl t, x, cs, h => by
    have h' := h
    obtain ⟨A, cap, inner, e, _⟩ := h
    subst e; simp only [Go.Proofs.YtiacidpjplmgaaaDoorD.leaves]; exact VRs.one (by simp only [VR]; exact h')
  | .pair a b, x, cs, ⟨c1, c2, e, h1, h2⟩ => by subst e; simp only [Go.Proofs.YtiacidpjplmgaaaDoorD.leaves]; exact (VR.leaves h1).append (VR.leaves h2)
theorem VR.zeros : ∀ t : Ty, VRs c w (zeros t) (zcells t)
  | .int _ | .bool | .str | .fn | .sl _ => by simp only [Go.Proofs.YtiacidpjplmgaaaDoorD.zeros, zcells]; exact VRs.one (by simp only [VR] <;> rfl)
  | .pair a b => by simp only [Go.Proofs.YtiacidpjplmgaaaDoorD.zeros, zcells]; exact (VR.zeros a).append (VR.zeros b)
theorem leaves_len : ∀ (t : Ty) (x : t.D), (leaves t x).length = t.cells
  | .int _, _ | .bool, _ | .str, _ | .fn, _ | .sl _, _ => rfl
  | .pair a b, x => by simp only [Go.Proofs.YtiacidpjplmgaaaDoorD.leaves, List.length_append, leaves_len a, leaves_len b, Ty.cells]
theorem zeros_len : ∀ t : Ty, (zeros t).length = t.cells
  | .int _ | .bool | .str | .fn | .sl _ => rfl
  | .pair a b => by simp only [Go.Proofs.YtiacidpjplmgaaaDoorD.zeros, List.length_append, zeros_len a, zeros_len b, Ty.cells]
end

/-! ### Rows and boxes -/
def vblk : Value → Option Nat
  | .slice (some a) _ _ => some a.block
  | .pointer (some a) => some a.block
  | _ => none
def BR (c : Ctx) (w : World) (b : Nat) : Blk → Prop
  | .row e t xs => ∃ inner, Flat (Rd c.S w t) xs inner ∧ w.ownsRow 0 e t.cells (c.ρ b) xs.length inner
  | .frz t xs => Rd c.S w (.sl t) xs [c.ρ b] ∧ (c.ρ b = .slice none 0 0 ∨ ∃ (g n cap : Nat), c.ρ b = .slice (some ⟨g, 0, none⟩) n cap)
  | .box vs => ∃ (g : Nat) (cs : Array Value) (e : Nat), c.ρ b = .pointer (some ⟨g, 0, none⟩) ∧ w.heap[g]? = some (.cells cs e (0, 0)) ∧ VRs c w vs cs.toList
  | .bys xs => ∃ (g cap : Nat) (cur : Array Value) (e : Nat) (fz : Nat × Nat), c.ρ b = .slice (some ⟨g, 0, none⟩) xs.length cap ∧ w.heap[g]? = some (.cells cur e fz) ∧ cur.size ≤ fz.1 ∧ xs.length ≤ cap ∧ ∀ (j : Nat) (u : Int), xs[j]? = some u → cur[j]? = some (.int .u8 u)
def Blk.own : Blk → Bool
  | .frz _ _ => false
  | _ => true
/-! ### Variables of the library that a contract asks of: they lie in the blocks below GN -/
def GN : Nat := 2
def GP (h : Array Obj) : Prop := (∃ (cs : Array Value) (t : TypeId) (f : Nat × Nat) (m : Int), h[1]? = some (Obj.cells cs t f) ∧ cs[0]? = some (Value.int .i64 m)) ∧ ∃ (t : TypeId) (f : Nat × Nat), h[0]? = some (Obj.cells ((List.range 20).map fun i => Value.int .u64 ((10 ^ i : Nat) : Int)).toArray t f)
theorem GP_stable {h h' : Array Obj} (e : ∀ k, k < GN → h'[k]? = h[k]?) (g : GP h) : GP h' := by unfold GP at g ⊢; rw [e 1 (by decide), e 0 (by decide)]; exact g
/-- Where a call stands: the world that it found, and the blocks that were handed over. -/
structure Fr where
  w0 : World
  Hd : Nat → Prop
  S0 : Nat → Prop
  bx : List Nat
  ρ0 : Nat → Value
  gle : GN ≤ w0.heap.size
  ghd : ∀ k, k < GN → ¬ Hd k
  gok : GP w0.heap
theorem Fr.now {F : Fr} {w : World} (h1 : F.w0.heap.size ≤ w.heap.size) (h2 : ∀ k, k < F.w0.heap.size → ¬ F.Hd k → w.heap[k]? = F.w0.heap[k]?) : GN ≤ w.heap.size ∧ GP w.heap :=
  ⟨Nat.le_trans F.gle h1, GP_stable (fun k hk => h2 k (Nat.lt_of_lt_of_le hk F.gle) (F.ghd k hk)) F.gok⟩
structure Fr.Keeps (F : Fr) (w : World) : Prop where
  os : w.os = F.w0.os
  tape : w.tape = F.w0.tape
  output : w.output = F.w0.output
  size : F.w0.heap.size ≤ w.heap.size
  heap : ∀ k, k < F.w0.heap.size → ¬ F.Hd k → w.heap[k]? = F.w0.heap[k]?
structure HR (F : Fr) (c : Ctx) (w : World) (h : Hp) : Prop where
  blk : ∀ b x, hget h b = some x → c.M b ∧ BR c w b x
  own : ∀ b x g, hget h b = some x → x.own = true → vblk (c.ρ b) = some g → ¬ c.S g ∧ (F.w0.heap.size ≤ g ∨ F.Hd g) ∧ g < w.heap.size
  apart : ∀ b d x y g, b ≠ d → hget h b = some x → hget h d = some y → x.own = true → y.own = true → vblk (c.ρ b) = some g → vblk (c.ρ d) = some g → False
  keeps : F.Keeps w
  stays : ∀ k, c.S k → k < w.heap.size
  grew : ∀ k, c.S k → F.S0 k ∨ F.w0.heap.size ≤ k ∨ F.Hd k
theorem get_cons {β : Type} (k : Nat) (v : β) (r : List (Nat × β)) (d : Nat) : get ((k, v) :: r) d = if k = d then some v else get r d := by
  show (match Nat.beq k d with | true => some v | false => get r d) = _
  by_cases e : k = d
  · subst e; simp
  · have : Nat.beq k d = false := by
      cases hb : Nat.beq k d
      · rfl
      · exact absurd (Nat.eq_of_beq_eq_true hb) e
    rw [this, if_neg e]
theorem hget_cons (h : Hp) (b d : Nat) (x : Option Blk) : hget ((b, x) :: h) d = if b = d then x else hget h d := by
  unfold hget
  rw [get_cons]
  by_cases e : b = d
  · rw [if_pos e, if_pos e]
  · rw [if_neg e, if_neg e]

theorem VR.single {c : Ctx} {w : World} : ∀ {v : V} {x : Value}, single v = true → VR c w v x → x.oneCell' = true
  | .undef, _, h, _ | .agg _, _, h, _ | .tup _, _, h, _ => by cases h
  | .nil, _, _, e | .prop _ _, _, _, e => by simp only [VR] at e; subst e; rfl
  | .val t y, _, _, e => by simp only [VR] at e; exact e.one _ (by simp)
  | .ref b, _, _, e => by simp only [VR] at e; obtain ⟨_, _, A, n, cap, e⟩ := e; subst e; rfl
  | .sub t b lo n, _, _, e => by
    simp only [VR] at e
    rcases e.2 with ⟨_, _, _, e⟩ | ⟨g, m, cap, A, _, _, _, e, _⟩ <;> subst e <;> rfl
  | .ptr b off, _, _, e => by simp only [VR] at e; obtain ⟨_, g, _, e⟩ := e; subst e; rfl
  | .eptr t b i off, _, _, e => by simp only [VR] at e; obtain ⟨_, g, n, cap, _, _, e⟩ := e; subst e; rfl
  | .rptr t y off, _, _, e => by simp only [VR] at e; obtain ⟨a, cs, e, _⟩ := e; subst e; rfl
  | .cptr vs off, _, _, e => by simp only [VR] at e; obtain ⟨g, cs, ty, e, _⟩ := e; subst e; rfl
  | .fn f a k, _, _, e => by simp only [VR] at e; obtain ⟨a', k', e, _⟩ := e; subst e; rfl

section
variable {F : Fr} {c c' : Ctx} {w w' : World} {h : Hp}
theorem vblk_own {v : Value} {n : Nat} {e sz : Nat} {xs : List Value} (ho : w.ownsRow 0 e sz v n xs) : vblk v = v.ownBlock := by
  rcases ho.2 with ⟨rfl, _⟩ | ⟨g, cap, cur, rfl, _⟩ <;> rfl
theorem own_keep {v : Value} {n : Nat} {e sz : Nat} {xs : List Value} (ho : w.ownsRow 0 e sz v n xs) (hk : ∀ g, vblk v = some g → w'.heap[g]? = w.heap[g]?) : w'.ownsRow 0 e sz v n xs := by
  obtain ⟨h1, h2⟩ := ho
  refine ⟨h1, ?_⟩
  rcases h2 with h2 | ⟨g, cap, cur, rfl, hg, hh, r⟩
  · exact .inl h2
  · exact .inr ⟨g, cap, cur, rfl, hg, (hk g rfl).trans hh, r⟩
/-- A row or a box at a later world, its own block as it was. -/
theorem BR.to {b : Nat} {x : Blk} (hb : BR c w b x) (ht : c.To c' w w') (hM : c.M b) (hk : ∀ g, x.own = true → vblk (c.ρ b) = some g → w'.heap[g]? = w.heap[g]?) : BR c' w' b x := by
  have hρ := ht.ρ b hM
  cases x with
  | row e t xs =>
    obtain ⟨inner, h1, h2⟩ := hb
    exact ⟨inner, h1.imp (fun _ _ h => h.move ht.S ht.heap), by rw [hρ]; exact own_keep h2 (fun g hg => hk g rfl hg)⟩
  | frz t xs => unfold BR at hb ⊢; rw [hρ]; exact ⟨hb.1.move ht.S ht.heap, hb.2⟩
  | box vs =>
    obtain ⟨g, cs, e, h1, h2, h3⟩ := hb
    exact ⟨g, cs, e, by rw [hρ]; exact h1, (hk g rfl (by rw [h1]; rfl)).trans h2, h3.to ht⟩
  | bys xs =>
    obtain ⟨g, cap, cur, e, fz, h1, h2, h3⟩ := hb
    exact ⟨g, cap, cur, e, fz, by rw [hρ]; exact h1, (hk g rfl (by rw [h1]; rfl)).trans h2, h3⟩
/-- The world goes on; what is owned and what stays is as it was. -/
theorem HR.to (H : HR F c w h) (ht : c.To c' w w') (hS : c'.S = c.S) (hk : ∀ b x g, hget h b = some x → x.own = true → vblk (c.ρ b) = some g → w'.heap[g]? = w.heap[g]?) (hF : F.Keeps w') (hsz : w.heap.size ≤ w'.heap.size) : HR F c' w' h where
  blk b x hb := ⟨ht.M _ (H.blk b x hb).1, (H.blk b x hb).2.to ht (H.blk b x hb).1 (fun g ho hg => hk b x g hb ho hg)⟩
  own b x g hb ho hg := by
    rw [ht.ρ _ (H.blk b x hb).1] at hg
    obtain ⟨h1, h2, h3⟩ := H.own b x g hb ho hg
    exact ⟨by rw [hS]; exact h1, h2, Nat.lt_of_lt_of_le h3 hsz⟩
  apart b d x y g hne hb hd hx hy h1 h2 := by
    rw [ht.ρ _ (H.blk b x hb).1] at h1
    rw [ht.ρ _ (H.blk d y hd).1] at h2
    exact H.apart b d x y g hne hb hd hx hy h1 h2
  keeps := hF
  stays k hk := by rw [hS] at hk; exact Nat.lt_of_lt_of_le (H.stays k hk) hsz
  grew k hk := by rw [hS] at hk; exact H.grew k hk
theorem HR.kill (H : HR F c w h) (b : Nat) : HR F c w ((b, none) :: h) where
  blk d x hd := by
    rw [hget_cons] at hd
    split at hd
    · cases hd
    · exact H.blk d x hd
  own d x g hd := by
    rw [hget_cons] at hd
    split at hd
    · cases hd
    · exact H.own d x g hd
  apart d f x y g hne hd hf := by
    rw [hget_cons] at hd hf
    split at hd
    · cases hd
    split at hf
    · cases hf
    exact H.apart d f x y g hne hd hf
  keeps := H.keeps
  stays := H.stays
  grew := H.grew
/-- A row or a box comes in at a number that is free. -/
theorem HR.put (H : HR F c w h) (b : Nat) (x : Blk) (hM : c.M b) (hb : BR c w b x) (ho : ∀ g, x.own = true → vblk (c.ρ b) = some g → ¬ c.S g ∧ (F.w0.heap.size ≤ g ∨ F.Hd g) ∧ g < w.heap.size ∧ ∀ d y, b ≠ d → hget h d = some y → y.own = true → vblk (c.ρ d) ≠ some g) : HR F c w ((b, some x) :: h) where
  blk d y hd := by
    rw [hget_cons] at hd
    split at hd
    · rename_i e; subst e; cases hd; exact ⟨hM, hb⟩
    · exact H.blk d y hd
  own d y g hd hy hg := by
    rw [hget_cons] at hd
    split at hd
    · rename_i e; subst e; cases hd; exact ⟨(ho g hy hg).1, (ho g hy hg).2.1, (ho g hy hg).2.2.1⟩
    · exact H.own d y g hd hy hg
  apart d f y z g hne hd hf hy hz h1 h2 := by
    rw [hget_cons] at hd hf
    split at hd
    · rename_i e; subst e; cases hd
      rw [if_neg hne] at hf
      exact (ho g hy h1).2.2.2 f z hne hf hz h2
    · split at hf
      · rename_i e; subst e; cases hf
        exact (ho g hz h2).2.2.2 d y (fun e => hne e.symm) hd hy h1
      · exact H.apart d f y z g hne hd hf hy hz h1 h2
  keeps := H.keeps
  stays := H.stays
  grew := H.grew

/-- A row of the call's own, read. -/
theorem row_reads {e : Nat} {t : Ty} {xs : List t.D} {v : Value} {inner : List Value} (hf : Flat (Rd c.S w t) xs inner) (ho : w.ownsRow 0 e t.cells v xs.length inner) :
    ∃ A cap, v = .slice A xs.length cap ∧ (xs.length ≤ cap ∧ (A = none → cap = 0)) ∧ (inner ≠ [] → ∃ g, A = some ⟨g, 0, none⟩ ∧ ∀ j u, inner[j]? = some u → w.cell? ⟨g, j, none⟩ = some u) := by
  have ho' := ho
  rcases ho.2 with ⟨rfl, h0⟩ | ⟨g, cap, cur, rfl, _, hh, hc, _, hs, ht⟩
  · refine ⟨none, 0, by rw [h0], ⟨by omega, fun _ => rfl⟩, fun hi => ?_⟩
    have := ho.1
    rw [h0, Nat.zero_mul] at this
    exact absurd (List.length_eq_zero_iff.1 this) hi
  · refine ⟨some ⟨g, 0, none⟩, cap, rfl, ⟨hc, fun h => by cases h⟩, fun _ => ⟨g, rfl, fun j u hu => ?_⟩⟩
    have := ho'.cells (g := g) rfl j u hu
    rwa [add_mid, Nat.zero_add] at this
theorem row_frz {e : Nat} {t : Ty} {xs : List t.D} {v : Value} {inner : List Value} {S' : Nat → Prop} (hS : ∀ k, c.S k → S' k) (hf : Flat (Rd c.S w t) xs inner) (ho : w.ownsRow 0 e t.cells v xs.length inner) (hg : ∀ g, vblk v = some g → S' g) : Rd S' w (.sl t) xs [v] := by
  obtain ⟨A, cap, rfl, h1, h2⟩ := row_reads hf ho
  refine ⟨A, cap, inner, rfl, h1, hf.imp (fun _ _ h => h.move hS (fun _ _ => rfl)), fun hi => ?_⟩
  obtain ⟨g, rfl, h3⟩ := h2 hi
  exact ⟨_, rfl, hg g rfl, fun j u hu => by rw [add_mid, Nat.zero_add]; exact h3 j u hu⟩
/-- A row is held from here on: it stays as it is. -/
theorem HR.freeze (H : HR F c w h) {b e : Nat} {t : Ty} {xs : List t.D} (hb : hget h b = some (.row e t xs)) :
    ∃ c' : Ctx, c.To c' w w ∧ c'.ρ = c.ρ ∧ c'.M = c.M ∧ (∀ g, vblk (c.ρ b) = some g → c'.S g) ∧ HR F c' w ((b, some (.frz t xs)) :: h) ∧ ∀ k, c'.S k → c.S k ∨ vblk (c.ρ b) = some k := by
  refine ⟨⟨fun k => c.S k ∨ vblk (c.ρ b) = some k, c.ρ, c.M⟩, ⟨fun k hk => .inl hk, fun _ h => h, fun _ _ => rfl, fun _ _ => rfl⟩, rfl, rfl, fun g hg => .inr hg, ?_, fun k hk => hk⟩
  have hto : c.To ⟨fun k => c.S k ∨ vblk (c.ρ b) = some k, c.ρ, c.M⟩ w w := ⟨fun k hk => .inl hk, fun _ h => h, fun _ _ => rfl, fun _ _ => rfl⟩
  refine ⟨fun d x hd => ?_, fun d x g hd hx hg => ?_, fun d f x y g hne hd hf hx hy h1 h2 => ?_, H.keeps, fun k hk => ?_, fun k hk => ?_⟩
  · rw [hget_cons] at hd
    split at hd
    · rename_i e'; subst e'; cases hd
      obtain ⟨hM, inner, hf, ho⟩ := H.blk _ _ hb
      exact ⟨hM, row_frz (c := c) (fun k hk => .inl hk) hf ho (fun g hg => .inr hg), by
        rcases ho.2 with ⟨h, _⟩ | ⟨g, cap, cur, h, _⟩
        · exact .inl h
        · exact .inr ⟨g, _, cap, h⟩⟩
    · exact ⟨(H.blk d x hd).1, (H.blk d x hd).2.to hto (H.blk d x hd).1 (fun _ _ _ => rfl)⟩
  · rw [hget_cons] at hd
    split at hd
    · cases hd; cases hx
    · rename_i hne
      refine ⟨fun hs => ?_, (H.own d x g hd hx hg).2⟩
      rcases hs with hs | hs
      · exact (H.own d x g hd hx hg).1 hs
      · exact H.apart b d _ x g hne hb hd rfl hx hs hg
  · rw [hget_cons] at hd hf
    split at hd
    · cases hd; cases hx
    split at hf
    · cases hf; cases hy
    exact H.apart d f x y g hne hd hf hx hy h1 h2
  · rcases hk with hk | hk
    · exact H.stays k hk
    · exact (H.own b _ k hb rfl hk).2.2
  · rcases hk with hk | hk
    · exact H.grew k hk
    · exact .inr (H.own b _ k hb rfl hk).2.1
theorem hget_ext {h1 h2 : Hp} (H : HR F c w h1) (e : ∀ b, hget h2 b = hget h1 b) : HR F c w h2 :=
  ⟨fun b x hb => H.blk b x (by rw [← e]; exact hb), fun b x g hb => H.own b x g (by rw [← e]; exact hb), fun b d x y g hne hb hd => H.apart b d x y g hne (by rw [← e]; exact hb) (by rw [← e]; exact hd), H.keeps, H.stays, H.grew⟩
theorem HR.frzW2 (H : HR F c w h) (h0 : Nat → Option Blk) : ∀ (l : List Nat), (∀ b ∈ l, ∀ e t xs, h0 b = some (.row e t xs) → hget h b = some (.row e t xs)) →
    ∃ c' : Ctx, c.To c' w w ∧ c'.ρ = c.ρ ∧ c'.M = c.M ∧ (∀ b ∈ l, ∀ e t xs, h0 b = some (.row e t xs) → ∀ g, vblk (c.ρ b) = some g → c'.S g) ∧ HR F c' w (Go.Proofs.YtiacidpjplmgaaaDoorD.frzW h0 l ++ h) ∧ (∀ b, b ∉ l → hget (Go.Proofs.YtiacidpjplmgaaaDoorD.frzW h0 l ++ h) b = hget h b) ∧ ∀ k, c'.S k → c.S k ∨ ∃ b ∈ l, vblk (c.ρ b) = some k
  | [], _ => ⟨c, .refl c w, rfl, rfl, (by intro b hb; cases hb), H, fun _ _ => rfl, fun _ h => .inl h⟩
  | b :: r, hl => by
    obtain ⟨c1, h1, h2, h3, h6, h4, h5, h7⟩ := HR.frzW2 H h0 r (fun d hd => hl d (List.mem_cons_of_mem _ hd))
    have h8 : ∀ k, c1.S k → c.S k ∨ ∃ d ∈ b :: r, vblk (c.ρ d) = some k := fun k hk => (h7 k hk).imp id (fun ⟨d, hd, e⟩ => ⟨d, List.mem_cons_of_mem _ hd, e⟩)
    simp only [Go.Proofs.YtiacidpjplmgaaaDoorD.frzW]
    split
    · rename_i e t xs hb
      by_cases hm : b ∈ r
      · -- it stands there already
        have hin : ∀ (l : List Nat), b ∈ l → hget (Go.Proofs.YtiacidpjplmgaaaDoorD.frzW h0 l ++ h) b = some (.frz t xs) := by
          intro l
          induction l with
          | nil => intro h; cases h
          | cons d l ih =>
            intro hd
            simp only [Go.Proofs.YtiacidpjplmgaaaDoorD.frzW]
            by_cases e1 : d = b
            · subst e1; rw [hb]; simp only [List.cons_append]; rw [hget_cons, if_pos rfl]
            · have hd' : b ∈ l := by
                rcases List.mem_cons.1 hd with h | h
                · exact absurd h.symm e1
                · exact h
              split
              · simp only [List.cons_append]; rw [hget_cons, if_neg e1]; exact ih hd'
              · exact ih hd'
        have hs : ∀ d ∈ b :: r, ∀ e t xs, h0 d = some (.row e t xs) → ∀ g, vblk (c.ρ d) = some g → c1.S g := fun d hd => h6 d (by
          rcases List.mem_cons.1 hd with hd | hd
          · rw [hd]; exact hm
          · exact hd)
        refine ⟨c1, h1, h2, h3, hs, hget_ext h4 (fun d => ?_), fun d hd => ?_, h8⟩
        · simp only [List.cons_append]; rw [hget_cons]
          by_cases e1 : b = d
          · subst e1; rw [if_pos rfl, hin r hm]
          · rw [if_neg e1]
        · simp only [List.cons_append]
          rw [hget_cons, if_neg (show ¬ b = d from fun e1 => hd (by rw [← e1]; exact List.mem_cons_self))]
          exact h5 d (fun h => hd (List.mem_cons_of_mem _ h))
      · have hb' : hget (Go.Proofs.YtiacidpjplmgaaaDoorD.frzW h0 r ++ h) b = some (.row e t xs) := (h5 b hm).trans (hl b List.mem_cons_self e t xs hb)
        obtain ⟨c2, k1, k2, k3, k6, k4, k7⟩ := h4.freeze hb'
        have hs : ∀ d ∈ b :: r, ∀ e t xs, h0 d = some (.row e t xs) → ∀ g, vblk (c.ρ d) = some g → c2.S g := fun d hd e t xs he g hg => by
          rcases List.mem_cons.1 hd with hd | hd
          · subst hd; exact k6 g (by rw [h2]; exact hg)
          · exact k1.S _ (h6 d hd e t xs he g hg)
        refine ⟨c2, h1.trans k1, k2.trans h2, k3.trans h3, hs, k4, fun d hd => ?_, fun k hk => (k7 k hk).elim (h8 k) (fun e => .inr ⟨b, List.mem_cons_self, by rw [← h2]; exact e⟩)⟩
        simp only [List.cons_append]
        rw [hget_cons, if_neg (show ¬ b = d from fun e1 => hd (by rw [← e1]; exact List.mem_cons_self))]
        exact h5 d (fun h => hd (List.mem_cons_of_mem _ h))
    · rename_i hno
      refine ⟨c1, h1, h2, h3, fun d hd e t xs he => ?_, h4, fun d hd => h5 d (fun h => hd (List.mem_cons_of_mem _ h)), h8⟩
      rcases List.mem_cons.1 hd with hd | hd
      · subst hd; exact absurd he (hno e t xs)
      · exact h6 d hd e t xs he
theorem HR.frzW (H : HR F c w h) (h0 : Nat → Option Blk) (l : List Nat) (hl : ∀ b ∈ l, ∀ e t xs, h0 b = some (.row e t xs) → hget h b = some (.row e t xs)) :
    ∃ c' : Ctx, c.To c' w w ∧ c'.ρ = c.ρ ∧ c'.M = c.M ∧ (∀ b ∈ l, ∀ e t xs, h0 b = some (.row e t xs) → ∀ g, vblk (c.ρ b) = some g → c'.S g) ∧ HR F c' w (Go.Proofs.YtiacidpjplmgaaaDoorD.frzW h0 l ++ h) ∧ ∀ b, b ∉ l → hget (Go.Proofs.YtiacidpjplmgaaaDoorD.frzW h0 l ++ h) b = hget h b := by
  obtain ⟨c', h1, h2, h3, h4, h5, h6, _⟩ := H.frzW2 h0 l hl
  exact ⟨c', h1, h2, h3, h4, h5, h6⟩
end
end Go.Proofs.YtiacidpjplmgaaaDoorD
