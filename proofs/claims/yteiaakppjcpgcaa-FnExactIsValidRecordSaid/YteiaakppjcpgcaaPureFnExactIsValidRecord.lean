/- For every record IsValidRecord gives what the reference gives. -/
import Derived.Test.YteiaakppjcpgcaaDFnExactIsValidRecord
set_option linter.unusedVariables false
set_option linter.unusedSimpArgs false
set_option maxRecDepth 100000
namespace Go.Proofs.Yteiaakppjcpgcaa.DFnExactIsValidRecord
open Go Go.Proofs.YteiaakppjcpgcaaD
theorem succ_of {k : Nat} (h : 0 < k) : ∃ j, k = j + 1 := ⟨k - 1, by omega⟩
theorem w64_id {x : Int} (h : -9223372036854775808 ≤ x ∧ x ≤ 9223372036854775807) : w64 x = x := by
  unfold w64 IntKind.wrap
  simp [IntKind.signed, IntKind.bits]
  omega
theorem chk_nat {n j : Nat} (h : j < n) : chk n (j : Int) = some j := by unfold chk; rw [if_pos (by omega)]; simp
theorem chk_int {n : Nat} {i : Int} (h : 0 ≤ i ∧ i < n) : chk n i = some i.toNat := by unfold chk; rw [if_pos h]
theorem cut_int {n : Nat} {i j : Int} (h : 0 ≤ i ∧ i ≤ j ∧ j ≤ n) : cut n i j = some (i.toNat, j.toNat - i.toNat) := by unfold cut; rw [if_pos h]
theorem cutTo_int {n : Nat} {j : Int} (h : 0 ≤ j ∧ j ≤ n) : cutTo n j = some j.toNat := by unfold cutTo; rw [if_pos h]
theorem cut3_int {n : Nat} {i j m : Int} (h : 0 ≤ i ∧ i ≤ j ∧ j ≤ m ∧ m ≤ n) : cut3 n i j m = some () := by unfold cut3; rw [if_pos h]
theorem mkl_int {L : Nat} {n c : Int} (h : 0 ≤ n ∧ n ≤ c ∧ c ≤ L) : mkl L n c = some n.toNat := by unfold mkl; rw [if_pos h]
theorem selfApp_nat {i lo m : Nat} (h : i ≤ lo) : selfApp i lo m = some (i + m) := by unfold selfApp; rw [if_pos h]
section
variable {β : Type}
theorem app_ok {L : Nat} {xs ys : List β} (h : xs.length + ys.length ≤ L) : app L xs ys = some (xs ++ ys) := by unfold app; rw [if_pos h]
theorem chk_mid (p : List β) (a : β) (q : List β) : chk (p ++ a :: q).length (p.length : Int) = some p.length := chk_nat (by simp)
theorem getD_mid (p : List β) (a : β) (q : List β) (d : β) : (p ++ a :: q).getD p.length d = a := by
  rw [List.getD_eq_getElem?_getD, List.getElem?_append_right (Nat.le_refl _)]; simp
theorem set_mid (p : List β) (a b : β) (q : List β) : (p ++ a :: q).set p.length b = p ++ b :: q := by
  rw [List.set_append_right _ _ (Nat.le_refl _)]; simp
theorem upd_mid (p : List β) (a : β) (q : List β) (d : β) (f : β → β) : upd (p ++ a :: q) p.length d f = p ++ f a :: q := by
  unfold upd; rw [getD_mid, set_mid]
theorem upd_len (xs : List β) (j : Nat) (d : β) (f : β → β) : (upd xs j d f).length = xs.length := by unfold upd; simp
theorem upd_of {xs : List β} {j : Nat} {d : β} {f : β → β} : upd xs j d f = xs.set j (f (xs.getD j d)) := rfl
theorem lt_mid (p : List β) (a : β) (q : List β) : (p.length : Int) < ((p ++ a :: q).length : Nat) := by simp; omega
theorem next_mid {p : List β} {a : β} {q : List β} (h : (p ++ a :: q).length ≤ 1152921504606846976) : w64 ((p.length : Int) + 1) = ((p ++ [a]).length : Nat) := by
  rw [w64_id (by simp at h; omega)]; simp
theorem snoc_app (p : List β) (a : β) (q : List β) : p ++ a :: q = (p ++ [a]) ++ q := by simp
theorem getD_lt {xs : List β} {i : Nat} {d : β} (h : i < xs.length) : xs.getD i d = xs[i] := by
  rw [List.getD_eq_getElem?_getD, List.getElem?_eq_getElem h]; rfl
theorem getD_set {xs : List β} {i j : Nat} {a d : β} (h : i < xs.length) : (xs.set i a).getD j d = if i = j then a else xs.getD j d := by
  rw [List.getD_eq_getElem?_getD, List.getD_eq_getElem?_getD, List.getElem?_set]
  split
  · rename_i e; subst e; simp [h]
  · rfl
theorem some_bind {γ : Type} (x : β) (f : β → Option γ) : (some x).bind f = f x := rfl
end
def inB (n lo hi : Int) : Bool := decide (lo ≤ n) && decide (n ≤ hi)
theorem inB_iff {n lo hi : Int} : inB n lo hi = true ↔ lo ≤ n ∧ n ≤ hi := by unfold inB; simp
theorem inB_of {n lo hi : Int} (h : lo ≤ n ∧ n ≤ hi) : inB n lo hi = true := inB_iff.2 h
theorem notB {b : Bool} (h : ¬ b = true) : b = false := by cases b <;> simp_all
theorem all_loop {β : Type} {L : Nat → Nat → Option β} {n K0 : Nat} {ok : Nat → Bool} {f : Option β} (hs : ∀ k i, K0 ≤ k → i < n → L (k + 1) i = if ok i = true then L k (i + 1) else f) :
    ∀ (d k i : Nat), i + d = n → K0 + d < k → (∀ e, (∀ k, K0 ≤ k → L (k + 1) n = e) → (∀ j, i ≤ j → j < n → ok j = true) → L k i = e) ∧ ((∃ j, i ≤ j ∧ j < n ∧ ok j = false) → L k i = f) := by
  intro d
  induction d with
  | zero =>
    intro k i h1 h2
    obtain ⟨k, rfl⟩ := succ_of (show 0 < k by omega)
    have : i = n := by omega
    subst this
    exact ⟨fun e he _ => he k (by omega), fun ⟨j, a, b, _⟩ => by omega⟩
  | succ d ih =>
    intro k i h1 h2
    obtain ⟨k, rfl⟩ := succ_of (show 0 < k by omega)
    have := ih k (i + 1) (by omega) (by omega)
    rw [hs k i (by omega) (by omega)]
    refine ⟨fun e he h => ?_, fun ⟨j, a, b, c⟩ => ?_⟩
    · rw [if_pos (h i (Nat.le_refl _) (by omega))]; exact this.1 e he fun j a b => h j (by omega) b
    · by_cases e : ok i = true
      · rw [if_pos e]
        refine this.2 ⟨j, ?_, b, c⟩
        rcases Nat.lt_or_ge i j with h | h
        · exact h
        · have : j = i := by omega
          subst this; rw [e] at c; cases c
      · rw [if_neg e]
theorem exists_bad {n : Nat} {ok : Nat → Bool} (h : ¬ ∀ i, i < n → ok i = true) : ∃ j, 0 ≤ j ∧ j < n ∧ ok j = false := by
  apply Classical.byContradiction; intro hn
  refine h fun j hj => ?_
  cases hc : ok j with
  | true => rfl
  | false => exact absurd ⟨j, Nat.zero_le _, hj, hc⟩ hn
theorem first_bad {n : Nat} {ok : Nat → Bool} (h : ¬ ∀ i, i < n → ok i = true) : ∃ j, j < n ∧ ok j = false ∧ ∀ i, i < j → ok i = true := by
  induction n with
  | zero => exact absurd (fun i hi => by omega) h
  | succ n ih =>
    by_cases h1 : ∀ i, i < n → ok i = true
    · refine ⟨n, by omega, ?_, h1⟩
      cases hc : ok n with
      | false => rfl
      | true => exact absurd (fun i hi => by
          rcases Nat.lt_or_ge i n with h' | h'
          · exact h1 i h'
          · have : i = n := by omega
            rw [this]; exact hc) h
    · obtain ⟨j, a, b, c⟩ := ih h1
      exact ⟨j, by omega, b, c⟩
theorem find_loop {L : Nat → Nat → Option Int} {n K0 : Nat} {ok : Nat → Bool} (hs : ∀ k i, K0 ≤ k → i < n → L (k + 1) i = if ok i = true then some (i : Int) else L k (i + 1)) (he : ∀ k, K0 ≤ k → L (k + 1) n = some (-1)) :
    ∀ (d k i : Nat), i + d = n → K0 + d < k → ((∀ j, i ≤ j → j < n → ok j = false) → L k i = some (-1)) ∧ (∀ m, i ≤ m → m < n → ok m = true → (∀ j, i ≤ j → j < m → ok j = false) → L k i = some (m : Int)) := by
  intro d
  induction d with
  | zero =>
    intro k i h1 h2
    obtain ⟨k, rfl⟩ := succ_of (show 0 < k by omega)
    have : i = n := by omega
    subst this
    exact ⟨fun _ => he k (by omega), fun m a b _ _ => by omega⟩
  | succ d ih =>
    intro k i h1 h2
    obtain ⟨k, rfl⟩ := succ_of (show 0 < k by omega)
    have := ih k (i + 1) (by omega) (by omega)
    rw [hs k i (by omega) (by omega)]
    refine ⟨fun h => ?_, fun m a b c h => ?_⟩
    · rw [if_neg (by rw [h i (Nat.le_refl _) (by omega)]; simp)]; exact this.1 fun j a b => h j (by omega) b
    · by_cases e : ok i = true
      · rw [if_pos e]
        rcases Nat.lt_or_ge i m with h' | h'
        · have := h i (Nat.le_refl _) h'; rw [e] at this; cases this
        · have : m = i := by omega
          rw [this]
      · rw [if_neg e]
        refine this.2 m ?_ b c fun j a b => h j (by omega) b
        rcases Nat.lt_or_ge i m with h' | h'
        · exact h'
        · have : m = i := by omega
          subst this; exact absurd c e
theorem stepb {α γ : Type} {a : Option α} {x : α} {f : α → Option γ} {r : Option γ} (h : a = some x) (g : f x = r) : a.bind f = r := by rw [h]; exact g
theorem ifn {γ : Type} {c : Prop} {i : Decidable c} {t e r : γ} (h : ¬ c) (g : e = r) : @ite γ c i t e = r := by rw [if_neg h]; exact g
theorem condt {γ : Type} {a b r : γ} (g : b = r) : cond (!true) a b = r := g
/-! ### Texts as lists of bytes -/
def bs (l : List UInt8) : ByteArray := ⟨l.toArray⟩
theorem bs_list (s : ByteArray) : bs s.data.toList = s := by
  cases s
  simp [bs]
theorem bs_ex (s : ByteArray) : ∃ l, s = bs l := ⟨_, (bs_list s).symm⟩
theorem bs_data (l : List UInt8) : (bs l).data.toList = l := by simp [bs]
theorem bs_size (l : List UInt8) : (bs l).size = l.length := by simp [bs, ByteArray.size]
theorem bs_inj {a b : List UInt8} : bs a = bs b ↔ a = b := ⟨fun h => by have := congrArg (fun s : ByteArray => s.data.toList) h; simpa [bs_data] using this, fun h => by rw [h]⟩
theorem bs_append (a b : List UInt8) : bs a ++ bs b = bs (a ++ b) := by
  apply ByteArray.ext
  rw [ByteArray.data_append]
  simp [bs]
theorem bs_extract (l : List UInt8) (i j : Nat) : (bs l).extract i j = bs ((l.drop i).take (j - i)) := by
  apply ByteArray.ext
  rw [ByteArray.data_extract]
  apply Array.toList_inj.1
  rw [Array.toList_extract]
  simp [bs, List.take_drop, List.extract_eq_drop_take']
theorem bs_nil : (⟨#[]⟩ : ByteArray) = bs [] := rfl
theorem bs_empty : ByteArray.empty = bs [] := rfl
theorem catS_bs {a b : List UInt8} (h : a.length + b.length ≤ 140737488355328) : catS (bs a) (bs b) = some (bs (a ++ b)) := by
  unfold catS
  rw [bs_size, bs_size, if_pos h, bs_append]
theorem byteAt_bs {l : List UInt8} {j : Nat} (h : j < l.length) : byteAt (bs l) j = ((l.getD j 0).toNat : Int) := by
  unfold byteAt
  rw [dif_pos (by rw [bs_size]; exact h), getD_lt h]
  rfl
theorem bytesOf_bs (l : List UInt8) : bytesOf (bs l) = l.map fun b => (b.toNat : Int) := by
  unfold bytesOf
  rw [bs_data]
theorem byteAt_lt {l : List UInt8} {j : Nat} (h : j < l.length) : 0 ≤ byteAt (bs l) j ∧ byteAt (bs l) j < 256 := by
  rw [byteAt_bs h]
  have := (l.getD j 0).toNat_lt
  omega
theorem byte_eq {a b : UInt8} : (a.toNat : Int) = (b.toNat : Int) ↔ a = b := by
  constructor
  · intro h; exact UInt8.toNat_inj.1 (by omega)
  · intro h; rw [h]
/-! ### Loops along a text -/
section
variable {β : Type} {l : List β} {d : β} {K0 : Nat}
theorem drop_getD {i : Nat} (h : i < l.length) : l.drop i = l.getD i d :: l.drop (i + 1) := by
  rw [getD_lt h]
  exact List.drop_eq_getElem_cons h
theorem scan_all {L : Nat → Nat → Option Bool} {ok : β → Bool} {e : Bool} (hs : ∀ k i, K0 ≤ k → i < l.length → L (k + 1) i = if ok (l.getD i d) = true then L k (i + 1) else some false) (he : ∀ k, K0 ≤ k → L (k + 1) l.length = some e) :
    ∀ k, K0 + l.length < k → L k 0 = some (l.all ok && e) := by
  have key : ∀ n i k, i + n = l.length → K0 + n < k → L k i = some ((l.drop i).all ok && e) := by
    intro n
    induction n with
    | zero =>
      intro i k h1 h2
      obtain ⟨k, rfl⟩ := succ_of (show 0 < k by omega)
      have : i = l.length := by omega
      subst this
      rw [he k (by omega), List.drop_length]
      rfl
    | succ n ih =>
      intro i k h1 h2
      obtain ⟨k, rfl⟩ := succ_of (show 0 < k by omega)
      rw [hs k i (by omega) (by omega), drop_getD (d := d) (show i < l.length by omega), List.all_cons]
      by_cases h : ok (l.getD i d) = true
      · rw [if_pos h, ih (i + 1) k (by omega) (by omega), h, Bool.true_and]
      · rw [if_neg h, notB h, Bool.false_and, Bool.false_and]
  intro k hk
  have := key l.length 0 k (by omega) (by omega)
  simpa using this
theorem scan_any {L : Nat → Nat → Option Bool} {p : β → Bool} (hs : ∀ k i, K0 ≤ k → i < l.length → L (k + 1) i = if p (l.getD i d) = true then some true else L k (i + 1)) (he : ∀ k, K0 ≤ k → L (k + 1) l.length = some false) :
    ∀ k, K0 + l.length < k → L k 0 = some (l.any p) := by
  have key : ∀ n i k, i + n = l.length → K0 + n < k → L k i = some ((l.drop i).any p) := by
    intro n
    induction n with
    | zero =>
      intro i k h1 h2
      obtain ⟨k, rfl⟩ := succ_of (show 0 < k by omega)
      have : i = l.length := by omega
      subst this
      rw [he k (by omega), List.drop_length]
      rfl
    | succ n ih =>
      intro i k h1 h2
      obtain ⟨k, rfl⟩ := succ_of (show 0 < k by omega)
      rw [hs k i (by omega) (by omega), drop_getD (d := d) (show i < l.length by omega), List.any_cons]
      by_cases h : p (l.getD i d) = true
      · rw [if_pos h, h, Bool.true_or]
      · rw [if_neg h, ih (i + 1) k (by omega) (by omega), notB h, Bool.false_or]
  intro k hk
  have := key l.length 0 k (by omega) (by omega)
  simpa using this
theorem scan_find {L : Nat → Nat → Option Int} {p : β → Bool} (hs : ∀ k i, K0 ≤ k → i < l.length → L (k + 1) i = if p (l.getD i d) = true then some (i : Int) else L k (i + 1)) (he : ∀ k, K0 ≤ k → L (k + 1) l.length = some (-1)) :
    ∀ k, K0 + l.length < k → ∃ r, L k 0 = some r ∧ decide (0 ≤ r) = l.any p := by
  have key : ∀ n i k, i + n = l.length → K0 + n < k → ∃ r, L k i = some r ∧ decide (0 ≤ r) = (l.drop i).any p := by
    intro n
    induction n with
    | zero =>
      intro i k h1 h2
      obtain ⟨k, rfl⟩ := succ_of (show 0 < k by omega)
      have : i = l.length := by omega
      subst this
      rw [he k (by omega), List.drop_length]
      exact ⟨-1, rfl, rfl⟩
    | succ n ih =>
      intro i k h1 h2
      obtain ⟨k, rfl⟩ := succ_of (show 0 < k by omega)
      rw [hs k i (by omega) (by omega), drop_getD (d := d) (show i < l.length by omega), List.any_cons]
      by_cases h : p (l.getD i d) = true
      · rw [if_pos h, h, Bool.true_or]
        exact ⟨i, rfl, by simp⟩
      · rw [if_neg h, notB h, Bool.false_or]
        exact ih (i + 1) k (by omega) (by omega)
  intro k hk
  have := key l.length 0 k (by omega) (by omega)
  simpa using this
theorem scan_fold {γ δ : Type} {P : γ → Prop} {L : Nat → Nat → γ → Option δ} {f : γ → β → γ} {g : γ → δ} (hs : ∀ k i a, K0 ≤ k → i < l.length → P a → L (k + 1) i a = L k (i + 1) (f a (l.getD i d))) (hp : ∀ a b, P a → P (f a b)) (he : ∀ k a, K0 ≤ k → P a → L (k + 1) l.length a = some (g a)) :
    ∀ k a, P a → K0 + l.length < k → L k 0 a = some (g (l.foldl f a)) := by
  have key : ∀ n i k a, P a → i + n = l.length → K0 + n < k → L k i a = some (g ((l.drop i).foldl f a)) := by
    intro n
    induction n with
    | zero =>
      intro i k a ha h1 h2
      obtain ⟨k, rfl⟩ := succ_of (show 0 < k by omega)
      have : i = l.length := by omega
      subst this
      rw [he k a (by omega) ha, List.drop_length]
      rfl
    | succ n ih =>
      intro i k a ha h1 h2
      obtain ⟨k, rfl⟩ := succ_of (show 0 < k by omega)
      rw [hs k i a (by omega) (by omega) ha, drop_getD (d := d) (show i < l.length by omega), List.foldl_cons]
      exact ih (i + 1) k _ (hp _ _ ha) (by omega) (by omega)
  intro k a ha hk
  have := key l.length 0 k a ha (by omega) (by omega)
  simpa using this
end
/-! ### Which records are good -/
def okB (b : UInt8) : Bool := decide (32 ≤ b.toNat) && decide (b.toNat ≤ 126) && !(b == 35)
def plainL (l : List UInt8) : Bool := l.all okB
def goodE (c r : List UInt8) : Bool := decide (1 ≤ c.length) && decide (c.length ≤ 160) && plainL c && !c.any (· == 64) && decide (r.length ≤ 200) && plainL r
theorem byte_is {b : UInt8} {n : Nat} (h : n < 256) : ((b.toNat : Int) = (n : Int)) ↔ (b == UInt8.ofNat n) = true := by
  rw [beq_iff_eq]
  constructor
  · intro e
    apply UInt8.toNat_inj.1
    rw [UInt8.toNat_ofNat']
    omega
  · intro e
    rw [e, UInt8.toNat_ofNat']
    omega
theorem l1In_ok (k : Nat) (x a b : Int) : spec_l1In.f k x a b = some (decide (a ≤ x) && decide (x ≤ b)) := by
  unfold spec_l1In.f spec_l1In.m
  by_cases h : a ≤ x <;> simp [h]
theorem in_ok (k : Nat) (x a b : Int) : impl_in.f k x a b = some (decide (a ≤ x) && decide (x ≤ b)) := by
  unfold impl_in.f impl_in.m
  by_cases h : a ≤ x <;> simp [h]
theorem specPlain_ok (l : List UInt8) (m : Int) (hl : l.length ≤ 1152921504606846976) : ∀ k, l.length < k → spec_l27Plain.f k (bs l) m = some (plainL l && decide ((l.length : Int) ≤ m)) := by
  intro k hk
  unfold spec_l27Plain.f spec_l27Plain.m
  refine scan_all (L := fun k i => spec_l27Plain.l3 k (bs l) m (i : Int)) (d := (0 : UInt8)) (K0 := 0) (ok := okB) (fun k i _ hi => ?_) (fun k _ => ?_) k (by omega)
  · show spec_l27Plain.b3 (spec_l27Plain.l3 k) k (bs l) m (i : Int) = _
    unfold spec_l27Plain.b3
    have hb := (l.getD i 0).toNat_lt
    rw [bs_size, if_pos (by omega)]
    simp only [chk_nat hi, Option.bind_some, byteAt_bs hi]
    rw [w64_id (by omega), l1In_ok, Option.bind_some, w64_id (by omega), show ((i : Int) + 1) = ((i + 1 : Nat) : Int) by omega]
    unfold okB
    generalize spec_l27Plain.l3 k (bs l) m ((i + 1 : Nat) : Int) = X
    generalize l.getD i 0 = b at hb ⊢
    by_cases h : 32 ≤ b.toNat ∧ b.toNat ≤ 126
    · have h1 : (decide ((32 : Int) ≤ (b.toNat : Int)) && decide ((b.toNat : Int) ≤ 126)) = true := by simp; omega
      rw [h1, decide_eq_true h.1, decide_eq_true h.2, Bool.not_true, cond_false]
      have h2 := byte_is (b := b) (n := 35) (by omega)
      by_cases h3 : (b.toNat : Int) = 35
      · rw [if_pos h3, if_neg]
        have := h2.1 h3
        rw [show (UInt8.ofNat 35) = 35 from rfl] at this
        rw [this]
        simp
      · rw [if_neg h3, if_pos]
        · have : ¬ (b == UInt8.ofNat 35) = true := fun e => h3 (h2.2 e)
          rw [show (UInt8.ofNat 35) = 35 from rfl] at this
          rw [notB this]
          rfl
    · have h1 : (decide ((32 : Int) ≤ (b.toNat : Int)) && decide ((b.toNat : Int) ≤ 126)) = false := by
        apply notB
        intro e
        simp at e
        omega
      have h2 : (decide (32 ≤ b.toNat) && decide (b.toNat ≤ 126)) = false := by
        apply notB
        intro e
        simp at e
        omega
      rw [h1, h2, Bool.not_false, cond_true, if_neg (by simp)]
  · show spec_l27Plain.b3 (spec_l27Plain.l3 k) k (bs l) m (l.length : Int) = _
    unfold spec_l27Plain.b3
    rw [bs_size, if_neg (by omega)]
theorem specStands_ok (l : List UInt8) (n : Nat) (hn : n < 256) (hl : l.length ≤ 1152921504606846976) : ∀ k, l.length < k → spec_l1Stands.f k (bs l) (n : Int) = some (l.any (· == UInt8.ofNat n)) := by
  intro k hk
  unfold spec_l1Stands.f spec_l1Stands.m
  refine scan_any (L := fun k i => spec_l1Stands.l3 k (bs l) (n : Int) (i : Int)) (d := (0 : UInt8)) (K0 := 0) (p := (· == UInt8.ofNat n)) (fun k i _ hi => ?_) (fun k _ => ?_) k (by omega)
  · show spec_l1Stands.b3 (spec_l1Stands.l3 k) k (bs l) (n : Int) (i : Int) = _
    unfold spec_l1Stands.b3
    rw [bs_size, if_pos (by omega), chk_nat hi, Option.bind_some, byteAt_bs hi, w64_id (by omega)]
    by_cases h : ((l.getD i 0).toNat : Int) = n
    · rw [if_pos h, if_pos ((byte_is hn).1 h)]
    · rw [if_neg h, if_neg (fun e => h ((byte_is hn).2 e))]
      rfl
  · show spec_l1Stands.b3 (spec_l1Stands.l3 k) k (bs l) (n : Int) (l.length : Int) = _
    unfold spec_l1Stands.b3
    rw [bs_size, if_neg (by omega)]
theorem specGood_ok (c r : List UInt8) (hc : c.length ≤ 1152921504606846976) (hr : r.length ≤ 1152921504606846976) : ∀ k, c.length + r.length < k → spec_l27Good.f k (bs c) (bs r) = some (goodE c r) := by
  intro k hk
  unfold spec_l27Good.f spec_l27Good.m
  rw [specPlain_ok c 160 hc k (by omega), specPlain_ok r 200 hr k (by omega), show (64 : Int) = ((64 : Nat) : Int) from rfl, specStands_ok c 64 (by omega) hc k (by omega), Option.bind_some, Option.bind_some, Option.bind_some, bs_nil]
  unfold goodE
  rw [show (UInt8.ofNat 64) = 64 from rfl]
  cases c with
  | nil => rw [if_neg (fun h => h rfl)]; rfl
  | cons x c =>
    rw [if_pos (fun h => by have := bs_inj.1 h; cases this), decide_eq_true (show 1 ≤ (x :: c).length by simp), Bool.true_and]
    cases h1 : plainL (x :: c)
    · simp
    · by_cases h2 : (x :: c).length ≤ 160
      · rw [decide_eq_true h2, decide_eq_true (by omega)]
        rw [show decide ((r.length : Int) ≤ 200) = decide (r.length ≤ 200) from decide_eq_decide.2 (by omega)]
        cases (x :: c).any (· == 64) <;> cases plainL r <;> cases decide (r.length ≤ 200) <;> rfl
      · rw [decide_eq_false h2, decide_eq_false (by omega)]
        simp
theorem implOk_ok (k : Nat) (b : UInt8) : impl_isPlain_1.f k (b.toNat : Int) = some (okB b) := by
  unfold impl_isPlain_1.f impl_isPlain_1.m okB
  by_cases h : 32 ≤ b.toNat
  · rw [if_pos (by omega), decide_eq_true h]
    by_cases h2 : b.toNat ≤ 126
    · rw [if_pos (by omega), decide_eq_true h2]
      have h3 := byte_is (b := b) (n := 35) (by omega)
      rw [show (UInt8.ofNat 35) = 35 from rfl] at h3
      cases h4 : b == 35
      · have h5 : ¬ ((b.toNat : Int) = 35) := fun e => by rw [h3.1 e] at h4; cases h4
        simp [h5, h2]
      · have h5 : ((b.toNat : Int) = 35) := h3.2 h4
        simp [h5]
    · rw [if_neg (by omega), decide_eq_false h2]; rfl
  · rw [if_neg (by omega), decide_eq_false h]; rfl
theorem getD_map {β γ : Type} (f : β → γ) (l : List β) (i : Nat) (d : β) (e : γ) (h : i < l.length) : (l.map f).getD i e = f (l.getD i d) := by
  rw [getD_lt (by simpa using h), getD_lt h, List.getElem_map]
theorem implFind_ok (l : List UInt8) (hl : l.length ≤ 1152921504606846976) : ∀ k, l.length < k → ∃ r, slices_IndexFunc_byte_byte__impl_areAll_byte_1__impl_isPlain_1.f k (l.map fun b => (b.toNat : Int)) = some r ∧ decide (0 ≤ r) = l.any fun b => !okB b := by
  intro k hk
  unfold slices_IndexFunc_byte_byte__impl_areAll_byte_1__impl_isPlain_1.f slices_IndexFunc_byte_byte__impl_areAll_byte_1__impl_isPlain_1.m
  rw [List.length_map]
  refine scan_find (l := l) (L := fun k i => slices_IndexFunc_byte_byte__impl_areAll_byte_1__impl_isPlain_1.l3 k (l.map fun b => (b.toNat : Int)) (l.length : Int) (i : Int)) (d := (0 : UInt8)) (K0 := 0) (p := fun b => !okB b) (fun k i _ hi => ?_) (fun k _ => ?_) k (by omega)
  · show slices_IndexFunc_byte_byte__impl_areAll_byte_1__impl_isPlain_1.b3 (slices_IndexFunc_byte_byte__impl_areAll_byte_1__impl_isPlain_1.l3 k) k (l.map fun b => (b.toNat : Int)) (l.length : Int) (i : Int) = _
    unfold slices_IndexFunc_byte_byte__impl_areAll_byte_1__impl_isPlain_1.b3
    rw [if_pos (by omega), List.length_map, chk_nat hi, Option.bind_some, getD_map _ l i 0 0 hi]
    unfold impl_areAll_byte_1__impl_isPlain_1.f impl_areAll_byte_1__impl_isPlain_1.m
    rw [implOk_ok, Option.bind_some, Option.bind_some, w64_id (by omega)]
    cases okB (l.getD i 0) <;> simp
  · show slices_IndexFunc_byte_byte__impl_areAll_byte_1__impl_isPlain_1.b3 (slices_IndexFunc_byte_byte__impl_areAll_byte_1__impl_isPlain_1.l3 k) k (l.map fun b => (b.toNat : Int)) (l.length : Int) (l.length : Int) = _
    unfold slices_IndexFunc_byte_byte__impl_areAll_byte_1__impl_isPlain_1.b3
    rw [if_neg (by omega)]
theorem implPlain_ok (l : List UInt8) (hl : l.length ≤ 1152921504606846976) : ∀ k, l.length < k → impl_isPlain.f k (bs l) = some (plainL l) := by
  intro k hk
  unfold impl_isPlain.f impl_isPlain.m impl_areAll_byte__impl_isPlain_1.f impl_areAll_byte__impl_isPlain_1.m slices_ContainsFunc_byte_byte__impl_areAll_byte_1__impl_isPlain_1.f slices_ContainsFunc_byte_byte__impl_areAll_byte_1__impl_isPlain_1.m
  obtain ⟨r, h1, h2⟩ := implFind_ok l hl k hk
  rw [bytesOf_bs, h1, Option.bind_some, Option.bind_some, Option.bind_some, h2, List.not_any_eq_all_not]
  simp [plainL]
theorem indexByte_any (l : List UInt8) (c : UInt8) : decide (0 ≤ Lib.indexByte l c) = l.any (· == c) := by
  induction l with
  | nil => rfl
  | cons b l ih =>
    rw [List.any_cons, ← ih]
    have h1 := Lib.indexByte_ge l c
    show decide (0 ≤ (if b == c then 0 else if Lib.indexByte l c == -1 then -1 else Lib.indexByte l c + 1)) = _
    cases h : b == c
    · simp
      by_cases h2 : Lib.indexByte l c = -1
      · simp [h2]
      · simp [h2]; omega
    · simp
theorem contains_bs (l : List UInt8) (c : UInt8) : containsF (bs l) (bs [c]) = some (l.any (· == c)) := by
  unfold containsF
  rw [if_pos (by rw [bs_size]; rfl), bs_data, ← indexByte_any]
  rfl
theorem implGood_ok (c r : List UInt8) (hc : c.length ≤ 1152921504606846976) (hr : r.length ≤ 1152921504606846976) : ∀ k, c.length + r.length + 1 < k → impl_IsValidRecord.f k (bs c) (bs r) = some (goodE c r) := by
  intro k hk
  obtain ⟨k, rfl⟩ := succ_of (show 0 < k by omega)
  have hl : ∀ b, impl_IsValidRecord.l1 (k + 1) (bs c) (bs r) b = some (b && decide (r.length ≤ 200) && plainL r) := fun b => by
    show impl_IsValidRecord.b1 k (bs c) (bs r) b = _
    unfold impl_IsValidRecord.b1
    rw [bs_size, implPlain_ok r hr k (by omega), Option.bind_some]
    cases b
    · rfl
    · by_cases h : r.length ≤ 200
      · rw [decide_eq_true h, if_pos (by omega)]; rfl
      · rw [decide_eq_false h, if_neg (by omega)]; rfl
  unfold impl_IsValidRecord.f impl_IsValidRecord.m
  rw [in_ok, Option.bind_some, implPlain_ok c hc (k + 1) (by omega), Option.bind_some, show (⟨#[64]⟩ : ByteArray) = bs [64] from rfl]
  unfold strings_Contains.f
  rw [contains_bs, Option.bind_some, hl, hl, bs_size]
  unfold goodE
  have e1 : decide ((1 : Int) ≤ (c.length : Int)) = decide (1 ≤ c.length) := by simp; omega
  have e2 : decide ((c.length : Int) ≤ 160) = decide (c.length ≤ 160) := by simp; omega
  rw [e1, e2]
  cases decide (1 ≤ c.length) <;> cases decide (c.length ≤ 160) <;> cases plainL c <;> simp
theorem szRec_ok (c r : List UInt8) (left : Int) (h : 0 ≤ left ∧ left ≤ 1048576) (hc : c.length ≤ 140737488351232) (hr : r.length ≤ 140737488351232) (k : Nat) : laws_szLogRecord.f k (bs c) (bs r) left = some (if left < (c.length : Int) + (r.length : Int) then -1 else left - c.length - r.length) := by
  unfold laws_szLogRecord.f laws_szLogRecord.m
  rw [bs_size, bs_size, w64_id (x := left - (c.length : Int)) (by omega), w64_id (by omega)]
  by_cases h1 : left < (c.length : Int) + (r.length : Int)
  · rw [if_pos h1]
    by_cases h2 : left - (c.length : Int) < 0
    · rw [if_pos h2]
    · rw [if_neg h2, if_pos (by omega)]
  · rw [if_neg h1, if_neg (by omega), if_neg (by omega)]
theorem pure_holds : Pure := by
  intro a1 a2 h1 h2
  obtain ⟨c, rfl⟩ := bs_ex a1
  obtain ⟨r, rfl⟩ := bs_ex a2
  rw [bs_size] at h1 h2
  refine ⟨1048576 + 14, ?_⟩
  unfold laws_FnExactIsValidRecord.f laws_FnExactIsValidRecord.m
  rw [szRec_ok c r _ (by omega) h1 h2, Option.bind_some]
  by_cases h : (1048576 : Int) < (c.length : Int) + (r.length : Int)
  · rw [if_pos h, if_pos (by omega)]
  · rw [if_neg h, if_neg (by omega)]
    unfold laws_toLogRecord.f laws_toLogRecord.m spec_IsValidRecord.f spec_IsValidRecord.m
    simp only [Option.bind_some]
    rw [specGood_ok c r (by omega) (by omega) _ (by omega), implGood_ok c r (by omega) (by omega) _ (by omega)]
    simp only [Option.bind_some]
    rw [if_neg (fun e => e (by trivial))]
end Go.Proofs.Yteiaakppjcpgcaa.DFnExactIsValidRecord
