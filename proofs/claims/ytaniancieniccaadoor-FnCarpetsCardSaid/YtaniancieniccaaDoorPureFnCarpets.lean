/- All looms are free or have a carpet, and after the told days one can be sold. -/
import Derived.Test.YtaniancieniccaaDoorDFnCarpets
set_option linter.unusedVariables false
set_option linter.unusedSimpArgs false
set_option maxRecDepth 100000
namespace Go.Proofs.YtaniancieniccaaDoor.DFnCarpets
open Go Go.Proofs.YtaniancieniccaaDoorD
theorem succ_of {k : Nat} (h : 0 < k) : ∃ j, k = j + 1 := ⟨k - 1, by omega⟩
theorem w64_id {x : Int} (h : -9223372036854775808 ≤ x ∧ x ≤ 9223372036854775807) : w64 x = x := by
  unfold w64 IntKind.wrap
  simp [IntKind.signed, IntKind.bits]
  omega
theorem chk_nat {n j : Nat} (h : j < n) : chk n (j : Int) = some j := by unfold chk; rw [if_pos (by omega)]; simp
theorem chk_int {n : Nat} {i : Int} (h : 0 ≤ i ∧ i < n) : chk n i = some i.toNat := by unfold chk; rw [if_pos h]
theorem cut_int {n : Nat} {i j : Int} (h : 0 ≤ i ∧ i ≤ j ∧ j ≤ n) : cut n i j = some (i.toNat, j.toNat - i.toNat) := by unfold cut; rw [if_pos h]
theorem cutTo_int {n : Nat} {j : Int} (h : 0 ≤ j ∧ j ≤ n) : cutTo n j = some j.toNat := by unfold cutTo; rw [if_pos h]
theorem cut3_int {n : Nat} {i j m : Int} (h : 0 ≤ i ∧ i ≤ j ∧ j ≤ m ∧ m ≤ n) : cut3 n i j m = some () := by unfold cut3; rw [if_pos h]
theorem mkl_int {L : Nat} {n c : Int} (h : 0 ≤ n ∧ n ≤ c ∧ c ≤ L) : mkl L n c = some n.toNat := by unfold mkl; rw [if_pos h]
theorem selfApp_nat {i lo m : Nat} (h : i ≤ lo) : selfApp i lo m = some (i + m) := by unfold selfApp; rw [if_pos h]
section
variable {β : Type}
theorem app_ok {L : Nat} {xs ys : List β} (h : xs.length + ys.length ≤ L) : app L xs ys = some (xs ++ ys) := by unfold app; rw [if_pos h]
theorem chk_mid (p : List β) (a : β) (q : List β) : chk (p ++ a :: q).length (p.length : Int) = some p.length := chk_nat (by simp)
theorem getD_mid (p : List β) (a : β) (q : List β) (d : β) : (p ++ a :: q).getD p.length d = a := by
  rw [List.getD_eq_getElem?_getD, List.getElem?_append_right (Nat.le_refl _)]; simp
theorem set_mid (p : List β) (a b : β) (q : List β) : (p ++ a :: q).set p.length b = p ++ b :: q := by
  rw [List.set_append_right _ _ (Nat.le_refl _)]; simp
theorem upd_mid (p : List β) (a : β) (q : List β) (d : β) (f : β → β) : upd (p ++ a :: q) p.length d f = p ++ f a :: q := by
  unfold upd; rw [getD_mid, set_mid]
theorem upd_len (xs : List β) (j : Nat) (d : β) (f : β → β) : (upd xs j d f).length = xs.length := by unfold upd; simp
theorem upd_of {xs : List β} {j : Nat} {d : β} {f : β → β} : upd xs j d f = xs.set j (f (xs.getD j d)) := rfl
theorem lt_mid (p : List β) (a : β) (q : List β) : (p.length : Int) < ((p ++ a :: q).length : Nat) := by simp; omega
theorem next_mid {p : List β} {a : β} {q : List β} (h : (p ++ a :: q).length ≤ 1152921504606846976) : w64 ((p.length : Int) + 1) = ((p ++ [a]).length : Nat) := by
  rw [w64_id (by simp at h; omega)]; simp
theorem snoc_app (p : List β) (a : β) (q : List β) : p ++ a :: q = (p ++ [a]) ++ q := by simp
theorem getD_lt {xs : List β} {i : Nat} {d : β} (h : i < xs.length) : xs.getD i d = xs[i] := by
  rw [List.getD_eq_getElem?_getD, List.getElem?_eq_getElem h]; rfl
theorem getD_set {xs : List β} {i j : Nat} {a d : β} (h : i < xs.length) : (xs.set i a).getD j d = if i = j then a else xs.getD j d := by
  rw [List.getD_eq_getElem?_getD, List.getD_eq_getElem?_getD, List.getElem?_set]
  split
  · rename_i e; subst e; simp [h]
  · rfl
theorem some_bind {γ : Type} (x : β) (f : β → Option γ) : (some x).bind f = f x := rfl
end
def inB (n lo hi : Int) : Bool := decide (lo ≤ n) && decide (n ≤ hi)
theorem inB_iff {n lo hi : Int} : inB n lo hi = true ↔ lo ≤ n ∧ n ≤ hi := by unfold inB; simp
theorem inB_of {n lo hi : Int} (h : lo ≤ n ∧ n ≤ hi) : inB n lo hi = true := inB_iff.2 h
theorem notB {b : Bool} (h : ¬ b = true) : b = false := by cases b <;> simp_all
theorem all_loop {β : Type} {L : Nat → Nat → Option β} {n K0 : Nat} {ok : Nat → Bool} {f : Option β} (hs : ∀ k i, K0 ≤ k → i < n → L (k + 1) i = if ok i = true then L k (i + 1) else f) :
    ∀ (d k i : Nat), i + d = n → K0 + d < k → (∀ e, (∀ k, K0 ≤ k → L (k + 1) n = e) → (∀ j, i ≤ j → j < n → ok j = true) → L k i = e) ∧ ((∃ j, i ≤ j ∧ j < n ∧ ok j = false) → L k i = f) := by
  intro d
  induction d with
  | zero =>
    intro k i h1 h2
    obtain ⟨k, rfl⟩ := succ_of (show 0 < k by omega)
    have : i = n := by omega
    subst this
    exact ⟨fun e he _ => he k (by omega), fun ⟨j, a, b, _⟩ => by omega⟩
  | succ d ih =>
    intro k i h1 h2
    obtain ⟨k, rfl⟩ := succ_of (show 0 < k by omega)
    have := ih k (i + 1) (by omega) (by omega)
    rw [hs k i (by omega) (by omega)]
    refine ⟨fun e he h => ?_, fun ⟨j, a, b, c⟩ => ?_⟩
    · rw [if_pos (h i (Nat.le_refl _) (by omega))]; exact this.1 e he fun j a b => h j (by omega) b
    · by_cases e : ok i = true
      · rw [if_pos e]
        refine this.2 ⟨j, ?_, b, c⟩
        rcases Nat.lt_or_ge i j with h | h
        · exact h
        · have : j = i := by omega
          subst this; rw [e] at c; cases c
      · rw [if_neg e]
theorem exists_bad {n : Nat} {ok : Nat → Bool} (h : ¬ ∀ i, i < n → ok i = true) : ∃ j, 0 ≤ j ∧ j < n ∧ ok j = false := by
  apply Classical.byContradiction; intro hn
  refine h fun j hj => ?_
  cases hc : ok j with
  | true => rfl
  | false => exact absurd ⟨j, Nat.zero_le _, hj, hc⟩ hn
theorem first_bad {n : Nat} {ok : Nat → Bool} (h : ¬ ∀ i, i < n → ok i = true) : ∃ j, j < n ∧ ok j = false ∧ ∀ i, i < j → ok i = true := by
  induction n with
  | zero => exact absurd (fun i hi => by omega) h
  | succ n ih =>
    by_cases h1 : ∀ i, i < n → ok i = true
    · refine ⟨n, by omega, ?_, h1⟩
      cases hc : ok n with
      | false => rfl
      | true => exact absurd (fun i hi => by
          rcases Nat.lt_or_ge i n with h' | h'
          · exact h1 i h'
          · have : i = n := by omega
            rw [this]; exact hc) h
    · obtain ⟨j, a, b, c⟩ := ih h1
      exact ⟨j, by omega, b, c⟩
theorem find_loop {L : Nat → Nat → Option Int} {n K0 : Nat} {ok : Nat → Bool} (hs : ∀ k i, K0 ≤ k → i < n → L (k + 1) i = if ok i = true then some (i : Int) else L k (i + 1)) (he : ∀ k, K0 ≤ k → L (k + 1) n = some (-1)) :
    ∀ (d k i : Nat), i + d = n → K0 + d < k → ((∀ j, i ≤ j → j < n → ok j = false) → L k i = some (-1)) ∧ (∀ m, i ≤ m → m < n → ok m = true → (∀ j, i ≤ j → j < m → ok j = false) → L k i = some (m : Int)) := by
  intro d
  induction d with
  | zero =>
    intro k i h1 h2
    obtain ⟨k, rfl⟩ := succ_of (show 0 < k by omega)
    have : i = n := by omega
    subst this
    exact ⟨fun _ => he k (by omega), fun m a b _ _ => by omega⟩
  | succ d ih =>
    intro k i h1 h2
    obtain ⟨k, rfl⟩ := succ_of (show 0 < k by omega)
    have := ih k (i + 1) (by omega) (by omega)
    rw [hs k i (by omega) (by omega)]
    refine ⟨fun h => ?_, fun m a b c h => ?_⟩
    · rw [if_neg (by rw [h i (Nat.le_refl _) (by omega)]; simp)]; exact this.1 fun j a b => h j (by omega) b
    · by_cases e : ok i = true
      · rw [if_pos e]
        rcases Nat.lt_or_ge i m with h' | h'
        · have := h i (Nat.le_refl _) h'; rw [e] at this; cases this
        · have : m = i := by omega
          rw [this]
      · rw [if_neg e]
        refine this.2 m ?_ b c fun j a b => h j (by omega) b
        rcases Nat.lt_or_ge i m with h' | h'
        · exact h'
        · have : m = i := by omega
          subst this; exact absurd c e
theorem stepb {α γ : Type} {a : Option α} {x : α} {f : α → Option γ} {r : Option γ} (h : a = some x) (g : f x = r) : a.bind f = r := by rw [h]; exact g
theorem ifn {γ : Type} {c : Prop} {i : Decidable c} {t e r : γ} (h : ¬ c) (g : e = r) : @ite γ c i t e = r := by rw [if_neg h]; exact g
theorem condt {γ : Type} {a b r : γ} (g : b = r) : cond (!true) a b = r := g
/-! ### Texts as lists of bytes -/
def bs (l : List UInt8) : ByteArray := ⟨l.toArray⟩
theorem bs_list (s : ByteArray) : bs s.data.toList = s := by
  cases s
  simp [bs]
theorem bs_ex (s : ByteArray) : ∃ l, s = bs l := ⟨_, (bs_list s).symm⟩
theorem bs_data (l : List UInt8) : (bs l).data.toList = l := by simp [bs]
theorem bs_size (l : List UInt8) : (bs l).size = l.length := by simp [bs, ByteArray.size]
theorem bs_inj {a b : List UInt8} : bs a = bs b ↔ a = b := ⟨fun h => by have := congrArg (fun s : ByteArray => s.data.toList) h; simpa [bs_data] using this, fun h => by rw [h]⟩
theorem bs_append (a b : List UInt8) : bs a ++ bs b = bs (a ++ b) := by
  apply ByteArray.ext
  rw [ByteArray.data_append]
  simp [bs]
theorem bs_extract (l : List UInt8) (i j : Nat) : (bs l).extract i j = bs ((l.drop i).take (j - i)) := by
  apply ByteArray.ext
  rw [ByteArray.data_extract]
  apply Array.toList_inj.1
  rw [Array.toList_extract]
  simp [bs, List.take_drop, List.extract_eq_drop_take']
theorem bs_nil : (⟨#[]⟩ : ByteArray) = bs [] := rfl
theorem bs_empty : ByteArray.empty = bs [] := rfl
theorem catS_bs {a b : List UInt8} (h : a.length + b.length ≤ 140737488355328) : catS (bs a) (bs b) = some (bs (a ++ b)) := by
  unfold catS
  rw [bs_size, bs_size, if_pos h, bs_append]
theorem byteAt_bs {l : List UInt8} {j : Nat} (h : j < l.length) : byteAt (bs l) j = ((l.getD j 0).toNat : Int) := by
  unfold byteAt
  rw [dif_pos (by rw [bs_size]; exact h), getD_lt h]
  rfl
theorem bytesOf_bs (l : List UInt8) : bytesOf (bs l) = l.map fun b => (b.toNat : Int) := by
  unfold bytesOf
  rw [bs_data]
theorem byteAt_lt {l : List UInt8} {j : Nat} (h : j < l.length) : 0 ≤ byteAt (bs l) j ∧ byteAt (bs l) j < 256 := by
  rw [byteAt_bs h]
  have := (l.getD j 0).toNat_lt
  omega
theorem byte_eq {a b : UInt8} : (a.toNat : Int) = (b.toNat : Int) ↔ a = b := by
  constructor
  · intro h; exact UInt8.toNat_inj.1 (by omega)
  · intro h; rw [h]
/-! ### Loops along a text -/
section
variable {β : Type} {l : List β} {d : β} {K0 : Nat}
theorem drop_getD {i : Nat} (h : i < l.length) : l.drop i = l.getD i d :: l.drop (i + 1) := by
  rw [getD_lt h]
  exact List.drop_eq_getElem_cons h
theorem scan_all {L : Nat → Nat → Option Bool} {ok : β → Bool} {e : Bool} (hs : ∀ k i, K0 ≤ k → i < l.length → L (k + 1) i = if ok (l.getD i d) = true then L k (i + 1) else some false) (he : ∀ k, K0 ≤ k → L (k + 1) l.length = some e) :
    ∀ k, K0 + l.length < k → L k 0 = some (l.all ok && e) := by
  have key : ∀ n i k, i + n = l.length → K0 + n < k → L k i = some ((l.drop i).all ok && e) := by
    intro n
    induction n with
    | zero =>
      intro i k h1 h2
      obtain ⟨k, rfl⟩ := succ_of (show 0 < k by omega)
      have : i = l.length := by omega
      subst this
      rw [he k (by omega), List.drop_length]
      rfl
    | succ n ih =>
      intro i k h1 h2
      obtain ⟨k, rfl⟩ := succ_of (show 0 < k by omega)
      rw [hs k i (by omega) (by omega), drop_getD (d := d) (show i < l.length by omega), List.all_cons]
      by_cases h : ok (l.getD i d) = true
      · rw [if_pos h, ih (i + 1) k (by omega) (by omega), h, Bool.true_and]
      · rw [if_neg h, notB h, Bool.false_and, Bool.false_and]
  intro k hk
  have := key l.length 0 k (by omega) (by omega)
  simpa using this
theorem scan_any {L : Nat → Nat → Option Bool} {p : β → Bool} (hs : ∀ k i, K0 ≤ k → i < l.length → L (k + 1) i = if p (l.getD i d) = true then some true else L k (i + 1)) (he : ∀ k, K0 ≤ k → L (k + 1) l.length = some false) :
    ∀ k, K0 + l.length < k → L k 0 = some (l.any p) := by
  have key : ∀ n i k, i + n = l.length → K0 + n < k → L k i = some ((l.drop i).any p) := by
    intro n
    induction n with
    | zero =>
      intro i k h1 h2
      obtain ⟨k, rfl⟩ := succ_of (show 0 < k by omega)
      have : i = l.length := by omega
      subst this
      rw [he k (by omega), List.drop_length]
      rfl
    | succ n ih =>
      intro i k h1 h2
      obtain ⟨k, rfl⟩ := succ_of (show 0 < k by omega)
      rw [hs k i (by omega) (by omega), drop_getD (d := d) (show i < l.length by omega), List.any_cons]
      by_cases h : p (l.getD i d) = true
      · rw [if_pos h, h, Bool.true_or]
      · rw [if_neg h, ih (i + 1) k (by omega) (by omega), notB h, Bool.false_or]
  intro k hk
  have := key l.length 0 k (by omega) (by omega)
  simpa using this
theorem scan_find {L : Nat → Nat → Option Int} {p : β → Bool} (hs : ∀ k i, K0 ≤ k → i < l.length → L (k + 1) i = if p (l.getD i d) = true then some (i : Int) else L k (i + 1)) (he : ∀ k, K0 ≤ k → L (k + 1) l.length = some (-1)) :
    ∀ k, K0 + l.length < k → ∃ r, L k 0 = some r ∧ decide (0 ≤ r) = l.any p := by
  have key : ∀ n i k, i + n = l.length → K0 + n < k → ∃ r, L k i = some r ∧ decide (0 ≤ r) = (l.drop i).any p := by
    intro n
    induction n with
    | zero =>
      intro i k h1 h2
      obtain ⟨k, rfl⟩ := succ_of (show 0 < k by omega)
      have : i = l.length := by omega
      subst this
      rw [he k (by omega), List.drop_length]
      exact ⟨-1, rfl, rfl⟩
    | succ n ih =>
      intro i k h1 h2
      obtain ⟨k, rfl⟩ := succ_of (show 0 < k by omega)
      rw [hs k i (by omega) (by omega), drop_getD (d := d) (show i < l.length by omega), List.any_cons]
      by_cases h : p (l.getD i d) = true
      · rw [if_pos h, h, Bool.true_or]
        exact ⟨i, rfl, by simp⟩
      · rw [if_neg h, notB h, Bool.false_or]
        exact ih (i + 1) k (by omega) (by omega)
  intro k hk
  have := key l.length 0 k (by omega) (by omega)
  simpa using this
theorem scan_fold {γ δ : Type} {P : γ → Prop} {L : Nat → Nat → γ → Option δ} {f : γ → β → γ} {g : γ → δ} (hs : ∀ k i a, K0 ≤ k → i < l.length → P a → L (k + 1) i a = L k (i + 1) (f a (l.getD i d))) (hp : ∀ a b, P a → P (f a b)) (he : ∀ k a, K0 ≤ k → P a → L (k + 1) l.length a = some (g a)) :
    ∀ k a, P a → K0 + l.length < k → L k 0 a = some (g (l.foldl f a)) := by
  have key : ∀ n i k a, P a → i + n = l.length → K0 + n < k → L k i a = some (g ((l.drop i).foldl f a)) := by
    intro n
    induction n with
    | zero =>
      intro i k a ha h1 h2
      obtain ⟨k, rfl⟩ := succ_of (show 0 < k by omega)
      have : i = l.length := by omega
      subst this
      rw [he k a (by omega) ha, List.drop_length]
      rfl
    | succ n ih =>
      intro i k a ha h1 h2
      obtain ⟨k, rfl⟩ := succ_of (show 0 < k by omega)
      rw [hs k i a (by omega) (by omega) ha, drop_getD (d := d) (show i < l.length by omega), List.foldl_cons]
      exact ih (i + 1) k _ (hp _ _ ha) (by omega) (by omega)
  intro k a ha hk
  have := key l.length 0 k a ha (by omega) (by omega)
  simpa using this
end
/-! ### The text of a number -/
theorem digits_of (u : Nat) : Lib.decDigits u = if u < 10 then [UInt8.ofNat (48 + u)] else Lib.decDigits (u / 10) ++ [UInt8.ofNat (48 + u % 10)] := by
  rw [Lib.decDigits]
  split <;> simp_all
theorem digits_len (u j : Nat) (hj : 1 ≤ j) (h : u < 10 ^ j) : (Lib.decDigits u).length ≤ j ∧ 1 ≤ (Lib.decDigits u).length := by
  induction j generalizing u with
  | zero => omega
  | succ j ih =>
    rw [digits_of]
    split
    · simp
    · have h1 : u / 10 < 10 ^ j := by rw [Nat.pow_succ] at h; omega
      have h2 : 1 ≤ j := by
        rcases Nat.eq_zero_or_pos j with rfl | h0
        · simp at h1; omega
        · exact h0
      have := ih (u / 10) h2 h1
      simp
      omega
theorem digits_all (u : Nat) : ∀ b ∈ Lib.decDigits u, 48 ≤ b.toNat ∧ b.toNat ≤ 57 := by
  induction u using Nat.strongRecOn with
  | ind u ih =>
    rw [digits_of]
    have hd : ∀ x, x < 10 → 48 ≤ (UInt8.ofNat (48 + x)).toNat ∧ (UInt8.ofNat (48 + x)).toNat ≤ 57 := fun x hx => by
      rw [UInt8.toNat_ofNat']
      omega
    split
    · rename_i h
      intro b hb
      rw [List.mem_singleton] at hb
      rw [hb]
      exact hd u h
    · intro b hb
      rcases List.mem_append.1 hb with hb | hb
      · exact ih (u / 10) (by omega) b hb
      · rw [List.mem_singleton] at hb
        rw [hb]
        exact hd _ (by omega)
def digs : List UInt8 := [48, 49, 50, 51, 52, 53, 54, 55, 56, 57]
theorem digs_at : ∀ m : Fin 10, (digs.drop m.1).take 1 = [UInt8.ofNat (48 + m.1)] := by decide
theorem digs_bs : (⟨#[48, 49, 50, 51, 52, 53, 54, 55, 56, 57]⟩ : ByteArray) = bs digs := rfl
theorem num_ok (j : Nat) (hj : 1 ≤ j) (hj2 : j ≤ 20) (n : Nat) (h : n < 10 ^ j) (hn : n < 9223372036854775807) : ∀ k, j ≤ k → spec_l1Num.f k (n : Int) = some (bs (Lib.decDigits n)) := by
  induction j generalizing n with
  | zero => omega
  | succ j ih =>
    intro k hk
    obtain ⟨k, rfl⟩ := succ_of (show 0 < k by omega)
    have e1 : ∀ x : Nat, x < 10 → cut (bs digs).size (x : Int) (w64 ((x : Int) + 1)) = some (x, 1) := fun x hx => by
      rw [w64_id (by omega), bs_size, cut_int (by simp [digs]; omega)]
      simp
    rw [digits_of]
    unfold spec_l1Num.f spec_l1Num.m
    rw [if_neg (by omega), digs_bs]
    by_cases h10 : n < 10
    · rw [if_pos (by omega), if_pos h10, e1 n h10, Option.bind_some, bs_extract, show n + 1 - n = 1 by omega, digs_at ⟨n, h10⟩]
    · rw [if_neg (by omega), if_neg h10]
      have h1 : n / 10 < 10 ^ j := by rw [Nat.pow_succ] at h; omega
      have h2 : 1 ≤ j := by
        rcases Nat.eq_zero_or_pos j with rfl | h0
        · simp at h1; omega
        · exact h0
      have hq : quo .i64 (n : Int) 10 = some ((n / 10 : Nat) : Int) := by
        unfold quo
        rw [if_neg (by omega)]
        have : (IntKind.i64.wrap ((n : Int).tdiv 10)) = w64 ((n : Int).tdiv 10) := rfl
        rw [this, Int.tdiv_eq_ediv_of_nonneg (by omega), w64_id (by omega)]
        simp
      have hr : rem (n : Int) 10 = some ((n % 10 : Nat) : Int) := by
        unfold rem
        rw [if_neg (by omega), Int.tmod_eq_emod_of_nonneg (by omega)]
        simp
      rw [hq, Option.bind_some, ih h2 (by omega) (n / 10) h1 (by omega) k (by omega), Option.bind_some, hr, Option.bind_some, Option.bind_some, e1 _ (by omega), Option.bind_some, bs_extract, show n % 10 + 1 - n % 10 = 1 by omega, digs_at ⟨n % 10, by omega⟩]
      have := digits_len (n / 10) j h2 h1
      rw [catS_bs (by simp; omega), Option.bind_some]
theorem itoaF_nat {n : Nat} (h : n ≤ 9223372036854775807) : itoaF (n : Int) = some (bs (Lib.decDigits n)) := by
  unfold itoaF Lib.itoa
  rw [if_pos (by omega), if_neg (by omega)]
  simp [bs]
def Yl {α : Type} (x : Option α) (P : α → Prop) : Prop := ∃ a, x = some a ∧ P a
theorem Yl.bind {α β : Type} {x : Option α} {f : α → Option β} {P : α → Prop} {Q : β → Prop} (h : Yl x P) (g : ∀ a, P a → Yl (f a) Q) : Yl (x.bind f) Q := by
  obtain ⟨a, rfl, ha⟩ := h; exact g a ha
theorem Yl.mono {α : Type} {x : Option α} {P Q : α → Prop} (h : Yl x P) (g : ∀ a, P a → Q a) : Yl x Q := by
  obtain ⟨a, e, ha⟩ := h; exact ⟨a, e, g a ha⟩
theorem Yl.ret {α : Type} {a : α} {P : α → Prop} (h : P a) : Yl (some a) P := ⟨a, rfl, h⟩
theorem Yl.ite {α : Type} {c : Prop} [i : Decidable c] {t e : Option α} {P : α → Prop} (ht : c → Yl t P) (he : ¬ c → Yl e P) : Yl (@ite _ c i t e) P := by
  by_cases h : c
  · rw [if_pos h]; exact ht h
  · rw [if_neg h]; exact he h
theorem Yl.cond {α : Type} {c : Bool} {t e : Option α} {P : α → Prop} (ht : c = true → Yl t P) (he : c = false → Yl e P) : Yl (cond c t e) P := by
  cases c
  · exact he rfl
  · exact ht rfl
def By (l : List Int) : Prop := ∀ y ∈ l, 0 ≤ y ∧ y ≤ 255
theorem By.of {l : List Int} (h : ∀ y ∈ l, (Lit.int .u8 y).wf = true) : By l := by
  intro y hy; have h := h y hy
  unfold Lit.wf at h; rw [Bool.and_eq_true] at h
  have h1 := of_decide_eq_true h.1; have h2 := of_decide_eq_true h.2
  exact ⟨h1, h2⟩
theorem byteBits (q : Int) : 0 ≤ band .u64 q 255 ∧ band .u64 q 255 ≤ 255 := by
  have h : (BitVec.ofInt 64 q &&& BitVec.ofInt 64 255).toNat ≤ 255 := by
    rw [BitVec.toNat_and]
    exact Nat.le_trans Nat.and_le_right (by decide)
  change 0 ≤ IntKind.wrap .u64 ((((BitVec.ofInt 64 q &&& BitVec.ofInt 64 255).toNat : Nat)) : Int) ∧ IntKind.wrap .u64 ((((BitVec.ofInt 64 q &&& BitVec.ofInt 64 255).toNat : Nat)) : Int) ≤ 255
  generalize (BitVec.ofInt 64 q &&& BitVec.ofInt 64 255).toNat = n at *
  unfold IntKind.wrap
  simp [IntKind.signed, IntKind.bits]
  omega
theorem next_ok (k : Nat) {l : List Int} {a : Int} (s : Int) (hb : By l) (h : 0 ≤ a ∧ a ≤ 1000000000000000) (hk : 5 ≤ k) : Yl (spec_l1Cur_next.f k l a s) fun r => r.2.1 = l ∧ r.2.2.1 = a + 1 ∧ 0 ≤ r.1 ∧ r.1 ≤ 255 := by
  obtain ⟨k, rfl⟩ := succ_of (show 0 < k by omega)
  have key : ∀ b : Int, 0 ≤ b ∧ b ≤ 255 → Yl (spec_l1Cur_next.l2 (k + 1) l a s b) fun r => r.2.1 = l ∧ r.2.2.1 = a + 1 ∧ 0 ≤ r.1 ∧ r.1 ≤ 255 := fun b hbb => by
    simp only [spec_l1Cur_next.l2, spec_l1Cur_next.b2]
    rw [w64_id (x := a + 1) (by omega)]
    refine Yl.ite (fun _ => Yl.ret ⟨rfl, rfl, hbb⟩) fun _ => ?_
    unfold shr; rw [if_neg (by omega)]; simp only [Option.bind_some]
    refine Yl.ret ⟨rfl, rfl, ?_⟩
    have := byteBits ((IntKind.u64.wrap (IntKind.u64.wrap (IntKind.u64.wrap (s * 6364136223846793005) + IntKind.u64.wrap b) + 102323)).fdiv (2 ^ min (Int.toNat 40) IntKind.u64.bits))
    rw [w64_id (by omega)]; exact this
  unfold spec_l1Cur_next.f spec_l1Cur_next.m
  refine Yl.ite (fun hlt => ?_) fun _ => key 0 (by omega)
  rw [chk_int (by omega)]; simp only [Option.bind_some]
  have hi : a.toNat < l.length := by omega
  have := hb _ (List.getElem_mem hi)
  rw [getD_lt hi, w64_id (by omega)]
  exact key _ this
theorem pick_ok (k : Nat) {l : List Int} {a : Int} (s n : Int) (hb : By l) (h : 0 ≤ a ∧ a ≤ 1000000000000) (hk : 5 ≤ k) : Yl (spec_l1Cur_pick.f k l a s n) fun r => r.2.1 = l ∧ a ≤ r.2.2.1 ∧ r.2.2.1 ≤ a + 2 ∧ 0 ≤ r.1 ∧ (r.1 = 0 ∨ r.1 < n) ∧ r.1 ≤ 65535 := by
  unfold spec_l1Cur_pick.f spec_l1Cur_pick.m
  refine Yl.ite (fun _ => Yl.ret ⟨rfl, by simp, by dsimp only; omega, by simp⟩) fun hn => ?_
  refine Yl.bind (next_ok k s hb (by omega) hk) ?_
  rintro ⟨b, l', a', s'⟩ ⟨e1, e2, e3, e4⟩
  dsimp only at *; subst e1; subst e2
  refine Yl.ite (fun hn2 => ?_) fun _ => ?_
  · refine Yl.bind (next_ok k s' hb (by omega) hk) ?_
    rintro ⟨c, l2, a2, s2⟩ ⟨f1, f2, f3, f4⟩
    dsimp only at *; subst f1; subst f2
    rw [w64_id (x := b * 256) (by omega), w64_id (by omega)]
    unfold rem; rw [if_neg (by omega)]; simp only [Option.bind_some]
    rw [Int.tmod_eq_emod_of_nonneg (by omega)]
    have := Int.emod_nonneg (b * 256 + c) (show n ≠ 0 by omega)
    have := Int.emod_lt_of_pos (b * 256 + c) (show 0 < n by omega)
    have : (b * 256 + c) % n ≤ b * 256 + c := by
      rcases Int.lt_or_le (b * 256 + c) n with h | h
      · rw [Int.emod_eq_of_lt (by omega) h]; omega
      · omega
    exact Yl.ret ⟨rfl, by dsimp only; omega, by dsimp only; omega, by omega, by omega, by dsimp only; omega⟩
  · unfold rem; rw [if_neg (by omega)]; simp only [Option.bind_some]
    rw [Int.tmod_eq_emod_of_nonneg (by omega)]
    have := Int.emod_nonneg b (show n ≠ 0 by omega)
    have := Int.emod_lt_of_pos b (show 0 < n by omega)
    exact Yl.ret ⟨rfl, by dsimp only; omega, by dsimp only; omega, by omega, by omega, by dsimp only; omega⟩
theorem one_ok (k : Nat) {l : List Int} {a : Int} (s n : Int) (hb : By l) (h : 0 ≤ a ∧ a ≤ 1000000000000) (hk : 5 ≤ k) : Yl (spec_l1Cur_one.f k l a s n) fun r => r.2.1 = l ∧ a ≤ r.2.2.1 ∧ r.2.2.1 ≤ a + 2 := by
  unfold spec_l1Cur_one.f spec_l1Cur_one.m
  refine Yl.bind (pick_ok k s n hb h hk) ?_
  rintro ⟨b, l', a', s'⟩ ⟨e1, e2, e3, e4⟩
  exact Yl.ret ⟨e1, e2, e3⟩
theorem among_ok (k : Nat) {l : List Int} {a : Int} (s : Int) {xs : List Int} (lo hi : Int) (hx : 0 < xs.length ∧ xs.length ≤ 60000) (hm : ∀ x ∈ xs, lo ≤ x ∧ x ≤ hi) (hb : By l) (h : 0 ≤ a ∧ a ≤ 1000000000000) (hk : 5 ≤ k) : Yl (spec_l1Cur_among_2.f k l a s xs) fun r => r.2.1 = l ∧ r.2.2.2.2 = xs ∧ a ≤ r.2.2.1 ∧ r.2.2.1 ≤ a + 2 ∧ lo ≤ r.1 ∧ r.1 ≤ hi := by
  unfold spec_l1Cur_among_2.f spec_l1Cur_among_2.m
  refine Yl.bind (pick_ok k s _ hb h hk) ?_
  rintro ⟨b, l', a', s'⟩ ⟨e1, e2, e3, e4, e5, e6⟩
  dsimp only at *
  rw [chk_int (by omega)]; simp only [Option.bind_some]
  have hi : b.toNat < xs.length := by omega
  have := hm _ (List.getElem_mem hi)
  rw [getD_lt hi]
  exact Yl.ret ⟨e1, rfl, e2, e3, this⟩
theorem among_any (k : Nat) {l : List Int} {a : Int} (s : Int) {xs : List Int} (hx : 0 < xs.length ∧ xs.length ≤ 60000) (hb : By l) (h : 0 ≤ a ∧ a ≤ 1000000000000) (hk : 5 ≤ k) : Yl (spec_l1Cur_among_2.f k l a s xs) fun r => r.2.1 = l ∧ r.2.2.2.2 = xs ∧ a ≤ r.2.2.1 ∧ r.2.2.1 ≤ a + 2 := by
  unfold spec_l1Cur_among_2.f spec_l1Cur_among_2.m
  refine Yl.bind (pick_ok k s _ hb h hk) ?_
  rintro ⟨b, l', a', s'⟩ ⟨e1, e2, e3, e4, e5, e6⟩
  dsimp only at *
  rw [chk_int (by omega)]; simp only [Option.bind_some]
  exact Yl.ret ⟨e1, rfl, e2, e3⟩
theorem quo2 {x : Int} {β : Type} {f : Int → Option β} {P : β → Prop} (h : ∀ q, Yl (f q) P) : Yl ((quo .i64 x 2).bind f) P := by
  unfold quo; rw [if_neg (by omega)]; exact h _
abbrev C5 := Int × Int × Int × Int × Int
def rdC (xs : List C5) (i : Int) : C5 := xs.getD i.toNat (0, 0, 0, 0, 0)
theorem rdC_nat (xs : List C5) (i : Nat) : rdC xs (i : Int) = xs.getD i (0, 0, 0, 0, 0) := by unfold rdC; rw [Int.toNat_natCast]
theorem w64_eq (x : Int) : w64 x = (x + 9223372036854775808) % 18446744073709551616 - 9223372036854775808 := by
  unfold w64 IntKind.wrap
  simp [IntKind.signed, IntKind.bits]
  omega
def carpB (day looms : Int) (c : C5) : Bool := inB c.1 1 500 && inB c.2.1 0 c.1 && inB c.2.2.1 0 4 && inB c.2.2.2.2 0 day && (if c.2.2.1 = 1 then inB c.2.2.2.1 1 looms else if c.2.2.1 = 0 then decide (c.2.1 = 0) && decide (c.2.2.2.1 = 0) else decide (c.2.1 = c.1) && decide (c.2.2.2.1 = 0))
/-- No earlier carpet is on the same loom. -/
def soloB (cs : List C5) (i : Nat) (c : C5) : Bool := (cs.take i).all fun d => !(decide (c.2.2.2.1 > 0) && decide (d.2.2.2.1 = c.2.2.2.1))
def rowsB (day looms : Int) (cs : List C5) : Bool := (List.range cs.length).all fun i => carpB day looms (cs.getD i ⟨0, 0, 0, 0, 0⟩) && soloB cs i (cs.getD i ⟨0, 0, 0, 0, 0⟩)
def shopB (day looms : Int) (cs : List C5) (money : Int) : Bool := inB day 0 4000 && inB looms 1 4 && inB money 0 1000000 && decide (cs.length ≤ 8) && rowsB day looms cs
theorem carpB_woven {day looms : Int} {c : C5} (h : carpB day looms c = true) : c.2.2.2.1 > 0 ↔ c.2.2.1 = 1 := by
  unfold carpB at h
  simp only [Bool.and_eq_true, inB_iff] at h
  obtain ⟨_, h5⟩ := h
  constructor
  · intro hp
    by_cases e : c.2.2.1 = 1
    · exact e
    · rw [if_neg e] at h5
      split at h5 <;> simp at h5 <;> omega
  · intro e; rw [if_pos e, inB_iff] at h5; omega
theorem carpB_day {day day' looms : Int} {c : C5} (h : carpB day looms c = true) (hd : day ≤ day') : carpB day' looms c = true := by
  unfold carpB at h ⊢
  simp only [Bool.and_eq_true, inB_iff] at h ⊢
  exact ⟨⟨h.1.1, h.1.2.1, by omega⟩, h.2⟩
theorem rowsB_iff {day looms : Int} {cs : List C5} : rowsB day looms cs = true ↔ ∀ (i : Nat) (c : C5), cs[i]? = some c → carpB day looms c = true ∧ ∀ (j : Nat) (d : C5), j < i → cs[j]? = some d → c.2.2.2.1 > 0 → d.2.2.2.1 ≠ c.2.2.2.1 := by
  unfold rowsB
  rw [List.all_eq_true]
  constructor
  · intro h i c hc
    have hi := (List.getElem?_eq_some_iff.1 hc).1
    have := h i (List.mem_range.2 hi)
    rw [List.getD_eq_getElem?_getD, hc] at this
    simp only [Option.getD_some, Bool.and_eq_true] at this
    refine ⟨this.1, fun j d hj hd hp he => ?_⟩
    have h2 := this.2
    unfold soloB at h2
    rw [List.all_eq_true] at h2
    have hm : d ∈ cs.take i := List.mem_of_getElem? (i := j) (by rw [List.getElem?_take, if_pos hj, hd])
    have := h2 d hm
    simp [hp, he] at this
  · intro h i hi
    rw [List.mem_range] at hi
    have hc : cs[i]? = some cs[i] := List.getElem?_eq_getElem hi
    obtain ⟨h1, h2⟩ := h i _ hc
    rw [List.getD_eq_getElem?_getD, hc]
    simp only [Option.getD_some, Bool.and_eq_true]
    refine ⟨h1, ?_⟩
    unfold soloB
    rw [List.all_eq_true]
    intro d hd
    obtain ⟨j, hj⟩ := List.mem_iff_getElem?.1 hd
    rw [List.getElem?_take] at hj
    split at hj
    · next hji =>
      by_cases hp : cs[i].2.2.2.1 > 0
      · have := h2 j d hji hj hp
        simp [this]
      · simp [hp]
    · exact absurd hj (by simp)
/-- The first carpet on a loom, or -1. -/
def onB (cs : List C5) (loom : Int) : Int := match cs.findIdx? (fun c => decide (c.2.2.1 = 1) && decide (c.2.2.2.1 = loom)) with | some i => (i : Int) | none => -1
theorem onB_none {cs : List C5} {loom : Int} : onB cs loom < 0 ↔ ∀ c ∈ cs, ¬ (c.2.2.1 = 1 ∧ c.2.2.2.1 = loom) := by
  unfold onB
  split
  · next i h =>
    rw [List.findIdx?_eq_some_iff_getElem] at h
    obtain ⟨hi, hp, _⟩ := h
    simp only [Bool.and_eq_true, decide_eq_true_eq] at hp
    constructor
    · intro hl; omega
    · intro hh; exact absurd hp (hh _ (List.getElem_mem _))
  · next h =>
    rw [List.findIdx?_eq_none_iff] at h
    constructor
    · intro _ c hc; have := h c hc; simpa using this
    · intro _; omega
theorem onB_eq {cs : List C5} {loom : Int} {i : Nat} {c : C5} (hc : cs[i]? = some c) (h1 : c.2.2.1 = 1) (h2 : c.2.2.2.1 = loom) : onB cs loom = (i : Int) ↔ ∀ (j : Nat) (d : C5), j < i → cs[j]? = some d → ¬ (d.2.2.1 = 1 ∧ d.2.2.2.1 = loom) := by
  have hi := (List.getElem?_eq_some_iff.1 hc).1
  have hg := (List.getElem?_eq_some_iff.1 hc).2
  unfold onB
  split
  · next k h =>
    rw [List.findIdx?_eq_some_iff_getElem] at h
    obtain ⟨hk, hp, hq⟩ := h
    simp only [Bool.and_eq_true, decide_eq_true_eq] at hp
    constructor
    · intro e j d hj hd hh
      have : k = i := by omega
      subst this
      have := hq j hj
      rw [(List.getElem?_eq_some_iff.1 hd).2] at this
      simp [hh.1, hh.2] at this
    · intro hall
      rcases Nat.lt_trichotomy k i with hlt | e | hgt
      · exact absurd hp (hall k _ hlt (List.getElem?_eq_getElem hk))
      · rw [e]
      · have := hq i hgt
        rw [hg] at this; simp [h1, h2] at this
  · next h =>
    rw [List.findIdx?_eq_none_iff] at h
    have := h c (List.mem_of_getElem? hc)
    simp [h1, h2] at this
/-- What the program asks of each carpet. -/
def rowsI (day looms : Int) (cs : List C5) : Bool := (List.range cs.length).all fun i => carpB day looms (cs.getD i ⟨0, 0, 0, 0, 0⟩) && !(decide ((cs.getD i ⟨0, 0, 0, 0, 0⟩).2.2.1 = 1) && decide (onB cs (cs.getD i ⟨0, 0, 0, 0, 0⟩).2.2.2.1 ≠ (i : Int)))
theorem rowsI_eq (day looms : Int) (cs : List C5) : rowsI day looms cs = rowsB day looms cs := by
  rw [Bool.eq_iff_iff, rowsB_iff]
  unfold rowsI; rw [List.all_eq_true]
  have key : (∀ i ∈ List.range cs.length, (carpB day looms (cs.getD i ⟨0, 0, 0, 0, 0⟩) && !(decide ((cs.getD i ⟨0, 0, 0, 0, 0⟩).2.2.1 = 1) && decide (onB cs (cs.getD i ⟨0, 0, 0, 0, 0⟩).2.2.2.1 ≠ (i : Int)))) = true) ↔ ∀ (i : Nat) (c : C5), cs[i]? = some c → carpB day looms c = true ∧ (c.2.2.1 = 1 → onB cs c.2.2.2.1 = (i : Int)) := by
    constructor
    · intro h i c hc
      have := h i (List.mem_range.2 (List.getElem?_eq_some_iff.1 hc).1)
      rw [List.getD_eq_getElem?_getD, hc] at this
      simp only [Option.getD_some, Bool.and_eq_true] at this
      refine ⟨this.1, fun e => ?_⟩
      have h2 := this.2
      simpa [e] using h2
    · intro h i hi
      rw [List.mem_range] at hi
      obtain ⟨h1, h2⟩ := h i _ (List.getElem?_eq_getElem hi)
      rw [List.getD_eq_getElem?_getD, List.getElem?_eq_getElem hi]
      simp only [Option.getD_some, Bool.and_eq_true]
      refine ⟨h1, ?_⟩
      by_cases e : cs[i].2.2.1 = 1
      · simp [e, h2 e]
      · simp [e]
  rw [key]
  constructor
  · intro h i c hc
    obtain ⟨h1, h2⟩ := h i c hc
    refine ⟨h1, fun j d hj hd hp he => ?_⟩
    have hw := (carpB_woven h1).1 hp
    have hd1 := (h j d hd).1
    exact (onB_eq hc hw rfl).1 (h2 hw) j d hj hd ⟨(carpB_woven hd1).1 (by omega), he⟩
  · intro h i c hc
    obtain ⟨h1, h2⟩ := h i c hc
    refine ⟨h1, fun hw => (onB_eq hc hw rfl).2 fun j d hj hd hh => ?_⟩
    exact h2 j d hj hd ((carpB_woven h1).2 hw) hh.2
def newC (value day : Int) : C5 := ⟨value, 0, 0, 0, day⟩
def okStepS (looms : Int) (n : Nat) (kind carpet value : Int) : Bool :=
  if kind = 1 then decide (carpet = 0) && decide (value ≥ 1) else if kind = 2 then decide (carpet = 0) && inB value 1 500 else
  inB carpet 0 ((n : Int) - 1) && (if kind = 3 then inB value 1 looms else if kind = 4 then inB value 1 20 else if kind = 7 then decide (value ≥ 1) else (decide (kind = 5) || decide (kind = 6)) && decide (value = 0))
def chR (c : C5) (kind value day : Int) : C5 :=
  if kind = 3 then ⟨c.1, c.2.1, 1, value, day⟩ else if kind = 4 then ⟨c.1, w64 (c.2.1 + value), c.2.2.1, c.2.2.2.1, day⟩ else if kind = 5 then ⟨c.1, c.2.1, 2, 0, day⟩ else if kind = 6 then ⟨c.1, c.2.1, 3, c.2.2.2.1, day⟩ else ⟨c.1, c.2.1, 4, c.2.2.2.1, day⟩
def chOk (c : C5) (kind day : Int) : Bool :=
  if kind = 3 then decide (c.2.2.1 = 0) else if kind = 4 then decide (c.2.2.1 = 1) && decide (day - c.2.2.2.2 ≥ 1) else if kind = 5 then decide (c.2.2.1 = 1) else if kind = 6 then decide (c.2.2.1 = 2) else decide (c.2.2.1 = 3) && decide (day - c.2.2.2.2 ≥ 3)
def keepIf (b : Bool) (day looms : Int) (cs : List C5) (money : Int) : Option (Int × Int × List C5 × Int) := if b then some (day, looms, cs, money) else none
def makeS (day looms : Int) (cs : List C5) (money kind carpet value : Int) : Option (Int × Int × List C5 × Int) :=
  if kind = 1 then keepIf (!decide (value > 4000 - day)) (day + value) looms cs money
  else if kind = 2 then keepIf (shopB day looms (cs ++ [newC value day]) money) day looms (cs ++ [newC value day]) money
  else keepIf (!(decide (kind = 7) && decide (value > 1000000 - money)) && (chOk (rdC cs carpet) kind day && shopB day looms (cs.set carpet.toNat (chR (rdC cs carpet) kind value day)) (if kind = 7 then money + value else money))) day looms (cs.set carpet.toNat (chR (rdC cs carpet) kind value day)) (if kind = 7 then money + value else money)
def stepS (day looms : Int) (cs : List C5) (money kind carpet value : Int) : Option (Int × Int × List C5 × Int) :=
  if okStepS looms cs.length kind carpet value then makeS day looms cs money kind carpet value else none
def validI (kind carpet value : Int) : Bool :=
  if kind = 1 ∨ kind = 2 then decide (carpet = 0) && decide (value ≥ 1) else if kind = 3 ∨ kind = 7 then decide (value ≥ 1) else if kind = 4 then inB value 1 20 else (decide (kind = 5) || decide (kind = 6)) && decide (value = 0)
def canI (day : Int) (cs : List C5) (c : C5) (kind value : Int) : Bool :=
  if kind = 3 then decide (c.2.2.1 = 0) && decide (onB cs value < 0) else if kind = 4 then decide (c.2.2.1 = 1) && decide (day - c.2.2.2.2 ≥ 1) && decide (value ≤ c.1 - c.2.1) else if kind = 5 then decide (c.2.2.1 = 1) && decide (c.2.1 = c.1) else if kind = 6 then decide (c.2.2.1 = 2) else decide (c.2.2.1 = 3) && decide (day - c.2.2.2.2 ≥ 3)
def stepI (day looms : Int) (cs : List C5) (money kind carpet value : Int) : Option (Int × Int × List C5 × Int) :=
  if validI kind carpet value then
    if kind = 1 then keepIf (shopB (w64 (day + value)) looms cs money) (w64 (day + value)) looms cs money
    else if kind = 2 then keepIf (shopB day looms (cs ++ [newC value day]) money) day looms (cs ++ [newC value day]) money
    else keepIf (inB carpet 0 ((cs.length : Int) - 1) && canI day cs (rdC cs carpet) kind value && shopB day looms (cs.set carpet.toNat (chR (rdC cs carpet) kind value day)) (if kind = 7 then w64 (money + value) else money)) day looms (cs.set carpet.toNat (chR (rdC cs carpet) kind value day)) (if kind = 7 then w64 (money + value) else money)
  else none
theorem shopB_of {day looms money : Int} {cs : List C5} (h : shopB day looms cs money = true) : (0 ≤ day ∧ day ≤ 4000) ∧ (1 ≤ looms ∧ looms ≤ 4) ∧ (0 ≤ money ∧ money ≤ 1000000) ∧ cs.length ≤ 8 ∧ rowsB day looms cs = true := by
  unfold shopB at h; simp only [Bool.and_eq_true, inB_iff, decide_eq_true_eq] at h
  exact ⟨h.1.1.1.1, h.1.1.1.2, h.1.1.2, h.1.2, h.2⟩
theorem shopB_mk {day looms money : Int} {cs : List C5} (h1 : 0 ≤ day ∧ day ≤ 4000) (h2 : 1 ≤ looms ∧ looms ≤ 4) (h3 : 0 ≤ money ∧ money ≤ 1000000) (h4 : cs.length ≤ 8) (h5 : rowsB day looms cs = true) : shopB day looms cs money = true := by
  unfold shopB; simp only [Bool.and_eq_true, inB_iff, decide_eq_true_eq]; exact ⟨⟨⟨⟨h1, h2⟩, h3⟩, h4⟩, h5⟩
theorem keepIf_congr {b b' : Bool} {d l m d' l' m' : Int} {c c' : List C5} (hb : b = b') (h : b = true → d = d' ∧ l = l' ∧ c = c' ∧ m = m') : keepIf b d l c m = keepIf b' d' l' c' m' := by
  subst hb; unfold keepIf
  cases b with
  | false => rfl
  | true => obtain ⟨rfl, rfl, rfl, rfl⟩ := h rfl; rfl
theorem rowsB_day {day day' looms : Int} {cs : List C5} (h : rowsB day looms cs = true) (hd : day ≤ day') : rowsB day' looms cs = true := by
  rw [rowsB_iff] at h ⊢
  exact fun i c hc => ⟨carpB_day (h i c hc).1 hd, (h i c hc).2⟩
theorem atC_get {cs : List C5} {i : Int} (h : inB i 0 ((cs.length : Int) - 1) = true) : cs[i.toNat]? = some (rdC cs i) ∧ i.toNat < cs.length := by
  rw [inB_iff] at h
  have hl : i.toNat < cs.length := by omega
  exact ⟨by unfold rdC; rw [List.getD_eq_getElem?_getD, List.getElem?_eq_getElem hl]; rfl, hl⟩
theorem set_carp {day looms money : Int} {cs : List C5} {i : Nat} {c : C5} (h : shopB day looms (cs.set i c) money = true) (hi : i < cs.length) : carpB day looms c = true ∧ ∀ (j : Nat) (d : C5), j ≠ i → cs[j]? = some d → c.2.2.2.1 > 0 → d.2.2.2.1 ≠ c.2.2.2.1 := by
  have h := (shopB_of h).2.2.2.2
  rw [rowsB_iff] at h
  have hc : (cs.set i c)[i]? = some c := by rw [List.getElem?_set]; simp [hi]
  refine ⟨(h i c hc).1, fun j d hji hd hp he => ?_⟩
  have hd' : (cs.set i c)[j]? = some d := by rw [List.getElem?_set, if_neg (Ne.symm hji)]; exact hd
  rcases Nat.lt_or_gt_of_ne hji with hlt | hgt
  · exact (h i c hc).2 j d hlt hd' hp he
  · exact (h j d hd').2 i c hgt hc (by omega) he.symm
theorem step_eq {day looms money kind carpet value : Int} {cs : List C5} (hs : shopB day looms cs money = true) (hv : -9223372036854775808 ≤ value ∧ value ≤ 9223372036854775807) : stepI day looms cs money kind carpet value = stepS day looms cs money kind carpet value := by
  obtain ⟨a1, a2, a3, a4, a5⟩ := shopB_of hs
  unfold stepI stepS makeS
  by_cases k1 : kind = 1
  · subst k1
    simp only [validI, okStepS, if_true, true_or]
    by_cases e : (decide (carpet = 0) && decide (value ≥ 1)) = true
    · rw [if_pos e, if_pos e]
      have hv1 : value ≥ 1 := by simp at e; exact e.2
      apply keepIf_congr
      · by_cases g : value > 4000 - day
        · rw [decide_eq_true g]
          cases hq : shopB (w64 (day + value)) looms cs money with
          | false => rfl
          | true => have := (shopB_of hq).1; rw [w64_eq] at this; omega
        · rw [decide_eq_false g]
          rw [w64_id (by omega)]
          exact shopB_mk (by omega) a2 a3 a4 (rowsB_day a5 (by omega))
      · intro hb; have := (shopB_of hb).1
        refine ⟨?_, rfl, rfl, rfl⟩
        rw [w64_eq] at this ⊢; omega
    · rw [if_neg e, if_neg e]
  · by_cases k2 : kind = 2
    · subst k2
      simp only [validI, okStepS, or_true, if_true, if_neg (show ¬ (2 : Int) = 1 by omega)]
      by_cases e0 : carpet = 0
      · by_cases e1 : value ≥ 1
        · by_cases e2 : value ≤ 500
          · have : inB value 1 500 = true := inB_iff.2 ⟨e1, e2⟩
            simp [e0, e1, this]
          · have h1 : inB value 1 500 = false := by rw [← Bool.not_eq_true, inB_iff]; omega
            have h2 : shopB day looms (cs ++ [newC value day]) money = false := by
              rw [← Bool.not_eq_true]; intro hq
              have := (rowsB_iff.1 (shopB_of hq).2.2.2.2 cs.length (newC value day) (by simp)).1
              unfold carpB newC at this; simp only [Bool.and_eq_true, inB_iff] at this; omega
            simp [e0, e1, h1, h2, keepIf]
        · have h1 : inB value 1 500 = false := by rw [← Bool.not_eq_true, inB_iff]; omega
          simp [e1, h1]
      · simp [e0]
    · simp only [if_neg k1, if_neg k2]
      by_cases hr : inB carpet 0 ((cs.length : Int) - 1) = true
      · obtain ⟨hg, hl⟩ := atC_get hr
        generalize hcc : rdC cs carpet = c at *
        have hcarp := (rowsB_iff.1 a5 _ _ hg).1
        have hcarp' := hcarp
        unfold carpB at hcarp'
        simp only [Bool.and_eq_true, inB_iff] at hcarp'
        obtain ⟨⟨⟨⟨c0, c1⟩, c2⟩, c4⟩, c3⟩ := hcarp'
        rw [hr]
        by_cases k3 : kind = 3
        · subst k3
          simp only [validI, okStepS, chOk, canI, hr, if_true, or_true, true_or, if_neg (show ¬ (3 : Int) = 1 by omega), if_neg (show ¬ (3 : Int) = 2 by omega), if_neg (show ¬ (3 : Int) = 7 by omega), if_neg (show ¬ ((3 : Int) = 1 ∨ (3 : Int) = 2) by omega), Bool.true_and, show decide ((3 : Int) = 7) = false from rfl, Bool.false_and, Bool.not_false]
          by_cases e1 : value ≥ 1
          · rw [if_pos (by simpa using e1)]
            by_cases e2 : value ≤ looms
            · rw [if_pos (inB_iff.2 ⟨e1, e2⟩)]
              apply keepIf_congr _ (fun _ => ⟨rfl, rfl, rfl, rfl⟩)
              by_cases e3 : c.2.2.1 = 0
              · rw [decide_eq_true e3, Bool.true_and, Bool.true_and]
                cases hq : shopB day looms (cs.set carpet.toNat (chR c 3 value day)) money with
                | false => simp
                | true =>
                  have := (set_carp hq hl).2
                  simp only [Bool.and_true, decide_eq_true_eq]
                  rw [onB_none]
                  intro d hd hh
                  obtain ⟨j, hj⟩ := List.mem_iff_getElem?.1 hd
                  by_cases ej : j = carpet.toNat
                  · subst ej; rw [hg] at hj; injection hj with hj; subst hj; omega
                  · exact this j d ej hj (by simp [chR]; omega) (by simp [chR]; omega)
              · rw [decide_eq_false e3]; rfl
            · have h1 : inB value 1 looms = false := by rw [← Bool.not_eq_true, inB_iff]; omega
              rw [if_neg (by simp [h1])]
              have h2 : shopB day looms (cs.set carpet.toNat (chR c 3 value day)) money = false := by
                rw [← Bool.not_eq_true]; intro hq
                have := (set_carp hq hl).1
                unfold carpB chR at this; simp [inB_iff] at this; omega
              rw [h2]; simp [keepIf]
          · have h1 : inB value 1 looms = false := by rw [← Bool.not_eq_true, inB_iff]; omega
            rw [if_neg (by simpa using e1), if_neg (by simp [h1])]
        · by_cases k4 : kind = 4
          · subst k4
            simp only [validI, okStepS, chOk, canI, hr, if_true, if_neg (show ¬ (4 : Int) = 1 by omega), if_neg (show ¬ (4 : Int) = 2 by omega), if_neg (show ¬ (4 : Int) = 3 by omega), if_neg (show ¬ (4 : Int) = 7 by omega), if_neg (show ¬ ((4 : Int) = 1 ∨ (4 : Int) = 2) by omega), if_neg (show ¬ ((4 : Int) = 3 ∨ (4 : Int) = 7) by omega), Bool.true_and, show decide ((4 : Int) = 7) = false from rfl, Bool.false_and, Bool.not_false]
            by_cases e1 : inB value 1 20 = true
            · rw [if_pos e1, if_pos e1]
              apply keepIf_congr _ (fun _ => ⟨rfl, rfl, rfl, rfl⟩)
              by_cases e2 : value ≤ c.1 - c.2.1
              · simp [e2]
              · have h2 : shopB day looms (cs.set carpet.toNat (chR c 4 value day)) money = false := by
                  rw [← Bool.not_eq_true]; intro hq
                  have := (set_carp hq hl).1
                  rw [inB_iff] at e1
                  unfold carpB chR at this; simp [inB_iff] at this
                  rw [w64_id (by omega)] at this; omega
                rw [h2]; simp
            · rw [if_neg e1, if_neg e1]
          · by_cases k5 : kind = 5
            · subst k5
              simp only [validI, okStepS, chOk, canI, hr, if_true, if_neg (show ¬ (5 : Int) = 1 by omega), if_neg (show ¬ (5 : Int) = 2 by omega), if_neg (show ¬ (5 : Int) = 3 by omega), if_neg (show ¬ (5 : Int) = 4 by omega), if_neg (show ¬ (5 : Int) = 7 by omega), if_neg (show ¬ ((5 : Int) = 1 ∨ (5 : Int) = 2) by omega), if_neg (show ¬ ((5 : Int) = 3 ∨ (5 : Int) = 7) by omega), Bool.true_and, show decide ((5 : Int) = 7) = false from rfl, show decide ((5 : Int) = 5) = true from rfl, Bool.true_or, Bool.false_and, Bool.not_false]
              by_cases e1 : value = 0
              · rw [if_pos (by simpa using e1), if_pos (by simpa using e1)]
                apply keepIf_congr _ (fun _ => ⟨rfl, rfl, rfl, rfl⟩)
                by_cases e2 : c.2.1 = c.1
                · simp [e2]
                · have h2 : shopB day looms (cs.set carpet.toNat (chR c 5 value day)) money = false := by
                    rw [← Bool.not_eq_true]; intro hq
                    have := (set_carp hq hl).1
                    unfold carpB chR at this; simp [inB_iff] at this; omega
                  rw [h2]; simp
              · rw [if_neg (by simpa using e1), if_neg (by simpa using e1)]
            · by_cases k6 : kind = 6
              · subst k6
                simp only [validI, okStepS, chOk, canI, hr, if_true, if_neg (show ¬ (6 : Int) = 1 by omega), if_neg (show ¬ (6 : Int) = 2 by omega), if_neg (show ¬ (6 : Int) = 3 by omega), if_neg (show ¬ (6 : Int) = 4 by omega), if_neg (show ¬ (6 : Int) = 5 by omega), if_neg (show ¬ (6 : Int) = 7 by omega), if_neg (show ¬ ((6 : Int) = 1 ∨ (6 : Int) = 2) by omega), if_neg (show ¬ ((6 : Int) = 3 ∨ (6 : Int) = 7) by omega), Bool.true_and, show decide ((6 : Int) = 7) = false from rfl, show decide ((6 : Int) = 6) = true from rfl, Bool.or_true, Bool.false_and, Bool.not_false]
              · by_cases k7 : kind = 7
                · subst k7
                  simp only [validI, okStepS, chOk, canI, hr, if_true, or_true, if_neg (show ¬ (7 : Int) = 1 by omega), if_neg (show ¬ (7 : Int) = 2 by omega), if_neg (show ¬ (7 : Int) = 3 by omega), if_neg (show ¬ (7 : Int) = 4 by omega), if_neg (show ¬ (7 : Int) = 5 by omega), if_neg (show ¬ (7 : Int) = 6 by omega), if_neg (show ¬ ((7 : Int) = 1 ∨ (7 : Int) = 2) by omega), Bool.true_and, show decide ((7 : Int) = 7) = true from rfl]
                  by_cases e1 : value ≥ 1
                  · rw [if_pos (by simpa using e1), if_pos (by simpa using e1)]
                    by_cases e2 : value > 1000000 - money
                    · have h2 : shopB day looms (cs.set carpet.toNat (chR c 7 value day)) (w64 (money + value)) = false := by
                        rw [← Bool.not_eq_true]; intro hq
                        have := (shopB_of hq).2.2.1
                        rw [w64_eq] at this; omega
                      rw [h2]; simp [keepIf, e2]
                    · rw [w64_id (by omega)]
                      apply keepIf_congr _ (fun _ => ⟨rfl, rfl, rfl, rfl⟩)
                      simp [e2]
                  · rw [if_neg (by simpa using e1), if_neg (by simpa using e1)]
                · have h1 : validI kind carpet value = false := by unfold validI; simp [k1, k2, k3, k4, k5, k6, k7]
                  have h2 : okStepS looms cs.length kind carpet value = false := by unfold okStepS; simp [k1, k2, k3, k4, k5, k6, k7]
                  rw [h1, h2]; rfl
      · have hr' : inB carpet 0 ((cs.length : Int) - 1) = false := by simpa using hr
        rw [hr']
        have h2 : okStepS looms cs.length kind carpet value = false := by unfold okStepS; rw [if_neg k1, if_neg k2, hr']; rfl
        rw [h2]; simp [keepIf]
theorem keepIf_some {b : Bool} {d l m d' l' m' : Int} {c c' : List C5} (h : keepIf b d l c m = some (d', l', c', m')) : b = true ∧ d = d' ∧ l = l' ∧ c = c' ∧ m = m' := by
  unfold keepIf at h
  cases b with
  | false => simp at h
  | true => simp only [if_true, Option.some.injEq, Prod.mk.injEq] at h; exact ⟨rfl, h⟩
theorem stepS_good {day looms money kind carpet value day' looms' money' : Int} {cs cs' : List C5} (hs : shopB day looms cs money = true) (hv : -9223372036854775808 ≤ value ∧ value ≤ 9223372036854775807) (h : stepS day looms cs money kind carpet value = some (day', looms', cs', money')) : shopB day' looms' cs' money' = true := by
  rw [← step_eq hs hv] at h
  unfold stepI at h
  split at h
  · split at h
    · obtain ⟨hb, rfl, rfl, rfl, rfl⟩ := keepIf_some h; exact hb
    · split at h
      · obtain ⟨hb, rfl, rfl, rfl, rfl⟩ := keepIf_some h; exact hb
      · obtain ⟨hb, rfl, rfl, rfl, rfl⟩ := keepIf_some h; rw [Bool.and_eq_true] at hb; exact hb.2
  · exact absurd h (by simp)
/-- How a carpet goes on. -/
def GoesOn (day' : Int) (old c : C5) : Prop := c.1 = old.1 ∧ old.2.1 ≤ c.2.1 ∧ old.2.2.1 ≤ c.2.2.1 ∧ c.2.2.1 ≤ old.2.2.1 + 1 ∧ (c.2.2.1 ≥ 2 → c.2.1 = c.1) ∧ (c.2.2.1 = 4 → old.2.2.1 ≠ 4 → old.2.2.1 = 3 ∧ day' - old.2.2.2.2 ≥ 3)
theorem goesOn_same {day looms day' : Int} {c : C5} (h : carpB day looms c = true) : GoesOn day' c c := by
  have hc := h
  unfold carpB at hc
  simp only [Bool.and_eq_true, inB_iff] at hc
  refine ⟨rfl, Int.le_refl _, Int.le_refl _, by omega, fun h2 => ?_, fun h4 h5 => absurd h4 h5⟩
  have h3 := hc.2
  rw [if_neg (by omega), if_neg (by omega)] at h3
  simp at h3; exact h3.1
theorem stepS_law {day looms money kind carpet value day' looms' money' : Int} {cs cs' : List C5} (hs : shopB day looms cs money = true) (hv : -9223372036854775808 ≤ value ∧ value ≤ 9223372036854775807) (h : stepS day looms cs money kind carpet value = some (day', looms', cs', money')) : ∀ (i : Nat) (old : C5), cs[i]? = some old → ∃ c, cs'[i]? = some c ∧ GoesOn day' old c := by
  have hgood := stepS_good hs hv h
  have hrows := (shopB_of hs).2.2.2.2
  rw [rowsB_iff] at hrows
  unfold stepS at h
  split at h
  · next hok =>
    unfold makeS at h
    split at h
    · obtain ⟨hb, rfl, rfl, rfl, rfl⟩ := keepIf_some h
      exact fun i old ho => ⟨old, ho, goesOn_same (hrows i old ho).1⟩
    · split at h
      · obtain ⟨hb, rfl, rfl, rfl, rfl⟩ := keepIf_some h
        intro i old ho
        have hi := (List.getElem?_eq_some_iff.1 ho).1
        exact ⟨old, by rw [List.getElem?_append_left hi]; exact ho, goesOn_same (hrows i old ho).1⟩
      · next k1 k2 =>
        obtain ⟨hb, rfl, rfl, rfl, rfl⟩ := keepIf_some h
        unfold okStepS at hok
        rw [if_neg k1, if_neg k2, Bool.and_eq_true] at hok
        obtain ⟨hr, hok⟩ := hok
        obtain ⟨hg, hl⟩ := atC_get hr
        have hnew := (set_carp hgood hl).1
        intro i old ho
        by_cases e : carpet.toNat = i
        · subst e
          rw [hg] at ho; injection ho with ho
          refine ⟨_, by rw [List.getElem?_set]; simp [hl]; rfl, ?_⟩
          rw [ho] at hb hnew ⊢
          have hold := (hrows _ old (by rw [hg, ho])).1
          unfold carpB at hold hnew
          simp only [Bool.and_eq_true, inB_iff] at hold hnew
          obtain ⟨⟨⟨⟨c0, c1⟩, c2⟩, c4⟩, c3⟩ := hold
          obtain ⟨⟨⟨⟨d0, d1⟩, d2⟩, d4⟩, d3⟩ := hnew
          rw [Bool.and_eq_true, Bool.and_eq_true] at hb
          obtain ⟨_, hch, _⟩ := hb
          unfold chOk at hch
          by_cases k3 : kind = 3
          · subst k3; simp [chR] at hch ⊢ d3 d2 d1 d0 d4
            refine ⟨by simp, by simp, ?_, ?_, ?_, ?_⟩ <;> simp <;> omega
          · by_cases k4 : kind = 4
            · subst k4
              have hv20 : 1 ≤ value ∧ value ≤ 20 := by simpa [inB_iff] using hok
              simp [chR] at hch ⊢ d3 d2 d1 d0 d4
              have hw : w64 (old.2.1 + value) = old.2.1 + value := w64_id (by omega)
              rw [hw] at *
              refine ⟨by simp, ?_, by simp, ?_, ?_, ?_⟩ <;> simp <;> omega
            · by_cases k5 : kind = 5
              · subst k5; simp [chR] at hch ⊢ d3 d2 d1 d0 d4
                refine ⟨by simp, by simp, ?_, ?_, ?_, ?_⟩ <;> simp <;> omega
              · by_cases k6 : kind = 6
                · subst k6; simp [chR] at hch ⊢ d3 d2 d1 d0 d4
                  refine ⟨by simp, by simp, ?_, ?_, ?_, ?_⟩ <;> simp <;> omega
                · simp [chR, k3, k4, k5, k6] at hch ⊢ d3 d2 d1 d0 d4
                  refine ⟨by simp, by simp, ?_, ?_, ?_, ?_⟩ <;> simp <;> omega
        · exact ⟨old, by rw [List.getElem?_set, if_neg e]; exact ho, goesOn_same (hrows i old ho).1⟩
  · exact absurd h (by simp)
theorem implIn_eq (k : Nat) (n lo hi : Int) : impl_in.f k n lo hi = some (inB n lo hi) := by
  unfold impl_in.f impl_in.m inB; by_cases h : lo ≤ n <;> simp [h]
theorem specIn_eq (k : Nat) (n lo hi : Int) : spec_l1In.f k n lo hi = some (inB n lo hi) := by
  unfold spec_l1In.f spec_l1In.m inB; by_cases h : lo ≤ n <;> simp [h]
theorem implCarpet_eq (k : Nat) (day looms money : Int) (cs : List C5) (a b c d e : Int) : impl_Shop_isCarpet.f k day looms cs money a b c d e = some (carpB day looms ⟨a, b, c, d, e⟩) := by
  unfold impl_Shop_isCarpet.f impl_Shop_isCarpet.m carpB
  simp only [implIn_eq, Option.bind_some]
  cases h1 : inB a 1 500 <;> simp only [Bool.not_true, Bool.not_false, cond_true, cond_false, Bool.true_and, Bool.false_and, Bool.and_true, Bool.and_false, Bool.false_eq_true, Bool.true_or, Bool.or_true, Bool.false_or, Bool.or_false, Bool.or_self, Bool.and_self, decide_true, decide_false, if_true, if_false, not_true, not_false_eq_true, not_true_eq_false, false_or, or_false, true_and, and_true, Bool.not_eq_true, Bool.true_eq_false, reduceCtorEq]
  cases h2 : inB b 0 a <;> simp only [Bool.not_true, Bool.not_false, cond_true, cond_false, Bool.true_and, Bool.false_and, Bool.and_true, Bool.and_false, Bool.false_eq_true, Bool.true_or, Bool.or_true, Bool.false_or, Bool.or_false, Bool.or_self, Bool.and_self, decide_true, decide_false, if_true, if_false, not_true, not_false_eq_true, not_true_eq_false, false_or, or_false, true_and, and_true, Bool.not_eq_true, Bool.true_eq_false, reduceCtorEq]
  cases h3 : inB c 0 4 <;> simp only [Bool.not_true, Bool.not_false, cond_true, cond_false, Bool.true_and, Bool.false_and, Bool.and_true, Bool.and_false, Bool.false_eq_true, Bool.true_or, Bool.or_true, Bool.false_or, Bool.or_false, Bool.or_self, Bool.and_self, decide_true, decide_false, if_true, if_false, not_true, not_false_eq_true, not_true_eq_false, false_or, or_false, true_and, and_true, Bool.not_eq_true, Bool.true_eq_false, reduceCtorEq]
  cases h4 : inB e 0 day <;> simp only [Bool.not_true, Bool.not_false, cond_true, cond_false, Bool.true_and, Bool.false_and, Bool.and_true, Bool.and_false, Bool.false_eq_true, Bool.true_or, Bool.or_true, Bool.false_or, Bool.or_false, Bool.or_self, Bool.and_self, decide_true, decide_false, if_true, if_false, not_true, not_false_eq_true, not_true_eq_false, false_or, or_false, true_and, and_true, Bool.not_eq_true, Bool.true_eq_false, reduceCtorEq]
  by_cases h5 : c = 0
  · subst h5; by_cases h6 : b = 0 <;> simp [h6]
  · by_cases h6 : c = 1
    · simp [h5, h6]
    · by_cases h7 : b = a <;> simp [h5, h6, h7]
theorem specCarpet_eq (k : Nat) (day looms money : Int) (cs : List C5) (a b c d e : Int) : spec_l25Carpet.f k day looms cs money a b c d e = some (carpB day looms ⟨a, b, c, d, e⟩) := by
  unfold spec_l25Carpet.f spec_l25Carpet.m carpB
  simp only [specIn_eq, Option.bind_some]
  cases h1 : inB a 1 500 <;> simp only [Bool.not_true, Bool.not_false, cond_true, cond_false, Bool.true_and, Bool.false_and, Bool.and_true, Bool.and_false, Bool.false_eq_true, Bool.true_or, Bool.or_true, Bool.false_or, Bool.or_false, Bool.or_self, Bool.and_self, decide_true, decide_false, if_true, if_false, not_true, not_false_eq_true, not_true_eq_false, false_or, or_false, true_and, and_true, Bool.not_eq_true, Bool.true_eq_false, reduceCtorEq]
  cases h2 : inB b 0 a <;> simp only [Bool.not_true, Bool.not_false, cond_true, cond_false, Bool.true_and, Bool.false_and, Bool.and_true, Bool.and_false, Bool.false_eq_true, Bool.true_or, Bool.or_true, Bool.false_or, Bool.or_false, Bool.or_self, Bool.and_self, decide_true, decide_false, if_true, if_false, not_true, not_false_eq_true, not_true_eq_false, false_or, or_false, true_and, and_true, Bool.not_eq_true, Bool.true_eq_false, reduceCtorEq]
  cases h3 : inB c 0 4 <;> simp only [Bool.not_true, Bool.not_false, cond_true, cond_false, Bool.true_and, Bool.false_and, Bool.and_true, Bool.and_false, Bool.false_eq_true, Bool.true_or, Bool.or_true, Bool.false_or, Bool.or_false, Bool.or_self, Bool.and_self, decide_true, decide_false, if_true, if_false, not_true, not_false_eq_true, not_true_eq_false, false_or, or_false, true_and, and_true, Bool.not_eq_true, Bool.true_eq_false, reduceCtorEq]
  cases h4 : inB e 0 day <;> simp only [Bool.not_true, Bool.not_false, cond_true, cond_false, Bool.true_and, Bool.false_and, Bool.and_true, Bool.and_false, Bool.false_eq_true, Bool.true_or, Bool.or_true, Bool.false_or, Bool.or_false, Bool.or_self, Bool.and_self, decide_true, decide_false, if_true, if_false, not_true, not_false_eq_true, not_true_eq_false, false_or, or_false, true_and, and_true, Bool.not_eq_true, Bool.true_eq_false, reduceCtorEq]
  by_cases h6 : c = 1
  · simp [h6]
  · by_cases h5 : c = 0
    · subst h5; by_cases h7 : d = 0 <;> simp [h7]
    · by_cases h7 : d = 0 <;> simp [h5, h6, h7]
theorem onLoom_eq (k : Nat) (day looms money : Int) (cs : List C5) (hl : cs.length ≤ 100000000000000) (hk : cs.length + 50 < k) (loom : Int) : impl_Shop_onLoom.f k day looms cs money loom = some (onB cs loom) := by
  unfold impl_Shop_onLoom.f impl_Shop_onLoom.m slices_IndexFunc_impl_Carpet_impl_Carpet__impl_Shop_onLoom_1.f slices_IndexFunc_impl_Carpet_impl_Carpet__impl_Shop_onLoom_1.m
  have h := (find_loop (L := fun k i => slices_IndexFunc_impl_Carpet_impl_Carpet__impl_Shop_onLoom_1.l3 k cs loom cs.length (i : Int)) (n := cs.length) (K0 := 20) (ok := fun i => decide ((cs.getD i (0, 0, 0, 0, 0)).2.2.1 = 1) && decide ((cs.getD i (0, 0, 0, 0, 0)).2.2.2.1 = loom)) (fun k i hk hi => ?_) (fun k hk => ?_)) cs.length k 0 (by omega) (by omega)
  · rw [show ((0 : Nat) : Int) = 0 from rfl] at h
    by_cases ha : ∀ i, i < cs.length → (!(decide ((cs.getD i (0, 0, 0, 0, 0)).2.2.1 = 1) && decide ((cs.getD i (0, 0, 0, 0, 0)).2.2.2.1 = loom))) = true
    · rw [h.1 (fun j _ hj => by have := ha j hj; rwa [Bool.not_eq_true'] at this)]
      have : onB cs loom = -1 := by
        unfold onB
        have hn : cs.findIdx? (fun c => decide (c.2.2.1 = 1) && decide (c.2.2.2.1 = loom)) = none := by
          rw [List.findIdx?_eq_none_iff]; intro c hc
          obtain ⟨j, hj, rfl⟩ := List.mem_iff_getElem.1 hc
          have := ha j hj
          rw [getD_lt hj, Bool.not_eq_true'] at this; exact this
        rw [hn]
      rw [this]; rfl
    · obtain ⟨t, h1, h2, h3⟩ := first_bad ha
      rw [Bool.not_eq_false'] at h2
      rw [h.2 t (Nat.zero_le _) h1 h2 (fun j _ hj => by have := h3 j hj; rwa [Bool.not_eq_true'] at this)]
      simp only [Bool.and_eq_true, decide_eq_true_eq] at h2
      rw [getD_lt h1] at h2
      have := (onB_eq (List.getElem?_eq_getElem h1) h2.1 h2.2).2 (fun j d hj hd hc => by
        have := h3 j hj
        rw [getD_lt (by omega), (List.getElem?_eq_some_iff.1 hd).2] at this
        simp [hc.1, hc.2] at this)
      rw [this]; rfl
  · simp (disch := omega) only [slices_IndexFunc_impl_Carpet_impl_Carpet__impl_Shop_onLoom_1.l3, slices_IndexFunc_impl_Carpet_impl_Carpet__impl_Shop_onLoom_1.b3, impl_Shop_onLoom_1.f, impl_Shop_onLoom_1.m, if_pos, chk_nat, Option.bind_some, w64_id, Int.natCast_add, Int.cast_ofNat_Int]
    by_cases e : (cs.getD i (0, 0, 0, 0, 0)).2.2.1 = 1 <;> by_cases e2 : (cs.getD i (0, 0, 0, 0, 0)).2.2.2.1 = loom <;> simp only [e, e2, Bool.not_true, Bool.not_false, cond_true, cond_false, Bool.true_and, Bool.false_and, Bool.and_true, Bool.and_false, Bool.false_eq_true, Bool.true_or, Bool.or_true, Bool.false_or, Bool.or_false, Bool.or_self, Bool.and_self, decide_true, decide_false, if_true, if_false, not_true, not_false_eq_true, not_true_eq_false, false_or, or_false, true_and, and_true, Bool.not_eq_true, Bool.true_eq_false, reduceCtorEq, Option.bind_some]
  · simp (disch := omega) only [slices_IndexFunc_impl_Carpet_impl_Carpet__impl_Shop_onLoom_1.l3, slices_IndexFunc_impl_Carpet_impl_Carpet__impl_Shop_onLoom_1.b3, if_neg]
theorem isShop_eq (k : Nat) (day looms money : Int) (cs : List C5) (hk : 300 ≤ k) : impl_IsShop.f k day looms cs money = some (shopB day looms cs money) := by
  unfold impl_IsShop.f impl_IsShop.m shopB impl_isDay.f impl_isDay.m
  simp only [implIn_eq, Option.bind_some]
  cases h1 : inB day 0 4000 <;> simp only [Bool.not_true, Bool.not_false, cond_true, cond_false, Bool.true_and, Bool.false_and, Bool.and_true, Bool.and_false, Bool.false_eq_true, Bool.true_or, Bool.or_true, Bool.false_or, Bool.or_false, Bool.or_self, Bool.and_self, decide_true, decide_false, if_true, if_false, not_true, not_false_eq_true, not_true_eq_false, false_or, or_false, true_and, and_true, Bool.not_eq_true, Bool.true_eq_false, reduceCtorEq]
  cases h2 : inB looms 1 4 <;> simp only [Bool.not_true, Bool.not_false, cond_true, cond_false, Bool.true_and, Bool.false_and, Bool.and_true, Bool.and_false, Bool.false_eq_true, Bool.true_or, Bool.or_true, Bool.false_or, Bool.or_false, Bool.or_self, Bool.and_self, decide_true, decide_false, if_true, if_false, not_true, not_false_eq_true, not_true_eq_false, false_or, or_false, true_and, and_true, Bool.not_eq_true, Bool.true_eq_false, reduceCtorEq]
  by_cases h4 : 8 < (cs.length : Int)
  · rw [if_pos h4, decide_eq_false (show ¬ cs.length ≤ 8 by omega)]; simp only [Bool.not_true, Bool.not_false, cond_true, cond_false, Bool.true_and, Bool.false_and, Bool.and_true, Bool.and_false, Bool.false_eq_true, Bool.true_or, Bool.or_true, Bool.false_or, Bool.or_false, Bool.or_self, Bool.and_self, decide_true, decide_false, if_true, if_false, not_true, not_false_eq_true, not_true_eq_false, false_or, or_false, true_and, and_true, Bool.not_eq_true, Bool.true_eq_false, reduceCtorEq]
  · rw [if_neg h4, decide_eq_true (show cs.length ≤ 8 by omega)]
    cases h3 : inB money 0 1000000 <;> simp only [Bool.not_true, Bool.not_false, cond_true, cond_false, Bool.true_and, Bool.false_and, Bool.and_true, Bool.and_false, Bool.false_eq_true, Bool.true_or, Bool.or_true, Bool.false_or, Bool.or_false, Bool.or_self, Bool.and_self, decide_true, decide_false, if_true, if_false, not_true, not_false_eq_true, not_true_eq_false, false_or, or_false, true_and, and_true, Bool.not_eq_true, Bool.true_eq_false, reduceCtorEq]
    rw [← rowsI_eq]
    have hq := (all_loop (L := fun k i => impl_IsShop.l6 k day looms cs money cs cs.length (i : Int)) (n := cs.length) (K0 := 200) (ok := fun i => carpB day looms (cs.getD i (0, 0, 0, 0, 0)) && !(decide ((cs.getD i (0, 0, 0, 0, 0)).2.2.1 = 1) && decide (onB cs (cs.getD i (0, 0, 0, 0, 0)).2.2.2.1 ≠ (i : Int)))) (f := some false) (fun k i hk hi => ?_)) cs.length k 0 (by omega) (by omega)
    · rw [show ((0 : Nat) : Int) = 0 from rfl] at hq
      unfold rowsI
      by_cases hc : (List.range cs.length).all (fun i => carpB day looms (cs.getD i (0, 0, 0, 0, 0)) && !(decide ((cs.getD i (0, 0, 0, 0, 0)).2.2.1 = 1) && decide (onB cs (cs.getD i (0, 0, 0, 0, 0)).2.2.2.1 ≠ (i : Int)))) = true
      · rw [hc]
        rw [List.all_eq_true] at hc
        exact hq.1 (some true) (fun k hk => by simp (disch := omega) only [impl_IsShop.l6, impl_IsShop.b6, if_neg]) (fun j _ hj => hc j (List.mem_range.2 hj))
      · rw [notB hc]
        exact hq.2 (exists_bad fun hn => hc (by rw [List.all_eq_true]; intro j hj; exact hn j (List.mem_range.1 hj)))
    · simp (disch := omega) only [impl_IsShop.l6, impl_IsShop.b6, if_pos, chk_nat, Option.bind_some, w64_id, implCarpet_eq, onLoom_eq, Int.natCast_add, Int.cast_ofNat_Int]
      cases q1 : carpB day looms (cs.getD i (0, 0, 0, 0, 0)) <;> simp only [q1, Bool.not_true, Bool.not_false, cond_true, cond_false, Bool.true_and, Bool.false_and, Bool.and_true, Bool.and_false, Bool.false_eq_true, Bool.true_or, Bool.or_true, Bool.false_or, Bool.or_false, Bool.or_self, Bool.and_self, decide_true, decide_false, if_true, if_false, not_true, not_false_eq_true, not_true_eq_false, false_or, or_false, true_and, and_true, Bool.not_eq_true, Bool.true_eq_false, reduceCtorEq]
      by_cases q2 : (cs.getD i (0, 0, 0, 0, 0)).2.2.1 = 1
      · by_cases q3 : onB cs (cs.getD i (0, 0, 0, 0, 0)).2.2.2.1 = (i : Int) <;> simp only [q2, q3, Bool.not_true, Bool.not_false, cond_true, cond_false, Bool.true_and, Bool.false_and, Bool.and_true, Bool.and_false, Bool.false_eq_true, Bool.true_or, Bool.or_true, Bool.false_or, Bool.or_false, Bool.or_self, Bool.and_self, decide_true, decide_false, if_true, if_false, not_true, not_false_eq_true, not_true_eq_false, false_or, or_false, true_and, and_true, Bool.not_eq_true, Bool.true_eq_false, reduceCtorEq, ne_eq]
      · simp only [q2, Bool.not_true, Bool.not_false, cond_true, cond_false, Bool.true_and, Bool.false_and, Bool.and_true, Bool.and_false, Bool.false_eq_true, Bool.true_or, Bool.or_true, Bool.false_or, Bool.or_false, Bool.or_self, Bool.and_self, decide_true, decide_false, if_true, if_false, not_true, not_false_eq_true, not_true_eq_false, false_or, or_false, true_and, and_true, Bool.not_eq_true, Bool.true_eq_false, reduceCtorEq]
theorem good_l1 (day looms money : Int) (cs : List C5) (hl : cs.length ≤ 1000) (i : Nat) (hi : i < cs.length) : ∀ (d k j : Nat), j + d = i → d + 2 < k → (∀ c ∈ cs.take j, ¬ ((rdC cs (i : Int)).2.2.2.1 > 0 ∧ c.2.2.2.1 = (rdC cs (i : Int)).2.2.2.1)) → ((soloB cs i (rdC cs (i : Int)) = true ∧ spec_l25Good.l14 k day looms cs money (i : Int) (j : Int) = spec_l25Good.l6 (k - d - 1) day looms cs money ((i + 1 : Nat) : Int)) ∨ (soloB cs i (rdC cs (i : Int)) = false ∧ spec_l25Good.l14 k day looms cs money (i : Int) (j : Int) = some false)) := by
  intro d
  induction d with
  | zero =>
    intro k j h1 h2 h3
    obtain ⟨k, rfl⟩ := succ_of (show 0 < k by omega)
    have : j = i := by omega
    subst this
    refine .inl ⟨?_, ?_⟩
    · unfold soloB; rw [List.all_eq_true]; intro c hc; have := h3 c hc; rw [Bool.not_eq_true', ← Bool.not_eq_true]; simp only [Bool.and_eq_true, decide_eq_true_eq]; exact this
    · simp (disch := omega) only [spec_l25Good.l14, spec_l25Good.b14, if_neg, w64_id]; rfl
  | succ d ih =>
    intro k j h1 h2 h3
    obtain ⟨k, rfl⟩ := succ_of (show 0 < k by omega)
    have hj : j < cs.length := by omega
    have haj : cs.getD j (0, 0, 0, 0, 0) = cs[j] := getD_lt hj
    have htake : cs.take (j + 1) = cs.take j ++ [cs[j]] := List.take_succ_eq_append_getElem hj
    have hmem : cs[j] ∈ cs.take i := List.mem_of_getElem? (i := j) (by rw [List.getElem?_take, if_pos (by omega), List.getElem?_eq_getElem hj])
    simp (disch := omega) only [spec_l25Good.l14, spec_l25Good.b14, if_pos, chk_nat, Option.bind_some, w64_id, haj]
    rw [← rdC_nat, show ((j : Int) + 1) = ((j + 1 : Nat) : Int) by omega]
    have hcont : ¬ ((rdC cs (i : Int)).2.2.2.1 > 0 ∧ cs[j].2.2.2.1 = (rdC cs (i : Int)).2.2.2.1) → ((soloB cs i (rdC cs (i : Int)) = true ∧ spec_l25Good.l14 k day looms cs money (i : Int) ((j + 1 : Nat) : Int) = spec_l25Good.l6 (k + 1 - (d + 1) - 1) day looms cs money ((i + 1 : Nat) : Int)) ∨ (soloB cs i (rdC cs (i : Int)) = false ∧ spec_l25Good.l14 k day looms cs money (i : Int) ((j + 1 : Nat) : Int) = some false)) := by
      intro hn
      rw [show k + 1 - (d + 1) - 1 = k - d - 1 by omega]
      exact ih k (j + 1) (by omega) (by omega) (fun c hc => by
        rw [htake, List.mem_append, List.mem_singleton] at hc
        rcases hc with hc | rfl
        · exact h3 c hc
        · exact hn)
    by_cases e1 : 0 < (rdC cs (i : Int)).2.2.2.1
    · simp only [e1, Bool.not_true, Bool.not_false, cond_true, cond_false, Bool.true_and, Bool.false_and, Bool.and_true, Bool.and_false, Bool.false_eq_true, Bool.true_or, Bool.or_true, Bool.false_or, Bool.or_false, Bool.or_self, Bool.and_self, decide_true, decide_false, if_true, if_false, not_true, not_false_eq_true, not_true_eq_false, false_or, or_false, true_and, and_true, Bool.not_eq_true, Bool.true_eq_false, reduceCtorEq]
      by_cases e2 : cs[j].2.2.2.1 = (rdC cs (i : Int)).2.2.2.1
      · simp only [e2, Bool.not_true, Bool.not_false, cond_true, cond_false, Bool.true_and, Bool.false_and, Bool.and_true, Bool.and_false, Bool.false_eq_true, Bool.true_or, Bool.or_true, Bool.false_or, Bool.or_false, Bool.or_self, Bool.and_self, decide_true, decide_false, if_true, if_false, not_true, not_false_eq_true, not_true_eq_false, false_or, or_false, true_and, and_true, Bool.not_eq_true, Bool.true_eq_false, reduceCtorEq]
        refine .inr ?_
        unfold soloB; rw [← Bool.not_eq_true, List.all_eq_true]; intro hh
        have := hh _ hmem
        simp [e1, e2] at this
      · simp only [e2, Bool.not_true, Bool.not_false, cond_true, cond_false, Bool.true_and, Bool.false_and, Bool.and_true, Bool.and_false, Bool.false_eq_true, Bool.true_or, Bool.or_true, Bool.false_or, Bool.or_false, Bool.or_self, Bool.and_self, decide_true, decide_false, if_true, if_false, not_true, not_false_eq_true, not_true_eq_false, false_or, or_false, true_and, and_true, Bool.not_eq_true, Bool.true_eq_false, reduceCtorEq]; exact hcont (fun h => e2 h.2)
    · simp only [e1, Bool.not_true, Bool.not_false, cond_true, cond_false, Bool.true_and, Bool.false_and, Bool.and_true, Bool.and_false, Bool.false_eq_true, Bool.true_or, Bool.or_true, Bool.false_or, Bool.or_false, Bool.or_self, Bool.and_self, decide_true, decide_false, if_true, if_false, not_true, not_false_eq_true, not_true_eq_false, false_or, or_false, true_and, and_true, Bool.not_eq_true, Bool.true_eq_false, reduceCtorEq]; exact hcont (fun h => e1 h.1)
def pS (day looms : Int) (cs : List C5) (i : Nat) : Bool := carpB day looms (rdC cs (i : Int)) && soloB cs i (rdC cs (i : Int))
theorem rowsB_pS (day looms : Int) (cs : List C5) : rowsB day looms cs = (List.range cs.length).all (pS day looms cs) := by unfold rowsB pS; simp only [rdC_nat]
theorem good_l (day looms money : Int) (cs : List C5) (hl : cs.length ≤ 8) : ∀ (d k i : Nat), i + d = cs.length → 12 * d + 5 < k → (∀ j, j < i → pS day looms cs j = true) → spec_l25Good.l6 k day looms cs money (i : Int) = some (rowsB day looms cs) := by
  intro d
  induction d with
  | zero =>
    intro k i h1 h2 h3
    obtain ⟨k, rfl⟩ := succ_of (show 0 < k by omega)
    simp (disch := omega) only [spec_l25Good.l6, spec_l25Good.b6, if_neg]; rw [rowsB_pS]
    congr 1; symm; rw [List.all_eq_true]; intro j hj; rw [List.mem_range] at hj; exact h3 j (by omega)
  | succ d ih =>
    intro k i h1 h2 h3
    obtain ⟨k, rfl⟩ := succ_of (show 0 < k by omega)
    simp (disch := omega) only [spec_l25Good.l6, spec_l25Good.b6, if_pos, chk_nat, Option.bind_some, specCarpet_eq]
    rw [← rdC_nat]
    have hfail : pS day looms cs i = false → rowsB day looms cs = false := by
      intro hp; rw [rowsB_pS, ← Bool.not_eq_true, List.all_eq_true]; intro hh
      have := hh i (by rw [List.mem_range]; omega); rw [hp] at this; exact absurd this (by simp)
    by_cases e1 : carpB day looms (rdC cs (i : Int)) = true
    · rw [show ((rdC cs (i : Int)).1, (rdC cs (i : Int)).2.1, (rdC cs (i : Int)).2.2.1, (rdC cs (i : Int)).2.2.2.1, (rdC cs (i : Int)).2.2.2.2) = rdC cs (i : Int) from rfl, e1]; simp only [Bool.not_true, Bool.not_false, cond_true, cond_false, Bool.true_and, Bool.false_and, Bool.and_true, Bool.and_false, Bool.false_eq_true, Bool.true_or, Bool.or_true, Bool.false_or, Bool.or_false, Bool.or_self, Bool.and_self, decide_true, decide_false, if_true, if_false, not_true, not_false_eq_true, not_true_eq_false, false_or, or_false, true_and, and_true, Bool.not_eq_true, Bool.true_eq_false, reduceCtorEq]
      have f2 := good_l1 day looms money cs (by omega) i (by omega) i k 0 (by omega) (by omega) (by simp)
      rw [show ((0 : Nat) : Int) = 0 from rfl] at f2
      rcases f2 with ⟨g1, g2⟩ | ⟨g1, g2⟩
      · rw [g2]
        refine ih _ (i + 1) (by omega) (by omega) fun j hj => ?_
        by_cases e : j = i
        · subst e; unfold pS; simp [e1, g1]
        · exact h3 j (by omega)
      · rw [g2, hfail (by unfold pS; simp [g1])]
    · rw [show ((rdC cs (i : Int)).1, (rdC cs (i : Int)).2.1, (rdC cs (i : Int)).2.2.1, (rdC cs (i : Int)).2.2.2.1, (rdC cs (i : Int)).2.2.2.2) = rdC cs (i : Int) from rfl, notB e1]; simp only [Bool.not_true, Bool.not_false, cond_true, cond_false, Bool.true_and, Bool.false_and, Bool.and_true, Bool.and_false, Bool.false_eq_true, Bool.true_or, Bool.or_true, Bool.false_or, Bool.or_false, Bool.or_self, Bool.and_self, decide_true, decide_false, if_true, if_false, not_true, not_false_eq_true, not_true_eq_false, false_or, or_false, true_and, and_true, Bool.not_eq_true, Bool.true_eq_false, reduceCtorEq]
      rw [hfail (by unfold pS; simp [e1])]
theorem good_eq (k : Nat) (day looms money : Int) (cs : List C5) (hk : 300 ≤ k) : spec_l25Good.f k day looms cs money = some (shopB day looms cs money) := by
  unfold spec_l25Good.f spec_l25Good.m shopB spec_l2Day.f spec_l2Day.m
  simp only [specIn_eq, Option.bind_some]
  cases h1 : inB day 0 4000 <;> simp only [Bool.not_true, Bool.not_false, cond_true, cond_false, Bool.true_and, Bool.false_and, Bool.and_true, Bool.and_false, Bool.false_eq_true, Bool.true_or, Bool.or_true, Bool.false_or, Bool.or_false, Bool.or_self, Bool.and_self, decide_true, decide_false, if_true, if_false, not_true, not_false_eq_true, not_true_eq_false, false_or, or_false, true_and, and_true, Bool.not_eq_true, Bool.true_eq_false, reduceCtorEq]
  cases h2 : inB looms 1 4 <;> simp only [Bool.not_true, Bool.not_false, cond_true, cond_false, Bool.true_and, Bool.false_and, Bool.and_true, Bool.and_false, Bool.false_eq_true, Bool.true_or, Bool.or_true, Bool.false_or, Bool.or_false, Bool.or_self, Bool.and_self, decide_true, decide_false, if_true, if_false, not_true, not_false_eq_true, not_true_eq_false, false_or, or_false, true_and, and_true, Bool.not_eq_true, Bool.true_eq_false, reduceCtorEq]
  cases h3 : inB money 0 1000000 <;> simp only [Bool.not_true, Bool.not_false, cond_true, cond_false, Bool.true_and, Bool.false_and, Bool.and_true, Bool.and_false, Bool.false_eq_true, Bool.true_or, Bool.or_true, Bool.false_or, Bool.or_false, Bool.or_self, Bool.and_self, decide_true, decide_false, if_true, if_false, not_true, not_false_eq_true, not_true_eq_false, false_or, or_false, true_and, and_true, Bool.not_eq_true, Bool.true_eq_false, reduceCtorEq]
  by_cases h4 : 8 < (cs.length : Int)
  · rw [if_pos h4, decide_eq_false (show ¬ cs.length ≤ 8 by omega)]; simp only [Bool.not_true, Bool.not_false, cond_true, cond_false, Bool.true_and, Bool.false_and, Bool.and_true, Bool.and_false, Bool.false_eq_true, Bool.true_or, Bool.or_true, Bool.false_or, Bool.or_false, Bool.or_self, Bool.and_self, decide_true, decide_false, if_true, if_false, not_true, not_false_eq_true, not_true_eq_false, false_or, or_false, true_and, and_true, Bool.not_eq_true, Bool.true_eq_false, reduceCtorEq]
  · rw [if_neg h4, decide_eq_true (show cs.length ≤ 8 by omega)]; simp only [Bool.not_true, Bool.not_false, cond_true, cond_false, Bool.true_and, Bool.false_and, Bool.and_true, Bool.and_false, Bool.false_eq_true, Bool.true_or, Bool.or_true, Bool.false_or, Bool.or_false, Bool.or_self, Bool.and_self, decide_true, decide_false, if_true, if_false, not_true, not_false_eq_true, not_true_eq_false, false_or, or_false, true_and, and_true, Bool.not_eq_true, Bool.true_eq_false, reduceCtorEq]
    exact good_l day looms money cs (by omega) cs.length k 0 (by omega) (by omega) (fun j hj => absurd hj (by omega))
theorem valid_eq (k : Nat) (hk : 3 ≤ k) (kind carpet value : Int) : impl_ShopStep_isValid.f k kind carpet value = some (validI kind carpet value) := by
  obtain ⟨k, rfl⟩ := succ_of (show 0 < k by omega)
  obtain ⟨k, rfl⟩ := succ_of (show 0 < k by omega)
  unfold impl_ShopStep_isValid.f impl_ShopStep_isValid.m validI
  simp only [impl_ShopStep_isValid.l3, impl_ShopStep_isValid.b3, impl_ShopStep_isValid.l6, impl_ShopStep_isValid.b6, implIn_eq, Option.bind_some]
  by_cases k1 : kind = 1
  · subst k1; by_cases h : carpet = 0 <;> simp [h]
  · by_cases k2 : kind = 2
    · subst k2; by_cases h : carpet = 0 <;> simp [h]
    · by_cases k3 : kind = 3
      · subst k3; simp
      · by_cases k7 : kind = 7
        · subst k7; simp
        · by_cases k4 : kind = 4
          · subst k4; simp
          · by_cases k5 : kind = 5
            · subst k5; simp
            · by_cases k6 : kind = 6
              · subst k6; simp
              · simp [k1, k2, k3, k4, k5, k6, k7]
theorem change_eq (k : Nat) {day looms money kind carpet value : Int} {cs : List C5} (hr : inB carpet 0 ((cs.length : Int) - 1) = true) (hv : validI kind carpet value = true) (k1 : ¬ kind = 1) (k2 : ¬ kind = 2) : impl_Shop_change.f k day looms cs money kind carpet value = some (day, looms, cs.set carpet.toNat (chR (rdC cs carpet) kind value day), if kind = 7 then w64 (money + value) else money) := by
  obtain ⟨hg, hl⟩ := atC_get hr
  rw [inB_iff] at hr
  have hat : ∀ c : C5, (cs.set carpet.toNat c).getD carpet.toNat (0, 0, 0, 0, 0) = c := fun c => by
    rw [getD_set hl, if_pos rfl]
  unfold impl_Shop_change.f impl_Shop_change.m
  rw [chk_int (by omega)]; simp only [Option.bind_some, upd_of, hat, List.set_set]
  have hrd : cs.getD carpet.toNat (0, 0, 0, 0, 0) = rdC cs carpet := rfl
  rw [hrd]
  unfold chR
  by_cases k3 : kind = 3
  · subst k3; simp
  · by_cases k4 : kind = 4
    · subst k4; simp
    · by_cases k5 : kind = 5
      · subst k5; simp
      · by_cases k6 : kind = 6
        · subst k6; simp
        · by_cases k7 : kind = 7
          · subst k7; simp
          · unfold validI at hv; simp [k1, k2, k3, k4, k5, k6, k7] at hv
theorem can_eq (k : Nat) {day looms money kind carpet value : Int} {cs : List C5} (c : C5) (hl : cs.length ≤ 1000) (hk : 1100 < k) (hd : 0 ≤ day ∧ day ≤ 4000) (hc4 : 0 ≤ c.2.2.2.2 ∧ c.2.2.2.2 ≤ 4000) (hc0 : 0 ≤ c.1 ∧ c.1 ≤ 500) (hc1 : 0 ≤ c.2.1 ∧ c.2.1 ≤ 500) : impl_Shop_canChange.f k day looms cs money kind carpet value c.1 c.2.1 c.2.2.1 c.2.2.2.1 c.2.2.2.2 = some (canI day cs c kind value) := by
  unfold impl_Shop_canChange.f impl_Shop_canChange.m canI
  rw [w64_id (x := day - c.2.2.2.2) (by omega), w64_id (x := c.1 - c.2.1) (by omega)]
  by_cases k3 : kind = 3
  · subst k3; rw [if_pos rfl, if_pos rfl, onLoom_eq k _ _ _ cs (by omega) (by omega)]
    by_cases e : c.2.2.1 = 0 <;> simp [e]
  · by_cases k4 : kind = 4
    · subst k4; by_cases e : c.2.2.1 = 1
      · by_cases e2 : 1 ≤ day - c.2.2.2.2 <;> simp [e, e2]
      · simp [e]
    · by_cases k5 : kind = 5
      · subst k5; by_cases e : c.2.2.1 = 1 <;> simp [e]
      · by_cases k6 : kind = 6
        · subst k6; simp
        · by_cases e : c.2.2.1 = 3 <;> simp [k3, k4, k5, k6, e]
def outR (r : Option (Int × Int × List C5 × Int)) : Int × Int × List C5 × Int × Bool := match r with | some (d, l, c, m) => (d, l, c, m, true) | none => (0, 0, [], 0, false)
theorem clone_eq (k : Nat) (cs : List C5) (hl : cs.length ≤ 4194304) : slices_Clone_impl_Carpet_impl_Carpet.f k cs = some cs := by unfold slices_Clone_impl_Carpet_impl_Carpet.f; rw [app_ok (by simp; omega)]; rfl
theorem implStep_eq (k : Nat) {day looms money kind carpet value : Int} {cs : List C5} (hs : shopB day looms cs money = true) (hk : 2000 ≤ k) : impl_Shop_step.f k day looms cs money kind carpet value = some (outR (stepI day looms cs money kind carpet value)) := by
  obtain ⟨a1, a2, a3, a4, a5⟩ := shopB_of hs
  obtain ⟨k, rfl⟩ := succ_of (show 0 < k by omega)
  have key : ∀ (d l : Int) (c : List C5) (m : Int), impl_Shop_step.l5 (k + 1) 0 0 [] 0 d l c m = some (outR (keepIf (shopB d l c m) d l c m)) := fun d l c m => by
    simp only [impl_Shop_step.l5, impl_Shop_step.b5]
    rw [isShop_eq k _ _ _ c (by omega)]; simp only [Option.bind_some]
    cases shopB d l c m <;> rfl
  unfold impl_Shop_step.f impl_Shop_step.m stepI impl_Shop_copied.f impl_Shop_copied.m
  rw [valid_eq (k + 1) (by omega), clone_eq (k + 1) cs (by omega)]; simp only [Option.bind_some]
  by_cases hv : validI kind carpet value = true
  · simp only [hv, Bool.not_true, Bool.not_false, cond_true, cond_false, Bool.true_and, Bool.false_and, Bool.and_true, Bool.and_false, Bool.false_eq_true, Bool.true_or, Bool.or_true, Bool.false_or, Bool.or_false, Bool.or_self, Bool.and_self, decide_true, decide_false, if_true, if_false, not_true, not_false_eq_true, not_true_eq_false, false_or, or_false, true_and, and_true, Bool.not_eq_true, Bool.true_eq_false, reduceCtorEq]
    by_cases k1 : kind = 1
    · subst k1; simp only [Bool.not_true, Bool.not_false, cond_true, cond_false, Bool.true_and, Bool.false_and, Bool.and_true, Bool.and_false, Bool.false_eq_true, Bool.true_or, Bool.or_true, Bool.false_or, Bool.or_false, Bool.or_self, Bool.and_self, decide_true, decide_false, if_true, if_false, not_true, not_false_eq_true, not_true_eq_false, false_or, or_false, true_and, and_true, Bool.not_eq_true, Bool.true_eq_false, reduceCtorEq]; exact key _ _ _ _
    · simp only [k1, Bool.not_true, Bool.not_false, cond_true, cond_false, Bool.true_and, Bool.false_and, Bool.and_true, Bool.and_false, Bool.false_eq_true, Bool.true_or, Bool.or_true, Bool.false_or, Bool.or_false, Bool.or_self, Bool.and_self, decide_true, decide_false, if_true, if_false, not_true, not_false_eq_true, not_true_eq_false, false_or, or_false, true_and, and_true, Bool.not_eq_true, Bool.true_eq_false, reduceCtorEq]
      by_cases k2 : kind = 2
      · subst k2; simp only [Bool.not_true, Bool.not_false, cond_true, cond_false, Bool.true_and, Bool.false_and, Bool.and_true, Bool.and_false, Bool.false_eq_true, Bool.true_or, Bool.or_true, Bool.false_or, Bool.or_false, Bool.or_self, Bool.and_self, decide_true, decide_false, if_true, if_false, not_true, not_false_eq_true, not_true_eq_false, false_or, or_false, true_and, and_true, Bool.not_eq_true, Bool.true_eq_false, reduceCtorEq]
        rw [app_ok (by simp; omega)]; simp only [Option.bind_some]
        exact key _ _ _ _
      · simp only [k2, Bool.not_true, Bool.not_false, cond_true, cond_false, Bool.true_and, Bool.false_and, Bool.and_true, Bool.and_false, Bool.false_eq_true, Bool.true_or, Bool.or_true, Bool.false_or, Bool.or_false, Bool.or_self, Bool.and_self, decide_true, decide_false, if_true, if_false, not_true, not_false_eq_true, not_true_eq_false, false_or, or_false, true_and, and_true, Bool.not_eq_true, Bool.true_eq_false, reduceCtorEq]
        rw [w64_id (by omega), implIn_eq]; simp only [Option.bind_some]
        by_cases hr : inB carpet 0 ((cs.length : Int) - 1) = true
        · have hr' := inB_iff.1 hr
          obtain ⟨hg, hl⟩ := atC_get hr
          have hcarp := (rowsB_iff.1 a5 _ _ hg).1
          unfold carpB at hcarp
          simp only [Bool.and_eq_true, inB_iff] at hcarp
          simp only [hr, Bool.not_true, Bool.not_false, cond_true, cond_false, Bool.true_and, Bool.false_and, Bool.and_true, Bool.and_false, Bool.false_eq_true, Bool.true_or, Bool.or_true, Bool.false_or, Bool.or_false, Bool.or_self, Bool.and_self, decide_true, decide_false, if_true, if_false, not_true, not_false_eq_true, not_true_eq_false, false_or, or_false, true_and, and_true, Bool.not_eq_true, Bool.true_eq_false, reduceCtorEq]
          rw [chk_int (by omega)]; simp only [Option.bind_some]
          have hrd : cs.getD carpet.toNat (0, 0, 0, 0, 0) = rdC cs carpet := rfl
          rw [hrd, can_eq (k + 1) (rdC cs carpet) (by omega) (by omega) a1 (by omega) (by omega) (by omega)]; simp only [Option.bind_some]
          by_cases hc : canI day cs (rdC cs carpet) kind value = true
          · simp only [hc, Bool.not_true, Bool.not_false, cond_true, cond_false, Bool.true_and, Bool.false_and, Bool.and_true, Bool.and_false, Bool.false_eq_true, Bool.true_or, Bool.or_true, Bool.false_or, Bool.or_false, Bool.or_self, Bool.and_self, decide_true, decide_false, if_true, if_false, not_true, not_false_eq_true, not_true_eq_false, false_or, or_false, true_and, and_true, Bool.not_eq_true, Bool.true_eq_false, reduceCtorEq]
            rw [change_eq (k + 1) hr hv k1 k2]; simp only [Option.bind_some]
            rw [key]
          · simp only [notB hc, Bool.not_true, Bool.not_false, cond_true, cond_false, Bool.true_and, Bool.false_and, Bool.and_true, Bool.and_false, Bool.false_eq_true, Bool.true_or, Bool.or_true, Bool.false_or, Bool.or_false, Bool.or_self, Bool.and_self, decide_true, decide_false, if_true, if_false, not_true, not_false_eq_true, not_true_eq_false, false_or, or_false, true_and, and_true, Bool.not_eq_true, Bool.true_eq_false, reduceCtorEq]; rfl
        · simp only [notB hr, Bool.not_true, Bool.not_false, cond_true, cond_false, Bool.true_and, Bool.false_and, Bool.and_true, Bool.and_false, Bool.false_eq_true, Bool.true_or, Bool.or_true, Bool.false_or, Bool.or_false, Bool.or_self, Bool.and_self, decide_true, decide_false, if_true, if_false, not_true, not_false_eq_true, not_true_eq_false, false_or, or_false, true_and, and_true, Bool.not_eq_true, Bool.true_eq_false, reduceCtorEq]; rfl
  · simp only [notB hv, Bool.not_true, Bool.not_false, cond_true, cond_false, Bool.true_and, Bool.false_and, Bool.and_true, Bool.and_false, Bool.false_eq_true, Bool.true_or, Bool.or_true, Bool.false_or, Bool.or_false, Bool.or_self, Bool.and_self, decide_true, decide_false, if_true, if_false, not_true, not_false_eq_true, not_true_eq_false, false_or, or_false, true_and, and_true, Bool.not_eq_true, Bool.true_eq_false, reduceCtorEq]; rfl
theorem okStep_eq (k : Nat) {looms : Int} (day money kind carpet value : Int) (cs : List C5) (hl : cs.length ≤ 1000) : spec_l25Step.f k day looms cs money kind carpet value = some (okStepS looms cs.length kind carpet value) := by
  unfold spec_l25Step.f spec_l25Step.m okStepS
  rw [w64_id (by omega)]
  simp only [specIn_eq, Option.bind_some]
  by_cases k1 : kind = 1
  · subst k1; by_cases h : carpet = 0 <;> simp [h]
  · by_cases k2 : kind = 2
    · subst k2; by_cases h : carpet = 0 <;> simp [h]
    · rw [if_neg k1, if_neg k1, if_neg k2, if_neg k2]
      cases hr : inB carpet 0 ((cs.length : Int) - 1)
      · simp
      · by_cases k3 : kind = 3
        · subst k3; simp
        · by_cases k4 : kind = 4
          · subst k4; simp
          · by_cases k7 : kind = 7
            · subst k7; simp
            · by_cases k5 : kind = 5
              · subst k5; simp
              · by_cases k6 : kind = 6
                · subst k6; simp
                · simp [k3, k4, k5, k6, k7]
theorem chS_eq (k : Nat) (c : C5) {day kind value : Int} (carpet : Int) (hd : 0 ≤ day ∧ day ≤ 4000) (hc4 : 0 ≤ c.2.2.2.2 ∧ c.2.2.2.2 ≤ 4000) (hkk : kind = 3 ∨ kind = 4 ∨ kind = 5 ∨ kind = 6 ∨ kind = 7) : spec_l25Change.f k c.1 c.2.1 c.2.2.1 c.2.2.2.1 c.2.2.2.2 kind carpet value day = some ((chR c kind value day).1, (chR c kind value day).2.1, (chR c kind value day).2.2.1, (chR c kind value day).2.2.2.1, (chR c kind value day).2.2.2.2, chOk c kind day) := by
  unfold spec_l25Change.f spec_l25Change.m chR chOk
  rw [w64_id (x := day - c.2.2.2.2) (by omega)]
  rcases hkk with rfl | rfl | rfl | rfl | rfl
  · simp
  · by_cases e : c.2.2.1 = 1 <;> simp [e]
  · simp
  · simp
  · by_cases e : c.2.2.1 = 3 <;> simp [e]
theorem specOwn_eq (k : Nat) (day looms money : Int) (cs : List C5) (hl : cs.length ≤ 4194304) : spec_l25Own.f k day looms cs money = some (day, looms, cs, money) := by
  unfold spec_l25Own.f spec_l25Own.m; rw [app_ok (by simp; omega)]; rfl
theorem kinds_of {looms : Int} {n : Nat} {kind carpet value : Int} (h : okStepS looms n kind carpet value = true) (k1 : ¬ kind = 1) (k2 : ¬ kind = 2) : inB carpet 0 ((n : Int) - 1) = true ∧ (kind = 3 ∨ kind = 4 ∨ kind = 5 ∨ kind = 6 ∨ kind = 7) := by
  unfold okStepS at h
  rw [if_neg k1, if_neg k2, Bool.and_eq_true] at h
  refine ⟨h.1, ?_⟩
  have h := h.2
  by_cases k3 : kind = 3
  · exact .inl k3
  · by_cases k4 : kind = 4
    · exact .inr (.inl k4)
    · by_cases k7 : kind = 7
      · exact .inr (.inr (.inr (.inr k7)))
      · rw [if_neg k3, if_neg k4, if_neg k7] at h; simp at h; omega
theorem specMake_eq (k : Nat) {day looms money kind carpet value : Int} {cs : List C5} (hs : shopB day looms cs money = true) (hok : okStepS looms cs.length kind carpet value = true) (hk : 2000 ≤ k) : ∃ (d l m : Int) (c : List C5) (b : Bool), spec_l25Make.f k day looms cs money kind carpet value = some (d, l, c, m, b) ∧ makeS day looms cs money kind carpet value = (if b = true then some (d, l, c, m) else none) := by
  obtain ⟨a1, a2, a3, a4, a5⟩ := shopB_of hs
  obtain ⟨k, rfl⟩ := succ_of (show 0 < k by omega)
  unfold spec_l25Make.f spec_l25Make.m makeS
  rw [specOwn_eq _ _ _ _ cs (by omega)]; simp only [Option.bind_some]
  by_cases k1 : kind = 1
  · subst k1
    rw [if_pos rfl, if_pos rfl, w64_id (x := 4000 - day) (by omega)]
    unfold okStepS at hok; rw [if_pos rfl] at hok; simp at hok
    by_cases e : 4000 - day < value
    · rw [if_pos e]; refine ⟨_, _, _, _, _, rfl, ?_⟩; simp [keepIf, e]
    · rw [if_neg e, w64_id (by omega)]; refine ⟨_, _, _, _, _, rfl, ?_⟩; simp [keepIf, e]
  · rw [if_neg k1, if_neg k1]
    by_cases k2 : kind = 2
    · subst k2
      rw [if_pos rfl, if_pos rfl, app_ok (by simp; omega)]; simp only [Option.bind_some]
      rw [good_eq (k + 1) _ _ _ _ (by omega)]; simp only [Option.bind_some]
      refine ⟨_, _, _, _, _, rfl, ?_⟩; unfold keepIf newC; rfl
    · obtain ⟨hr, hkk⟩ := kinds_of hok k1 k2
      have hr' := inB_iff.1 hr
      obtain ⟨hg, hl⟩ := atC_get hr
      have hcarp := (rowsB_iff.1 a5 _ _ hg).1
      unfold carpB at hcarp
      simp only [Bool.and_eq_true, inB_iff] at hcarp
      have hv7 : kind = 7 → value ≥ 1 := by
        intro e; subst e; unfold okStepS at hok; rw [if_neg (by omega), if_neg (by omega), Bool.and_eq_true, if_neg (by omega), if_neg (by omega), if_pos rfl] at hok; simpa using hok.2
      rw [if_neg k2, if_neg k2]
      have hrd : cs.getD carpet.toNat (0, 0, 0, 0, 0) = rdC cs carpet := rfl
      have join : ∀ m : Int, spec_l25Make.l2 (k + 1) day looms cs money kind carpet value 0 0 [] 0 day looms cs m = some (day, looms, cs.set carpet.toNat (chR (rdC cs carpet) kind value day), m, chOk (rdC cs carpet) kind day && shopB day looms (cs.set carpet.toNat (chR (rdC cs carpet) kind value day)) m) := fun m => by
        simp only [spec_l25Make.l2, spec_l25Make.b2]
        rw [chk_int (by omega)]; simp only [Option.bind_some]
        rw [hrd, chS_eq k (rdC cs carpet) carpet a1 (by omega) hkk]; simp only [Option.bind_some, upd_of]
        rw [show ((chR (rdC cs carpet) kind value day).1, (chR (rdC cs carpet) kind value day).2.1, (chR (rdC cs carpet) kind value day).2.2.1, (chR (rdC cs carpet) kind value day).2.2.2.1, (chR (rdC cs carpet) kind value day).2.2.2.2) = chR (rdC cs carpet) kind value day from rfl]
        cases hc : chOk (rdC cs carpet) kind day
        · simp only [Bool.not_true, Bool.not_false, cond_true, cond_false, Bool.true_and, Bool.false_and, Bool.and_true, Bool.and_false, Bool.false_eq_true, Bool.true_or, Bool.or_true, Bool.false_or, Bool.or_false, Bool.or_self, Bool.and_self, decide_true, decide_false, if_true, if_false, not_true, not_false_eq_true, not_true_eq_false, false_or, or_false, true_and, and_true, Bool.not_eq_true, Bool.true_eq_false, reduceCtorEq]
        · simp only [Bool.not_true, Bool.not_false, cond_true, cond_false, Bool.true_and, Bool.false_and, Bool.and_true, Bool.and_false, Bool.false_eq_true, Bool.true_or, Bool.or_true, Bool.false_or, Bool.or_false, Bool.or_self, Bool.and_self, decide_true, decide_false, if_true, if_false, not_true, not_false_eq_true, not_true_eq_false, false_or, or_false, true_and, and_true, Bool.not_eq_true, Bool.true_eq_false, reduceCtorEq]; rw [good_eq k _ _ _ _ (by omega)]; simp only [Option.bind_some]
      by_cases k7 : kind = 7
      · rw [if_pos k7, w64_id (x := 1000000 - money) (by omega)]
        by_cases e : 1000000 - money < value
        · rw [if_pos e]; refine ⟨_, _, _, _, _, rfl, ?_⟩; simp [keepIf, k7, e]
        · rw [if_neg e]
          have h7 := hv7 k7
          rw [w64_id (x := money + value) (by omega), join]
          refine ⟨_, _, _, _, _, rfl, ?_⟩; unfold keepIf; simp [k7, e]
      · rw [if_neg k7, join]
        refine ⟨_, _, _, _, _, rfl, ?_⟩; unfold keepIf; simp [k7]
abbrev X3 := Int × Int × Int
theorem wf_bd {x : Int} (h : (Lit.int .i64 x).wf = true) : -9223372036854775808 ≤ x ∧ x ≤ 9223372036854775807 := by
  unfold Lit.wf at h; rw [Bool.and_eq_true] at h
  have h1 := of_decide_eq_true h.1; have h2 := of_decide_eq_true h.2
  exact ⟨h1, h2⟩
def runR : List X3 → Int → Int → List C5 → Int → Int → Int × Int × List C5 × Int × Int
  | [], d, l, c, m, n => (d, l, c, m, n)
  | x :: xs, d, l, c, m, n => match stepS d l c m x.1 x.2.1 x.2.2 with | some (d', l', c', m') => runR xs d' l' c' m' (n + 1) | none => runR xs d l c m n
def runO (r : Int × Int × List C5 × Int × Int) : Int × Int × List C5 × Int × Int × Bool := (r.1, r.2.1, r.2.2.1, r.2.2.2.1, r.2.2.2.2, true)
def okX (l : List X3) : Prop := ∀ x ∈ l, -9223372036854775808 ≤ x.2.2 ∧ x.2.2 ≤ 9223372036854775807
theorem runR_good : ∀ (xs : List X3) {d l m : Int} {c : List C5} (n : Int), okX xs → shopB d l c m = true → shopB (runR xs d l c m n).1 (runR xs d l c m n).2.1 (runR xs d l c m n).2.2.1 (runR xs d l c m n).2.2.2.1 = true := by
  intro xs
  induction xs with
  | nil => intro d l m c n _ hs; exact hs
  | cons x xs ih =>
    intro d l m c n ho hs
    have ho' : okX xs := fun y hy => ho y (List.mem_cons_of_mem _ hy)
    simp only [runR]
    cases h : stepS d l c m x.1 x.2.1 x.2.2 with
    | none => exact ih n ho' hs
    | some r => obtain ⟨d', l', c', m'⟩ := r; exact ih (n + 1) ho' (stepS_good hs (ho x List.mem_cons_self) h)
theorem runR_len (xs : List X3) {d l m : Int} {c : List C5} (n : Int) (ho : okX xs) (hs : shopB d l c m = true) : (runR xs d l c m n).2.2.1.length ≤ 8 := (shopB_of (runR_good xs n ho hs)).2.2.2.1
theorem implStepShop_eq (k : Nat) {day looms money kind carpet value : Int} {cs : List C5} (hs : shopB day looms cs money = true) (hv : -9223372036854775808 ≤ value ∧ value ≤ 9223372036854775807) (hk : 3000 ≤ k) : impl_StepShop.f k day looms cs money kind carpet value = some (outR (stepS day looms cs money kind carpet value)) := by
  unfold impl_StepShop.f impl_StepShop.m
  rw [isShop_eq k _ _ _ cs (by omega), hs]; simp only [Option.bind_some, Bool.not_true, Bool.not_false, cond_true, cond_false, Bool.true_and, Bool.false_and, Bool.and_true, Bool.and_false, Bool.false_eq_true, Bool.true_or, Bool.or_true, Bool.false_or, Bool.or_false, Bool.or_self, Bool.and_self, decide_true, decide_false, if_true, if_false, not_true, not_false_eq_true, not_true_eq_false, false_or, or_false, true_and, and_true, Bool.not_eq_true, Bool.true_eq_false, reduceCtorEq]
  rw [implStep_eq k hs (by omega), step_eq hs hv]; rfl
theorem specStepShop_eq (k : Nat) {day looms money kind carpet value : Int} {cs : List C5} (hl : cs.length ≤ 1000) (hk : 3000 ≤ k) : spec_StepShop.f k day looms cs money kind carpet value = some (if shopB day looms cs money = true then outR (stepS day looms cs money kind carpet value) else (0, 0, [], 0, false)) := by
  unfold spec_StepShop.f spec_StepShop.m
  rw [good_eq k _ _ _ _ (by omega)]; simp only [Option.bind_some]
  by_cases hs : shopB day looms cs money = true
  · simp only [hs, Bool.not_true, Bool.not_false, cond_true, cond_false, Bool.true_and, Bool.false_and, Bool.and_true, Bool.and_false, Bool.false_eq_true, Bool.true_or, Bool.or_true, Bool.false_or, Bool.or_false, Bool.or_self, Bool.and_self, decide_true, decide_false, if_true, if_false, not_true, not_false_eq_true, not_true_eq_false, false_or, or_false, true_and, and_true, Bool.not_eq_true, Bool.true_eq_false, reduceCtorEq]
    rw [okStep_eq k _ _ _ _ _ _ hl]; simp only [Option.bind_some]
    by_cases hok : okStepS looms cs.length kind carpet value = true
    · obtain ⟨d', l', m', c', b, e1, e2⟩ := specMake_eq k hs hok (by omega)
      have hdef : stepS day looms cs money kind carpet value = makeS day looms cs money kind carpet value := by unfold stepS; rw [if_pos hok]
      rw [e1, hdef, e2, hok]
      cases b <;> rfl
    · have hdef : stepS day looms cs money kind carpet value = none := by unfold stepS; rw [if_neg hok]
      rw [hdef, notB hok]; rfl
  · rw [notB hs]; rfl
theorem most_ok (k : Nat) (a b : Int) : Yl (spec_l1Most.f k a b) fun r => a ≤ r ∧ b ≤ r ∧ (r = a ∨ r = b) := by
  unfold spec_l1Most.f spec_l1Most.m
  exact Yl.ite (fun h => Yl.ret ⟨by omega, by omega, by omega⟩) fun h => Yl.ret ⟨by omega, by omega, by omega⟩
theorem least_ok (k : Nat) (a b : Int) : Yl (spec_l1Least.f k a b) fun r => r ≤ a ∧ r ≤ b ∧ (r = a ∨ r = b) := by
  unfold spec_l1Least.f spec_l1Least.m
  exact Yl.ite (fun h => Yl.ret ⟨by omega, by omega, by omega⟩) fun h => Yl.ret ⟨by omega, by omega, by omega⟩
theorem spec_l1Cur_shopStep_24 (k : Nat) {l : List Int} {a : Int} (s d lo m : Int) (cs : List C5) (c kind left : Int) (hb : By l) (h : 0 ≤ a ∧ a ≤ 100000000000) (hc : 0 ≤ c ∧ c ≤ 65535) (hlo : -1000 ≤ lo ∧ lo ≤ 1000) (hleft : 1 ≤ left ∧ left ≤ 20) (hk : 10 ≤ k) : Yl (spec_l1Cur_shopStep_2.l4 k l a s d lo cs m d lo m 0 0 0 c kind left) fun r => r.2.2.2.1 = l ∧ r.2.2.2.2.2.2 = cs ∧ (a ≤ r.2.2.2.2.1 ∧ r.2.2.2.2.1 ≤ a + 20 ∧ -3000000 ≤ r.2.2.1 ∧ r.2.2.1 ≤ 3000000) := by
  obtain ⟨k, rfl⟩ := succ_of (show 0 < k by omega)
  simp only [spec_l1Cur_shopStep_2.l4, spec_l1Cur_shopStep_2.b4]
  (refine Yl.bind (one_ok _ _ _ (by assumption) (by omega) (by omega)) ?_; rintro ⟨vq, lq, aq, sq⟩ ⟨eq1, eq2, eq3⟩; dsimp only at *; subst eq1)
  refine Yl.cond (fun _ => ?_) fun _ => ?_
  · (refine Yl.bind (among_ok _ _ 0 8 (by simp) (by intro x hx; simp at hx; omega) (by assumption) (by omega) (by omega)) ?_; rintro ⟨vq, lq, aq, sq, xq⟩ ⟨eq1, eq2, eq3, eq4, eq5, eq6⟩; dsimp only at *; subst eq1; subst eq2)
    (refine Yl.bind (among_ok _ _ (-1) 65535 (by simp) (by intro x hx; simp at hx; omega) (by assumption) (by omega) (by omega)) ?_; rintro ⟨vq, lq, aq, sq, xq⟩ ⟨eq1, eq2, eq3, eq4, eq5, eq6⟩; dsimp only at *; subst eq1; subst eq2)
    (refine Yl.bind (among_ok _ _ 0 1 (by simp) (by intro x hx; simp at hx; omega) (by assumption) (by omega) (by omega)) ?_; rintro ⟨vq, lq, aq, sq, xq⟩ ⟨eq1, eq2, eq3, eq4, eq5, eq6⟩; dsimp only at *; subst eq1; subst eq2)
    exact Yl.ret ⟨rfl, rfl, by dsimp only; omega⟩
  · refine Yl.ite (fun _ => ?_) fun _ => ?_
    · (refine Yl.bind (among_ok _ _ 0 4001 (by simp) (by intro x hx; simp at hx; omega) (by assumption) (by omega) (by omega)) ?_; rintro ⟨vq, lq, aq, sq, xq⟩ ⟨eq1, eq2, eq3, eq4, eq5, eq6⟩; dsimp only at *; subst eq1; subst eq2)
      exact Yl.ret ⟨rfl, rfl, by dsimp only; omega⟩
    · refine Yl.ite (fun _ => ?_) fun _ => ?_
      · (refine Yl.bind (among_ok _ _ 1 501 (by simp) (by intro x hx; simp at hx; omega) (by assumption) (by omega) (by omega)) ?_; rintro ⟨vq, lq, aq, sq, xq⟩ ⟨eq1, eq2, eq3, eq4, eq5, eq6⟩; dsimp only at *; subst eq1; subst eq2)
        exact Yl.ret ⟨rfl, rfl, by dsimp only; omega⟩
      · refine Yl.ite (fun _ => ?_) fun _ => ?_
        · refine Yl.bind (most_ok _ _ _) ?_
          rintro r ⟨r1, r2, r3⟩
          rw [w64_id (by omega)]
          (refine Yl.bind (pick_ok _ _ _ (by assumption) (by omega) (by omega)) ?_; rintro ⟨vq, lq, aq, sq⟩ ⟨eq1, eq2, eq3, eq4, eq5, eq6⟩; dsimp only at *; subst eq1)
          rw [w64_id (by omega)]
          exact Yl.ret ⟨rfl, rfl, by dsimp only; omega⟩
        · refine Yl.ite (fun _ => ?_) fun _ => ?_
          · (refine Yl.bind (among_ok _ _ 1 21 (by simp) (by intro x hx; simp at hx; omega) (by assumption) (by omega) (by omega)) ?_; rintro ⟨vq, lq, aq, sq, xq⟩ ⟨eq1, eq2, eq3, eq4, eq5, eq6⟩; dsimp only at *; subst eq1; subst eq2)
            exact Yl.ret ⟨rfl, rfl, by dsimp only; omega⟩
          · refine Yl.ite (fun _ => ?_) fun _ => ?_
            · (refine Yl.bind (among_ok _ _ 0 1000000 (by simp) (by intro x hx; simp at hx; omega) (by assumption) (by omega) (by omega)) ?_; rintro ⟨vq, lq, aq, sq, xq⟩ ⟨eq1, eq2, eq3, eq4, eq5, eq6⟩; dsimp only at *; subst eq1; subst eq2)
              exact Yl.ret ⟨rfl, rfl, by dsimp only; omega⟩
            · exact Yl.ret ⟨rfl, rfl, by dsimp only; omega⟩
theorem spec_l1Cur_shopStep_2_ok (k : Nat) {l : List Int} {a : Int} (s d lo m : Int) (cs : List C5) (hb : By l) (h : 0 ≤ a ∧ a ≤ 10000000000) (hcs : cs.length ≤ 100) (hlo : -1000 ≤ lo ∧ lo ≤ 1000) (hk : 20 ≤ k) : Yl (spec_l1Cur_shopStep_2.f k l a s d lo cs m) fun r => r.2.2.2.1 = l ∧ r.2.2.2.2.2.2 = cs ∧ (a ≤ r.2.2.2.2.1 ∧ r.2.2.2.2.1 ≤ a + 40 ∧ -3000000 ≤ r.2.2.1 ∧ r.2.2.1 ≤ 3000000) := by
  unfold spec_l1Cur_shopStep_2.f spec_l1Cur_shopStep_2.m
  refine Yl.bind (most_ok _ _ _) ?_
  rintro r ⟨r1, r2, r3⟩
  (refine Yl.bind (pick_ok _ _ _ (by assumption) (by omega) (by omega)) ?_; rintro ⟨vq, lq, aq, sq⟩ ⟨eq1, eq2, eq3, eq4, eq5, eq6⟩; dsimp only at *; subst eq1)
  (refine Yl.bind (among_ok _ _ 1 7 (by simp) (by intro x hx; simp at hx; omega) (by assumption) (by omega) (by omega)) ?_; rintro ⟨vq, lq, aq, sq, xq⟩ ⟨eq1, eq2, eq3, eq4, eq5, eq6⟩; dsimp only at *; subst eq1; subst eq2)
  refine Yl.ite (fun hlt => ?_) fun _ => ?_
  · rw [chk_int (by omega)]; simp only [Option.bind_some]
    refine Yl.bind (least_ok _ _ _) ?_
    rintro u ⟨u1, u2, u3⟩
    refine Yl.bind (most_ok _ _ _) ?_
    rintro v ⟨v1, v2, v3⟩
    (refine Yl.bind (one_ok _ _ _ (by assumption) (by omega) (by omega)) ?_; rintro ⟨vq, lq, aq, sq⟩ ⟨eq1, eq2, eq3⟩; dsimp only at *; subst eq1)
    have h8 : ∀ (l : List Int) (a s x y z st w kind : Int) (c : Int) (b : Bool), By l → 0 ≤ a ∧ a ≤ 20000000000 → 0 ≤ c ∧ c ≤ 65535 → (b = true → 0 ≤ st ∧ st ≤ 3) → Yl (spec_l1Cur_shopStep_2.l8 k l a s d lo cs m d lo m 0 0 0 c kind v x y st z w b) fun r => r.2.2.2.1 = l ∧ r.2.2.2.2.2.2 = cs ∧ (a ≤ r.2.2.2.2.1 ∧ r.2.2.2.2.1 ≤ a + 20 ∧ -3000000 ≤ r.2.2.1 ∧ r.2.2.1 ≤ 3000000) := by
      intro l a s x y z st w kind c b hb h hc hst
      obtain ⟨k, rfl⟩ := succ_of (show 0 < k by omega)
      simp only [spec_l1Cur_shopStep_2.l8, spec_l1Cur_shopStep_2.b8]
      refine Yl.cond (fun e => ?_) fun _ => spec_l1Cur_shopStep_24 _ s d lo m cs _ _ _ hb (by omega) (by omega) (by omega) (by omega) (by omega)
      have := hst e
      rw [chk_int (by simp; omega)]; simp only [Option.bind_some]
      refine Yl.ite (fun _ => Yl.ite (fun _ => ?_) fun _ => ?_) fun _ => ?_ <;> exact spec_l1Cur_shopStep_24 _ s d lo m cs _ _ _ hb (by omega) (by omega) (by omega) (by omega) (by omega)
    have fin : ∀ {l : List Int} {a a' : Int} {r : Int × Int × Int × List Int × Int × Int × List C5}, a' ≤ a → a ≤ a' + 15 → (r.2.2.2.1 = l ∧ r.2.2.2.2.2.2 = cs ∧ (a ≤ r.2.2.2.2.1 ∧ r.2.2.2.2.1 ≤ a + 20 ∧ -3000000 ≤ r.2.2.1 ∧ r.2.2.1 ≤ 3000000)) → (r.2.2.2.1 = l ∧ r.2.2.2.2.2.2 = cs ∧ (a' ≤ r.2.2.2.2.1 ∧ r.2.2.2.2.1 ≤ a' + 40 ∧ -3000000 ≤ r.2.2.1 ∧ r.2.2.1 ≤ 3000000)) := fun h1 h2 h3 => ⟨h3.1, h3.2.1, by omega⟩
    refine Yl.cond (fun _ => ?_) fun _ => ?_
    · rw [specIn_eq]; simp only [Option.bind_some]
      refine (h8 _ _ _ _ _ _ _ _ _ _ _ (by assumption) (by omega) (by omega) ?_).mono fun r hr => fin (by omega) (by omega) hr
      intro e; have := inB_iff.1 e; omega
    · refine (h8 _ _ _ _ _ _ _ _ _ _ _ (by assumption) (by omega) (by omega) ?_).mono fun r hr => fin (by omega) (by omega) hr
      intro e; cases e
  · refine (spec_l1Cur_shopStep_24 _ _ _ _ _ _ _ _ _ (by assumption) (by omega) (by omega) (by omega) (by omega) (by omega)).mono fun r hr => ⟨hr.1, hr.2.1, by omega⟩
def ShopD (l : List Int) (a b : Int) (r : Int × Int × List C5 × Int × List Int × Int × Int) : Prop := r.2.2.2.2.1 = l ∧ a ≤ r.2.2.2.2.2.1 ∧ r.2.2.2.2.2.1 ≤ b ∧ r.2.2.1.length ≤ 9 ∧ -1000 ≤ r.2.1 ∧ r.2.1 ≤ 1000
theorem newShop_eq (k : Nat) (lo : Int) : spec_NewShop.f k lo = some (if inB lo 1 4 = true then (0, lo, [], 0, true) else (0, 0, [], 0, false)) := by
  unfold spec_NewShop.f spec_NewShop.m
  rw [specIn_eq]; cases inB lo 1 4 <;> rfl
theorem shopB_new {lo : Int} (h : 1 ≤ lo ∧ lo ≤ 4) : shopB 0 lo [] 0 = true := shopB_mk (by omega) h (by omega) (by simp) (by unfold rowsB; rfl)
theorem shop_l (l : List Int) (hb : By l) : ∀ (n K : Nat) (a s d lo m : Int) (cs : List C5), 0 ≤ a → a + 60 * n ≤ 1000000000 → n ≤ 40 → 3500 + n ≤ K → shopB d lo cs m = true → Yl (spec_l1Cur_shop.l4 K l a s 0 0 [] 0 d lo cs m (n : Int)) (ShopD l a (a + 60 * n + 20)) := by
  intro n
  induction n with
  | zero =>
    intro K a s d lo m cs h1 h2 h3 h4 hs
    obtain ⟨K, rfl⟩ := succ_of (show 0 < K by omega)
    obtain ⟨b1, b2, b3, b4, b5⟩ := shopB_of hs
    simp only [spec_l1Cur_shop.l4, spec_l1Cur_shop.b4]
    rw [if_neg (by omega)]
    unfold ShopD
    (refine Yl.bind (pick_ok _ _ _ (by assumption) (by omega) (by omega)) ?_; rintro ⟨vq, lq, aq, sq⟩ ⟨eq1, eq2, eq3, eq4, eq5, eq6⟩; dsimp only at *; subst eq1)
    refine Yl.ite (fun _ => ?_) fun _ => ?_
    · (refine Yl.bind (among_ok _ _ (-1) 4001 (by simp) (by intro x hx; simp at hx; omega) (by assumption) (by omega) (by omega)) ?_; rintro ⟨vq, lq, aq, sq, xq⟩ ⟨eq1, eq2, eq3, eq4, eq5, eq6⟩; dsimp only at *; subst eq1; subst eq2)
      exact Yl.ret ⟨rfl, by dsimp only; omega⟩
    refine Yl.ite (fun _ => ?_) fun _ => ?_
    · (refine Yl.bind (among_ok _ _ 0 5 (by simp) (by intro x hx; simp at hx; omega) (by assumption) (by omega) (by omega)) ?_; rintro ⟨vq, lq, aq, sq, xq⟩ ⟨eq1, eq2, eq3, eq4, eq5, eq6⟩; dsimp only at *; subst eq1; subst eq2)
      exact Yl.ret ⟨rfl, by dsimp only; omega⟩
    refine Yl.ite (fun _ => ?_) fun _ => ?_
    · (refine Yl.bind (among_ok _ _ 0 501 (by simp) (by intro x hx; simp at hx; omega) (by assumption) (by omega) (by omega)) ?_; rintro ⟨vq, lq, aq, sq, xq⟩ ⟨eq1, eq2, eq3, eq4, eq5, eq6⟩; dsimp only at *; subst eq1; subst eq2)
      (refine Yl.bind (among_ok _ _ 0 5 (by simp) (by intro x hx; simp at hx; omega) (by assumption) (by omega) (by omega)) ?_; rintro ⟨vq, lq, aq, sq, xq⟩ ⟨eq1, eq2, eq3, eq4, eq5, eq6⟩; dsimp only at *; subst eq1; subst eq2)
      (refine Yl.bind (among_ok _ _ (-1) 5 (by simp) (by intro x hx; simp at hx; omega) (by assumption) (by omega) (by omega)) ?_; rintro ⟨vq, lq, aq, sq, xq⟩ ⟨eq1, eq2, eq3, eq4, eq5, eq6⟩; dsimp only at *; subst eq1; subst eq2)
      (refine Yl.bind (among_ok _ _ 0 1 (by simp) (by intro x hx; simp at hx; omega) (by assumption) (by omega) (by omega)) ?_; rintro ⟨vq, lq, aq, sq, xq⟩ ⟨eq1, eq2, eq3, eq4, eq5, eq6⟩; dsimp only at *; subst eq1; subst eq2)
      rw [app_ok (by simp; omega)]; simp only [Option.bind_some]
      exact Yl.ret ⟨rfl, by simp; omega⟩
    refine Yl.ite (fun _ => ?_) fun _ => ?_
    · (refine Yl.bind (among_ok _ _ (-1) 1000001 (by simp) (by intro x hx; simp at hx; omega) (by assumption) (by omega) (by omega)) ?_; rintro ⟨vq, lq, aq, sq, xq⟩ ⟨eq1, eq2, eq3, eq4, eq5, eq6⟩; dsimp only at *; subst eq1; subst eq2)
      exact Yl.ret ⟨rfl, by dsimp only; omega⟩
    exact Yl.ret ⟨rfl, by dsimp only; omega⟩
  | succ n ih =>
    intro K a s d lo m cs h1 h2 h3 h4 hs
    obtain ⟨K, rfl⟩ := succ_of (show 0 < K by omega)
    obtain ⟨b1, b2, b3, b4, b5⟩ := shopB_of hs
    simp only [spec_l1Cur_shop.l4, spec_l1Cur_shop.b4]
    rw [if_pos (by omega), w64_id (x := ((n + 1 : Nat) : Int) - 1) (by omega), show ((n + 1 : Nat) : Int) - 1 = n by omega]
    refine Yl.bind (spec_l1Cur_shopStep_2_ok K s d lo m cs hb (by omega) (by omega) (by omega) (by omega)) ?_
    rintro ⟨kind, carpet, value, l', a', s', cs'⟩ ⟨e1, e2, e3, e4, e5, e6⟩
    dsimp only at *
    subst e1; subst e2
    rw [specStepShop_eq K (by omega) (by omega), if_pos hs]; simp only [Option.bind_some]
    cases h : stepS d lo cs' m kind carpet value with
    | none =>
      simp only [outR, cond_false]
      refine (ih K a' s' d lo m cs' (by omega) (by omega) (by omega) (by omega) hs).mono fun r hr => ?_
      unfold ShopD at *
      refine ⟨hr.1, ?_⟩
      omega
    | some q =>
      obtain ⟨d', lo', c', m'⟩ := q
      simp only [outR, cond_true]
      refine (ih K a' s' d' lo' m' c' (by omega) (by omega) (by omega) (by omega) (stepS_good hs (by omega) h)).mono fun r hr => ?_
      unfold ShopD at *
      refine ⟨hr.1, ?_⟩
      omega
theorem shop_ok (k : Nat) {l : List Int} {a : Int} (s : Int) (hb : By l) (h : 0 ≤ a ∧ a ≤ 1000000) (hk : 4000 ≤ k) : Yl (spec_l1Cur_shop.f k l a s) (ShopD l a (a + 3000)) := by
  unfold spec_l1Cur_shop.f spec_l1Cur_shop.m
  (refine Yl.bind (among_ok _ _ 1 4 (by simp) (by intro x hx; simp at hx; omega) (by assumption) (by omega) (by omega)) ?_; rintro ⟨vq, lq, aq, sq, xq⟩ ⟨eq1, eq2, eq3, eq4, eq5, eq6⟩; dsimp only at *; subst eq1; subst eq2)
  rw [newShop_eq, if_pos (inB_of (by omega))]; simp only [Option.bind_some]
  refine Yl.bind (pick_ok _ _ _ (by assumption) (by omega) (by omega)) ?_
  rintro ⟨n, l', a', s'⟩ ⟨e1, e2, e3, e4, e5, e6⟩
  dsimp only at *; subst e1
  obtain ⟨n, rfl⟩ := Int.eq_ofNat_of_zero_le e4
  refine (shop_l _ (by assumption) n k a' s' _ _ _ _ (by omega) (by omega) (by omega) (by omega) (shopB_new (by omega))).mono fun r hr => ?_
  unfold ShopD at *
  refine ⟨hr.1, ?_⟩
  omega
def okS (value : Int) : Prop := -3000000 ≤ value ∧ value ≤ 3000000
def RunD (r : Int × Int × List C5 × Int × List X3) : Prop := r.2.2.1.length ≤ 9 ∧ r.2.2.2.2.length ≤ 1000 ∧ ∀ x ∈ r.2.2.2.2, okS x.2.2
theorem vInts_self (k : Nat) (c : List Int) (hl : c.length ≤ 1000) (hk : 1100 ≤ k) : laws_vInts.f k c c = some true := by
  unfold laws_vInts.f laws_vInts.m
  have h := (all_loop (L := fun k i => laws_vInts.l6 k c c (i : Int)) (n := c.length) (K0 := 20) (ok := fun _ => true) (f := some false) (fun k i hk hi => ?_)) c.length k 0 (by omega) (by omega)
  · rw [show ((0 : Nat) : Int) = 0 from rfl] at h
    simp only [Bool.not_true, Bool.not_false, cond_true, cond_false, Bool.true_and, Bool.false_and, Bool.and_true, Bool.and_false, Bool.false_eq_true, Bool.true_or, Bool.or_true, Bool.false_or, Bool.or_false, Bool.or_self, Bool.and_self, decide_true, decide_false, if_true, if_false, not_true, not_false_eq_true, not_true_eq_false, false_or, or_false, true_and, and_true, Bool.not_eq_true, Bool.true_eq_false, reduceCtorEq]
    exact h.1 (some true) (fun k hk => by simp (disch := omega) only [laws_vInts.l6, laws_vInts.b6, if_neg]) (fun _ _ _ => rfl)
  · simp (disch := omega) only [laws_vInts.l6, laws_vInts.b6, if_pos, chk_nat, Option.bind_some, w64_id, Bool.not_true, Bool.not_false, cond_true, cond_false, Bool.true_and, Bool.false_and, Bool.and_true, Bool.and_false, Bool.false_eq_true, Bool.true_or, Bool.or_true, Bool.false_or, Bool.or_false, Bool.or_self, Bool.and_self, decide_true, decide_false, if_true, if_false, not_true, not_false_eq_true, not_true_eq_false, false_or, or_false, true_and, and_true, Bool.not_eq_true, Bool.true_eq_false, reduceCtorEq, Int.natCast_add, Int.cast_ofNat_Int]
/-! ### Looms, states, days -/
def freeL (cs : List C5) (n : Nat) : List Int := ((List.range n).map fun j => ((j + 1 : Nat) : Int)).filter fun q => cs.all fun c => !decide (c.2.2.2.1 = q)
def stateN (cs : List C5) (j : Nat) : Nat := cs.countP fun c => decide (c.2.2.1 = (j : Int))
def statesL (cs : List C5) : List Int := [(stateN cs 0 : Int), stateN cs 1, stateN cs 2, stateN cs 3, stateN cs 4]
def dayL (day since : Int) : Int := if since + 3 - day < 0 then 0 else since + 3 - day
def daysF (day : Int) (best : Int) (c : C5) : Int := if c.2.2.1 = 3 ∧ day + dayL day c.2.2.2.2 ≤ 4000 ∧ (best < 0 ∨ dayL day c.2.2.2.2 < best) then dayL day c.2.2.2.2 else best
def daysL (day : Int) (cs : List C5) : Int := cs.foldl (daysF day) (-1)
theorem daysL_of (day : Int) : ∀ (cs : List C5) (b : Int), 0 ≤ cs.foldl (daysF day) b → cs.foldl (daysF day) b = b ∨ ∃ c ∈ cs, c.2.2.1 = 3 ∧ cs.foldl (daysF day) b = dayL day c.2.2.2.2 ∧ day + dayL day c.2.2.2.2 ≤ 4000
  | [], b, _ => .inl rfl
  | c :: cs, b, h => by
    rw [List.foldl_cons] at h ⊢
    rcases daysL_of day cs _ h with h1 | ⟨d, hd, h2⟩
    · rw [h1]
      unfold daysF
      split
      · rename_i hc
        exact .inr ⟨c, List.mem_cons_self, hc.1, rfl, hc.2.1⟩
      · exact .inl rfl
    · exact .inr ⟨d, List.mem_cons_of_mem _ hd, h2⟩
theorem states_sum {day lo : Int} {cs : List C5} (h : ∀ c ∈ cs, carpB day lo c = true) : stateN cs 0 + stateN cs 1 + stateN cs 2 + stateN cs 3 + stateN cs 4 = cs.length := by
  unfold stateN
  induction cs with
  | nil => rfl
  | cons c cs ih =>
    have h1 := ih fun d hd => h d (List.mem_cons_of_mem _ hd)
    have h2 := h c List.mem_cons_self
    have h3 : 0 ≤ c.2.2.1 ∧ c.2.2.1 ≤ 4 := by
      unfold carpB at h2
      simp only [Bool.and_eq_true, inB_iff] at h2
      exact h2.1.1.2
    simp only [List.countP_cons, List.length_cons, decide_eq_true_eq]
    have : c.2.2.1 = 0 ∨ c.2.2.1 = 1 ∨ c.2.2.1 = 2 ∨ c.2.2.1 = 3 ∨ c.2.2.1 = 4 := by omega
    rcases this with e | e | e | e | e <;> rw [e] <;> simp at h1 ⊢ <;> omega
def Apart (cs : List C5) : Prop := cs.Pairwise fun d c => c.2.2.2.1 > 0 → d.2.2.2.1 ≠ c.2.2.2.1
theorem apart_of {day lo : Int} {cs : List C5} (h : rowsB day lo cs = true) : Apart cs ∧ ∀ c ∈ cs, carpB day lo c = true := by
  rw [rowsB_iff] at h
  refine ⟨List.pairwise_iff_getElem.2 fun i j hi hj hij hp => ?_, fun c hc => ?_⟩
  · exact (h j cs[j] (List.getElem?_eq_getElem hj)).2 i cs[i] hij (List.getElem?_eq_getElem hi) hp
  · obtain ⟨i, hi⟩ := List.getElem?_of_mem hc
    exact (h i c hi).1
theorem at_loom {cs : List C5} (h : Apart cs) (q : Int) (hq : 0 < q) : cs.countP (fun c => decide (c.2.2.2.1 = q)) = if (cs.all fun c => !decide (c.2.2.2.1 = q)) = true then 0 else 1 := by
  induction cs with
  | nil => rfl
  | cons c cs ih =>
    obtain ⟨h1, h2⟩ := List.pairwise_cons.1 h
    have h3 := ih h2
    rw [List.countP_cons, List.all_cons, h3]
    by_cases e : c.2.2.2.1 = q
    · have : (cs.all fun c => !decide (c.2.2.2.1 = q)) = true := List.all_eq_true.2 fun d hd => by
        have := h1 d hd
        simp only [Bool.not_eq_true', decide_eq_false_iff_not]
        intro e2
        exact this (by omega) (by omega)
      rw [if_pos this, if_pos (by simpa using e), decide_eq_true e, if_neg (by simp)]
    · rw [if_neg (show ¬ (decide (c.2.2.2.1 = q) = true) by simpa using e), decide_eq_false e, Bool.not_false, Bool.true_and, Nat.add_zero]
theorem free_count {cs : List C5} (h : Apart cs) : ∀ n : Nat, (freeL cs n).length + cs.countP (fun c => decide (0 < c.2.2.2.1) && decide (c.2.2.2.1 ≤ (n : Int))) = n
  | 0 => by
    have : cs.countP (fun c => decide (0 < c.2.2.2.1) && decide (c.2.2.2.1 ≤ ((0 : Nat) : Int))) = 0 := List.countP_eq_zero.2 fun c _ => by simp
    rw [this]
    rfl
  | n + 1 => by
    have ih := free_count h n
    have h1 := at_loom h ((n + 1 : Nat) : Int) (by omega)
    have e1 : freeL cs (n + 1) = freeL cs n ++ (if (cs.all fun c => !decide (c.2.2.2.1 = ((n + 1 : Nat) : Int))) = true then [((n + 1 : Nat) : Int)] else []) := by
      unfold freeL
      rw [List.range_succ, List.map_append, List.filter_append]
      congr 1
      simp only [List.map_cons, List.map_nil, List.filter_cons, List.filter_nil]
    have e2 : cs.countP (fun c => decide (0 < c.2.2.2.1) && decide (c.2.2.2.1 ≤ ((n + 1 : Nat) : Int))) = cs.countP (fun c => decide (0 < c.2.2.2.1) && decide (c.2.2.2.1 ≤ (n : Int))) + cs.countP (fun c => decide (c.2.2.2.1 = ((n + 1 : Nat) : Int))) := by
      clear h h1 ih e1
      induction cs with
      | nil => rfl
      | cons c cs ih =>
        rw [List.countP_cons, List.countP_cons, List.countP_cons, ih]
        by_cases a : c.2.2.2.1 = ((n + 1 : Nat) : Int)
        · rw [if_pos (by simp; omega), if_neg (by simp; omega), if_pos (by simpa using a)]; omega
        · by_cases b : 0 < c.2.2.2.1 ∧ c.2.2.2.1 ≤ (n : Int)
          · rw [if_pos (by simp; omega), if_pos (by simp; omega), if_neg (by simpa using a)]; omega
          · have q1 : ¬ (decide (0 < c.2.2.2.1) && decide (c.2.2.2.1 ≤ ((n + 1 : Nat) : Int))) = true := by simp; omega
            have q2 : ¬ (decide (0 < c.2.2.2.1) && decide (c.2.2.2.1 ≤ (n : Int))) = true := by simp; omega
            rw [if_neg q1, if_neg q2, if_neg (by simpa using a)]
            simp only [Nat.add_zero]
    rw [e1, e2, h1, List.length_append]
    split
    · simp; omega
    · simp; omega
theorem woven_at {day lo : Int} {cs : List C5} (h : ∀ c ∈ cs, carpB day lo c = true) (hlo : 0 ≤ lo) : cs.countP (fun c => decide (0 < c.2.2.2.1) && decide (c.2.2.2.1 ≤ (lo.toNat : Int))) = stateN cs 1 := by
  unfold stateN
  refine List.countP_congr fun c hc => ?_
  have h1 := h c hc
  have h2 := carpB_woven h1
  have h3 : c.2.2.1 = 1 → c.2.2.2.1 ≤ lo := fun e => by
    unfold carpB at h1
    rw [if_pos e] at h1
    simp only [Bool.and_eq_true, inB_iff] at h1
    exact h1.2.2
  simp only [Bool.and_eq_true, decide_eq_true_eq]
  constructor
  · rintro ⟨a, _⟩; exact h2.1 a
  · intro a; exact ⟨h2.2 a, by have := h3 a; omega⟩
theorem looms_law {day lo m : Int} {cs : List C5} (h : shopB day lo cs m = true) : (stateN cs 1 : Int) + ((freeL cs lo.toNat).length : Int) = lo ∧ stateN cs 0 + stateN cs 1 + stateN cs 2 + stateN cs 3 + stateN cs 4 = cs.length := by
  obtain ⟨_, b2, _, _, b5⟩ := shopB_of h
  obtain ⟨a1, a2⟩ := apart_of b5
  have h1 := free_count a1 lo.toNat
  rw [woven_at a2 (by omega)] at h1
  exact ⟨by omega, states_sum a2⟩
/-- A washed carpet that is dry can be sold. -/
theorem sell_ok {day lo m : Int} {cs : List C5} {i : Nat} {c : C5} (h : shopB day lo cs m = true) (hc : cs[i]? = some c) (h3 : c.2.2.1 = 3) (hd : c.2.2.2.2 + 3 ≤ day) (hm : m ≠ 1000000) : ∃ q, stepS day lo cs m 7 (i : Int) 1 = some q := by
  obtain ⟨b1, b2, b3, b4, b5⟩ := shopB_of h
  have hi : i < cs.length := (List.getElem?_eq_some_iff.1 hc).1
  have hrd : rdC cs (i : Int) = c := by
    rw [rdC_nat, List.getD_eq_getElem?_getD, hc]
    rfl
  have b5' := b5
  rw [rowsB_iff] at b5
  have hcb := (b5 i c hc).1
  have hnew : rowsB day lo (cs.set i (chR c 7 1 day)) = true := by
    rw [rowsB_iff]
    have hch : chR c 7 1 day = ⟨c.1, c.2.1, 4, c.2.2.2.1, day⟩ := by simp [chR]
    have hl0 : ¬ c.2.2.2.1 > 0 := fun e => by have := (carpB_woven hcb).1 e; omega
    intro j d hjd
    rw [List.getElem?_set] at hjd
    by_cases e : i = j
    · subst e
      rw [if_pos rfl, if_pos hi] at hjd
      simp only [Option.some.injEq] at hjd
      subst hjd
      rw [hch]
      refine ⟨?_, fun _ _ _ _ hp => absurd hp hl0⟩
      unfold carpB at hcb ⊢
      rw [h3] at hcb
      simp only [Bool.and_eq_true, inB_iff, decide_eq_true_eq] at hcb ⊢
      refine ⟨⟨⟨⟨hcb.1.1.1.1, hcb.1.1.1.2⟩, by omega⟩, by omega⟩, ?_⟩
      have := hcb.2
      simpa using this
    · rw [if_neg e] at hjd
      refine ⟨(b5 j d hjd).1, fun j2 d2 hlt hj2 hp => ?_⟩
      rw [List.getElem?_set] at hj2
      by_cases e2 : i = j2
      · subst e2
        rw [if_pos rfl, if_pos hi] at hj2
        simp only [Option.some.injEq] at hj2
        subst hj2
        rw [hch]
        dsimp only
        omega
      · rw [if_neg e2] at hj2
        exact (b5 j d hjd).2 j2 d2 hlt hj2 hp
  have hs : shopB day lo (cs.set i (chR c 7 1 day)) (m + 1) = true := shopB_mk b1 b2 (by omega) (by simpa using b4) hnew
  refine ⟨(day, lo, cs.set i (chR c 7 1 day), m + 1), ?_⟩
  unfold stepS makeS
  rw [if_pos (show okStepS lo cs.length 7 (i : Int) 1 = true by unfold okStepS; simp [inB_iff]; omega), if_neg (by omega), if_neg (by omega), hrd, Int.toNat_natCast, if_pos rfl, hs]
  unfold keepIf
  rw [if_pos]
  · unfold chOk
    simp
    omega
theorem wait_ok {day lo m d : Int} {cs : List C5} (h : shopB day lo cs m = true) (hd : 1 ≤ d ∧ day + d ≤ 4000) : stepS day lo cs m 1 0 d = some (day + d, lo, cs, m) ∧ shopB (day + d) lo cs m = true := by
  obtain ⟨b1, b2, b3, b4, b5⟩ := shopB_of h
  refine ⟨?_, shopB_mk (by omega) b2 b3 b4 (rowsB_day b5 (by omega))⟩
  unfold stepS makeS
  rw [if_pos (show okStepS lo cs.length 1 0 d = true by unfold okStepS; simp; omega), if_pos rfl]
  unfold keepIf
  rw [if_pos (by simp; omega)]
theorem scan_foldp {β γ δ : Type} {l : List β} {d : β} {K0 : Nat} {P : Nat → γ → Prop} {L : Nat → Nat → γ → Option δ} {f : γ → β → γ} {g : γ → δ} (hs : ∀ k i a, K0 ≤ k → i < l.length → P i a → L (k + 1) i a = L k (i + 1) (f a (l.getD i d))) (hp : ∀ i a, i < l.length → P i a → P (i + 1) (f a (l.getD i d))) (he : ∀ k a, K0 ≤ k → P l.length a → L (k + 1) l.length a = some (g a)) :
    ∀ k a, P 0 a → K0 + l.length < k → L k 0 a = some (g (l.foldl f a)) := by
  have key : ∀ n i k a, P i a → i + n = l.length → K0 + n < k → L k i a = some (g ((l.drop i).foldl f a)) := by
    intro n
    induction n with
    | zero =>
      intro i k a ha h1 h2
      obtain ⟨k, rfl⟩ := succ_of (show 0 < k by omega)
      have : i = l.length := by omega
      subst this
      rw [he k a (by omega) ha, List.drop_length]
      rfl
    | succ n ih =>
      intro i k a ha h1 h2
      obtain ⟨k, rfl⟩ := succ_of (show 0 < k by omega)
      have hd : l.drop i = l.getD i d :: l.drop (i + 1) := by
        rw [getD_lt (show i < l.length by omega)]
        exact List.drop_eq_getElem_cons (by omega)
      rw [hs k i a (by omega) (by omega) ha, hd, List.foldl_cons]
      exact ih (i + 1) k _ (hp i a (by omega) ha) (by omega) (by omega)
  intro k a ha hk
  have := key l.length 0 k a ha (by omega) (by omega)
  simpa using this
/-! ### The code of looms, states, days, rows, texts -/
theorem carp_at {day lo : Int} {cs : List C5} (h : rowsB day lo cs = true) {i : Nat} (hi : i < cs.length) : carpB day lo (cs.getD i (0, 0, 0, 0, 0)) = true := by
  rw [rowsB_iff] at h
  rw [getD_lt hi]
  exact (h i cs[i] (List.getElem?_eq_getElem hi)).1
theorem carp_bd {day lo : Int} {c : C5} (h : carpB day lo c = true) : (1 ≤ c.1 ∧ c.1 ≤ 500) ∧ (0 ≤ c.2.1 ∧ c.2.1 ≤ c.1) ∧ (0 ≤ c.2.2.1 ∧ c.2.2.1 ≤ 4) ∧ (0 ≤ c.2.2.2.2 ∧ c.2.2.2.2 ≤ day) ∧ (1 ≤ lo → 0 ≤ c.2.2.2.1 ∧ (c.2.2.2.1 = 0 ∨ c.2.2.2.1 ≤ lo)) := by
  unfold carpB at h
  simp only [Bool.and_eq_true, inB_iff] at h
  refine ⟨h.1.1.1.1, h.1.1.1.2, h.1.1.2, h.1.2, fun hlo => ?_⟩
  have h2 := h.2
  split at h2
  · rw [inB_iff] at h2; omega
  · split at h2
    · simp only [Bool.and_eq_true, decide_eq_true_eq] at h2; omega
    · simp only [Bool.and_eq_true, decide_eq_true_eq] at h2; omega
theorem freeL_succ (cs : List C5) (n : Nat) : freeL cs (n + 1) = freeL cs n ++ (if (cs.all fun c => !decide (c.2.2.2.1 = ((n + 1 : Nat) : Int))) = true then [((n + 1 : Nat) : Int)] else []) := by
  unfold freeL
  rw [List.range_succ, List.map_append, List.filter_append]
  congr 1
  simp only [List.map_cons, List.map_nil, List.filter_cons, List.filter_nil]
theorem freeL_len (cs : List C5) (n : Nat) : (freeL cs n).length ≤ n := by
  unfold freeL
  refine Nat.le_trans (List.length_filter_le _ _) ?_
  simp
theorem onB_free {day lo : Int} {cs : List C5} (h : rowsB day lo cs = true) (q : Int) (hq : 0 < q) : onB cs q < 0 ↔ (cs.all fun c => !decide (c.2.2.2.1 = q)) = true := by
  rw [onB_none, List.all_eq_true]
  obtain ⟨_, h2⟩ := apart_of h
  refine forall_congr' fun c => forall_congr' fun hc => ?_
  have := carpB_woven (h2 c hc)
  simp only [Bool.not_eq_true', decide_eq_false_iff_not]
  constructor
  · intro a e; exact a ⟨this.1 (by omega), e⟩
  · intro a e; exact a e.2
def shopZ {δ : Type} (b : Bool) (x z : δ) : δ := if b = true then x else z
theorem implFree_ok (k : Nat) (day lo m : Int) (cs : List C5) (hk : 2000 ≤ k) : impl_FreeLooms.f k day lo cs m = some (shopZ (shopB day lo cs m) (freeL cs lo.toNat, true) ([], false)) := by
  unfold impl_FreeLooms.f impl_FreeLooms.m
  rw [isShop_eq _ _ _ _ _ (by omega), Option.bind_some]
  cases hs : shopB day lo cs m with
  | false => rfl
  | true =>
    obtain ⟨b1, b2, b3, b4, b5⟩ := shopB_of hs
    rw [Bool.not_true, cond_false]
    have key : ∀ d q K : Nat, q + d = lo.toNat → 1000 + d < K → impl_FreeLooms.l7 K day lo cs m (freeL cs q) ((q : Int) + 1) = some (freeL cs lo.toNat, true) := by
      intro d
      induction d with
      | zero =>
        intro q K h1 h2
        obtain ⟨K, rfl⟩ := succ_of (show 0 < K by omega)
        show impl_FreeLooms.b7 (impl_FreeLooms.l7 K) K day lo cs m (freeL cs q) ((q : Int) + 1) = _
        unfold impl_FreeLooms.b7
        rw [if_neg (by omega), show q = lo.toNat by omega]
      | succ d ih =>
        intro q K h1 h2
        obtain ⟨K, rfl⟩ := succ_of (show 0 < K by omega)
        show impl_FreeLooms.b7 (impl_FreeLooms.l7 K) K day lo cs m (freeL cs q) ((q : Int) + 1) = _
        unfold impl_FreeLooms.b7
        have hl := freeL_len cs q
        have hi := ih (q + 1) K (by omega) (by omega)
        rw [freeL_succ] at hi
        rw [if_pos (by omega), onLoom_eq K day lo m cs (by omega) (by omega), Option.bind_some, w64_id (by omega), show (q : Int) + 1 = ((q + 1 : Nat) : Int) by omega]
        have hf := onB_free b5 ((q + 1 : Nat) : Int) (by omega)
        by_cases e : onB cs ((q + 1 : Nat) : Int) < 0
        · rw [if_pos (hf.1 e)] at hi
          rw [if_pos e, app_ok (by simp; omega), Option.bind_some]
          exact hi
        · rw [if_neg (fun x => e (hf.2 x)), List.append_nil] at hi
          rw [if_neg e]
          exact hi
    have := key lo.toNat 0 k (by omega) (by omega)
    exact this
theorem specFree_ok (k : Nat) (day lo m : Int) (cs : List C5) (hk : 2000 ≤ k) : spec_FreeLooms.f k day lo cs m = some (shopZ (shopB day lo cs m) (freeL cs lo.toNat, true) ([], false)) := by
  unfold spec_FreeLooms.f spec_FreeLooms.m
  rw [good_eq _ _ _ _ _ (by omega), Option.bind_some]
  cases hs : shopB day lo cs m with
  | false => rfl
  | true =>
    obtain ⟨b1, b2, b3, b4, b5⟩ := shopB_of hs
    rw [Bool.not_true, cond_false]
    have inner : ∀ (q : Int) (acc : List Int) (d i K : Nat) (fr : Bool), i + d = cs.length → d < K → ∃ K', K = K' + d + 1 ∧ spec_FreeLooms.l14 K day lo cs m acc q fr (i : Int) = spec_FreeLooms.l14 (K' + 1) day lo cs m acc q (fr && (cs.drop i).all fun c => !decide (c.2.2.2.1 = q)) (cs.length : Int) := by
      intro q acc d
      induction d with
      | zero =>
        intro i K fr h1 h2
        refine ⟨K - 1, by omega, ?_⟩
        have : i = cs.length := by omega
        subst this
        rw [List.drop_length, List.all_nil, Bool.and_true, show K - 1 + 1 = K by omega]
      | succ d ih =>
        intro i K fr h1 h2
        obtain ⟨K, rfl⟩ := succ_of (show 0 < K by omega)
        have hd : cs.drop i = cs.getD i (0, 0, 0, 0, 0) :: cs.drop (i + 1) := by
          rw [getD_lt (show i < cs.length by omega)]
          exact List.drop_eq_getElem_cons (by omega)
        have e : spec_FreeLooms.l14 (K + 1) day lo cs m acc q fr (i : Int) = spec_FreeLooms.l14 K day lo cs m acc q (fr && !decide ((cs.getD i (0, 0, 0, 0, 0)).2.2.2.1 = q)) ((i + 1 : Nat) : Int) := by
          show spec_FreeLooms.b14 (spec_FreeLooms.l7 K) (spec_FreeLooms.l14 K) K day lo cs m acc q fr (i : Int) = _
          unfold spec_FreeLooms.b14
          rw [if_pos (by omega), chk_nat (by omega), Option.bind_some, w64_id (by omega), show (i : Int) + 1 = ((i + 1 : Nat) : Int) by omega]
          cases fr
          · rfl
          · rw [cond_true, Bool.true_and]
            congr 1
            by_cases h : (cs.getD i (0, 0, 0, 0, 0)).2.2.2.1 = q <;> simp [h]
        obtain ⟨K', e1, e2⟩ := ih (i + 1) K (fr && !decide ((cs.getD i (0, 0, 0, 0, 0)).2.2.2.1 = q)) (by omega) (by omega)
        exact ⟨K', by omega, by rw [e, e2, hd, List.all_cons, Bool.and_assoc]⟩
    have key : ∀ d q K : Nat, q + d = lo.toNat → 1000 + 20 * d < K → spec_FreeLooms.l7 K day lo cs m (freeL cs q) ((q : Int) + 1) = some (freeL cs lo.toNat, true) := by
      intro d
      induction d with
      | zero =>
        intro q K h1 h2
        obtain ⟨K, rfl⟩ := succ_of (show 0 < K by omega)
        show spec_FreeLooms.b7 (spec_FreeLooms.l14 K) K day lo cs m (freeL cs q) ((q : Int) + 1) = _
        unfold spec_FreeLooms.b7
        rw [if_neg (by omega), show q = lo.toNat by omega]
      | succ d ih =>
        intro q K h1 h2
        obtain ⟨K, rfl⟩ := succ_of (show 0 < K by omega)
        show spec_FreeLooms.b7 (spec_FreeLooms.l14 K) K day lo cs m (freeL cs q) ((q : Int) + 1) = _
        unfold spec_FreeLooms.b7
        have hl := freeL_len cs q
        obtain ⟨K', e1, e2⟩ := inner ((q : Int) + 1) (freeL cs q) cs.length 0 K true (by omega) (by omega)
        have hi := ih (q + 1) K' (by omega) (by omega)
        rw [freeL_succ] at hi
        rw [if_pos (by omega), show (0 : Int) = ((0 : Nat) : Int) from rfl, e2, List.drop_zero, Bool.true_and]
        show spec_FreeLooms.b14 (spec_FreeLooms.l7 K') (spec_FreeLooms.l14 K') K' day lo cs m (freeL cs q) ((q : Int) + 1) _ (cs.length : Int) = _
        unfold spec_FreeLooms.b14
        rw [if_neg (by omega), w64_id (by omega), show (q : Int) + 1 = ((q + 1 : Nat) : Int) by omega]
        cases e : (cs.all fun c => !decide (c.2.2.2.1 = ((q + 1 : Nat) : Int)))
        · rw [e, if_neg (by simp), List.append_nil] at hi
          exact hi
        · rw [e, if_pos rfl] at hi
          rw [cond_true, app_ok (by simp; omega), Option.bind_some]
          exact hi
    have := key lo.toNat 0 k (by omega) (by omega)
    exact this
def bump (a : List Int) (c : C5) : List Int := a.set c.2.2.1.toNat (a.getD c.2.2.1.toNat 0 + 1)
theorem bump_fold : ∀ (cs : List C5) (a0 a1 a2 a3 a4 : Int), (∀ c ∈ cs, 0 ≤ c.2.2.1 ∧ c.2.2.1 ≤ 4) → cs.foldl bump [a0, a1, a2, a3, a4] = [a0 + stateN cs 0, a1 + stateN cs 1, a2 + stateN cs 2, a3 + stateN cs 3, a4 + stateN cs 4]
  | [], a0, a1, a2, a3, a4, _ => by simp [stateN]
  | c :: cs, a0, a1, a2, a3, a4, h => by
    have h1 := h c List.mem_cons_self
    have ih := fun b0 b1 b2 b3 b4 => bump_fold cs b0 b1 b2 b3 b4 fun d hd => h d (List.mem_cons_of_mem _ hd)
    have hN : ∀ j : Nat, stateN (c :: cs) j = stateN cs j + if c.2.2.1 = (j : Int) then 1 else 0 := fun j => by
      unfold stateN
      rw [List.countP_cons]
      by_cases e : c.2.2.1 = (j : Int) <;> simp [e]
    rw [List.foldl_cons]
    have : c.2.2.1 = 0 ∨ c.2.2.1 = 1 ∨ c.2.2.1 = 2 ∨ c.2.2.1 = 3 ∨ c.2.2.1 = 4 := by omega
    rcases this with e | e | e | e | e <;>
    · have hb : bump [a0, a1, a2, a3, a4] c = bump [a0, a1, a2, a3, a4] (0, 0, c.2.2.1, 0, 0) := rfl
      rw [hb, hN, hN, hN, hN, hN, e]
      refine Eq.trans (ih _ _ _ _ _) ?_
      simp
      try omega
theorem set5 {P : Int → Prop} {a : List Int} {i : Nat} {x : Int} (h : ∀ y ∈ a, P y) (hx : P x) : ∀ y ∈ a.set i x, P y := fun y hy => by
  rcases List.mem_or_eq_of_mem_set hy with h1 | h1
  · exact h y h1
  · rw [h1]; exact hx
theorem getD_in {P : Int → Prop} {a : List Int} {i : Nat} (h : ∀ y ∈ a, P y) (hi : i < a.length) : P (a.getD i 0) := by
  rw [getD_lt hi]
  exact h _ (List.getElem_mem hi)
theorem states_run {day lo m : Int} {cs : List C5} (hs : shopB day lo cs m = true) {L : Nat → Nat → List Int → Option (List Int × Bool)}
    (h1 : ∀ k i (a : List Int), i < cs.length → a.length = 5 → (∀ y ∈ a, 0 ≤ y ∧ y ≤ 1000) → L (k + 1) i a = L k (i + 1) (bump a (cs.getD i (0, 0, 0, 0, 0)))) (h2 : ∀ k (a : List Int), L (k + 1) cs.length a = some (a, true)) : ∀ k, cs.length < k → L k 0 [0, 0, 0, 0, 0] = some (statesL cs, true) := by
  obtain ⟨b1, b2, b3, b4, b5⟩ := shopB_of hs
  intro k hk
  have := scan_foldp (l := cs) (d := (0, 0, 0, 0, 0)) (K0 := 0) (P := fun i a => a.length = 5 ∧ ∀ y ∈ a, 0 ≤ y ∧ y ≤ (i : Int)) (L := L) (f := bump) (g := fun a => (a, true)) (fun k i a _ hi hp => h1 k i a hi hp.1 fun y hy => by have := hp.2 y hy; omega) (fun i a hi hp => ?_) (fun k a _ _ => h2 k a) k [0, 0, 0, 0, 0] ⟨rfl, by intro y hy; simp at hy; omega⟩ (by omega)
  · rw [this, bump_fold _ _ _ _ _ _ (fun c hc => (carp_bd ((apart_of b5).2 c hc)).2.2.1)]
    simp [statesL]
  · have hb := (carp_bd (carp_at b5 hi)).2.2.1
    unfold bump
    refine ⟨by rw [List.length_set]; exact hp.1, set5 (fun y hy => by have := hp.2 y hy; omega) ?_⟩
    have := getD_in hp.2 (show (cs.getD i (0, 0, 0, 0, 0)).2.2.1.toNat < a.length by rw [hp.1]; omega)
    omega
theorem implStates_ok (k : Nat) (day lo m : Int) (cs : List C5) (hk : 2000 ≤ k) : impl_CarpetStates.f k day lo cs m = some (shopZ (shopB day lo cs m) (statesL cs, true) ([], false)) := by
  unfold impl_CarpetStates.f impl_CarpetStates.m
  rw [isShop_eq _ _ _ _ _ (by omega), Option.bind_some]
  cases hs : shopB day lo cs m with
  | false => rfl
  | true =>
    obtain ⟨b1, b2, b3, b4, b5⟩ := shopB_of hs
    rw [Bool.not_true, cond_false, mkl_int (by omega), Option.bind_some]
    refine states_run hs (L := fun k i a => impl_CarpetStates.l7 k a cs (cs.length : Int) (i : Int)) (fun k i a hi ha hb => ?_) (fun k a => ?_) k (by omega)
    · show impl_CarpetStates.b7 (impl_CarpetStates.l7 k) k a cs (cs.length : Int) (i : Int) = _
      unfold impl_CarpetStates.b7
      have hc := (carp_bd (carp_at b5 hi)).2.2.1
      have hg := getD_in hb (show (cs.getD i (0, 0, 0, 0, 0)).2.2.1.toNat < a.length by rw [ha]; omega)
      rw [if_pos (by omega), chk_nat hi, Option.bind_some, chk_int (by rw [ha]; omega), Option.bind_some, Option.bind_some, w64_id (by omega), w64_id (by omega)]
      rfl
    · show impl_CarpetStates.b7 (impl_CarpetStates.l7 k) k a cs (cs.length : Int) (cs.length : Int) = _
      unfold impl_CarpetStates.b7
      rw [if_neg (by omega)]
theorem specStates_ok (k : Nat) (day lo m : Int) (cs : List C5) (hk : 2000 ≤ k) : spec_CarpetStates.f k day lo cs m = some (shopZ (shopB day lo cs m) (statesL cs, true) ([], false)) := by
  unfold spec_CarpetStates.f spec_CarpetStates.m
  rw [good_eq _ _ _ _ _ (by omega), Option.bind_some]
  cases hs : shopB day lo cs m with
  | false => rfl
  | true =>
    obtain ⟨b1, b2, b3, b4, b5⟩ := shopB_of hs
    rw [Bool.not_true, cond_false, mkl_int (by omega), Option.bind_some]
    refine states_run hs (L := fun k i a => spec_CarpetStates.l7 k day lo cs m a (i : Int)) (fun k i a hi ha hb => ?_) (fun k a => ?_) k (by omega)
    · show spec_CarpetStates.b7 (spec_CarpetStates.l7 k) k day lo cs m a (i : Int) = _
      unfold spec_CarpetStates.b7
      have hc := (carp_bd (carp_at b5 hi)).2.2.1
      have hg := getD_in hb (show (cs.getD i (0, 0, 0, 0, 0)).2.2.1.toNat < a.length by rw [ha]; omega)
      rw [if_pos (by omega), chk_nat hi, Option.bind_some, chk_int (by rw [ha]; omega), Option.bind_some, Option.bind_some, w64_id (by omega), w64_id (by omega)]
      rfl
    · show spec_CarpetStates.b7 (spec_CarpetStates.l7 k) k day lo cs m a (cs.length : Int) = _
      unfold spec_CarpetStates.b7
      rw [if_neg (by omega)]
theorem most_eq (k : Nat) (x : Int) : spec_l1Most.f k 0 x = some (if x < 0 then 0 else x) := by
  unfold spec_l1Most.f spec_l1Most.m
  split <;> rfl
def soldR (x : Int) : Int × Bool := if x < 0 then (0, false) else (x, true)
theorem dayL_bd {day since : Int} (h1 : 0 ≤ since ∧ since ≤ day) (h2 : 0 ≤ day ∧ day ≤ 4000) : 0 ≤ dayL day since ∧ dayL day since ≤ 3 := by
  unfold dayL
  split <;> omega
theorem daysF_bd {day lo : Int} {c : C5} {b : Int} (hc : carpB day lo c = true) (hd : 0 ≤ day ∧ day ≤ 4000) (hb : -1 ≤ b ∧ b ≤ 3) : -1 ≤ daysF day b c ∧ daysF day b c ≤ 3 := by
  have := dayL_bd (carp_bd hc).2.2.2.1 hd
  unfold daysF
  split <;> omega
theorem specDays_ok (k : Nat) (day lo m : Int) (cs : List C5) (hk : 2000 ≤ k) : spec_DaysToSell.f k day lo cs m = some (shopZ (shopB day lo cs m) (soldR (daysL day cs)) (0, false)) := by
  unfold spec_DaysToSell.f spec_DaysToSell.m
  rw [good_eq _ _ _ _ _ (by omega), Option.bind_some]
  cases hs : shopB day lo cs m with
  | false => rfl
  | true =>
    obtain ⟨b1, b2, b3, b4, b5⟩ := shopB_of hs
    rw [Bool.not_true, cond_false]
    refine scan_foldp (l := cs) (d := (0, 0, 0, 0, 0)) (K0 := 5) (P := fun _ b => -1 ≤ b ∧ b ≤ 3) (L := fun k i b => spec_DaysToSell.l7 k day lo cs m b (i : Int)) (f := daysF day) (g := soldR) (fun k i b _ hi hb => ?_) (fun i b hi hb => daysF_bd (carp_at b5 hi) b1 hb) (fun k b _ hb => ?_) k (-1) (by omega) (by omega)
    · show spec_DaysToSell.b7 (spec_DaysToSell.l7 k) k day lo cs m b (i : Int) = _
      unfold spec_DaysToSell.b7
      have hc := carp_bd (carp_at b5 hi)
      have hl := dayL_bd hc.2.2.2.1 b1
      rw [if_pos (by omega), chk_nat hi, Option.bind_some]
      unfold daysF
      generalize cs.getD i (0, 0, 0, 0, 0) = c at hc hl ⊢
      rw [w64_id (x := c.2.2.2.2 + 3) (by omega), w64_id (x := c.2.2.2.2 + 3 - day) (by omega), most_eq, Option.bind_some]
      rw [show (if c.2.2.2.2 + 3 - day < 0 then (0 : Int) else c.2.2.2.2 + 3 - day) = dayL day c.2.2.2.2 from rfl, w64_id (by omega), w64_id (by omega), show (i : Int) + 1 = ((i + 1 : Nat) : Int) by omega]
      by_cases q1 : c.2.2.1 = 3
      · rw [if_pos q1]
        by_cases q2 : day + dayL day c.2.2.2.2 ≤ 4000
        · rw [if_pos q2]
          by_cases q3 : b < 0
          · rw [if_pos q3, if_pos ⟨q1, q2, .inl q3⟩]
          · rw [if_neg q3]
            by_cases q4 : dayL day c.2.2.2.2 < b
            · rw [if_pos q4, if_pos ⟨q1, q2, .inr q4⟩]
            · rw [if_neg q4, if_neg (fun e => by rcases e.2.2 with e | e <;> omega)]
        · rw [if_neg q2, if_neg (fun e => q2 e.2.1)]
      · rw [if_neg q1, if_neg (fun e => q1 e.1)]
    · show spec_DaysToSell.b7 (spec_DaysToSell.l7 k) k day lo cs m b (cs.length : Int) = _
      unfold spec_DaysToSell.b7 soldR
      rw [if_neg (by omega)]
      split <;> rfl
theorem implDays_ok (k : Nat) (day lo m : Int) (cs : List C5) (hk : 2000 ≤ k) : impl_DaysToSell.f k day lo cs m = some (shopZ (shopB day lo cs m) (soldR (daysL day cs)) (0, false)) := by
  unfold impl_DaysToSell.f impl_DaysToSell.m
  rw [isShop_eq _ _ _ _ _ (by omega), Option.bind_some]
  cases hs : shopB day lo cs m with
  | false => rfl
  | true =>
    obtain ⟨b1, b2, b3, b4, b5⟩ := shopB_of hs
    rw [Bool.not_true, cond_false]
    refine scan_foldp (l := cs) (d := (0, 0, 0, 0, 0)) (K0 := 5) (P := fun _ b => -1 ≤ b ∧ b ≤ 3) (L := fun k i b => impl_DaysToSell.l7 k day lo cs m b cs (cs.length : Int) (i : Int)) (f := daysF day) (g := soldR) (fun k i b _ hi hb => ?_) (fun i b hi hb => daysF_bd (carp_at b5 hi) b1 hb) (fun k b _ hb => ?_) k (-1) (by omega) (by omega)
    · show impl_DaysToSell.b7 (impl_DaysToSell.l7 k) k day lo cs m b cs (cs.length : Int) (i : Int) = _
      unfold impl_DaysToSell.b7
      have hc := carp_bd (carp_at b5 hi)
      have hl := dayL_bd hc.2.2.2.1 b1
      rw [if_pos (by omega), chk_nat hi, Option.bind_some]
      unfold daysF
      generalize cs.getD i (0, 0, 0, 0, 0) = c at hc hl ⊢
      have hmx : max (c.2.2.2.2 + 3) day = day + dayL day c.2.2.2.2 := by unfold dayL; split <;> omega
      unfold impl_isDay.f impl_isDay.m
      rw [w64_id (x := c.2.2.2.2 + 3) (by omega), hmx, w64_id (x := day + dayL day c.2.2.2.2 - day) (by omega), show day + dayL day c.2.2.2.2 - day = dayL day c.2.2.2.2 by omega, w64_id (by omega), show (i : Int) + 1 = ((i + 1 : Nat) : Int) by omega, implIn_eq, Option.bind_some, Option.bind_some]
      by_cases q1 : c.2.2.1 = 3
      · rw [if_pos q1]
        by_cases q2 : day + dayL day c.2.2.2.2 ≤ 4000
        · rw [inB_of (by omega), cond_true]
          by_cases q3 : b < 0
          · rw [if_pos q3, if_pos ⟨q1, q2, .inl q3⟩]
          · rw [if_neg q3]
            by_cases q4 : dayL day c.2.2.2.2 < b
            · rw [if_pos q4, if_pos ⟨q1, q2, .inr q4⟩]
            · rw [if_neg q4, if_neg (fun e => by rcases e.2.2 with e | e <;> omega)]
        · rw [notB (fun e => q2 (inB_iff.1 e).2), cond_false, if_neg (fun e => q2 e.2.1)]
      · rw [if_neg q1, if_neg (fun e => q1 e.1)]
    · show impl_DaysToSell.b7 (impl_DaysToSell.l7 k) k day lo cs m b cs (cs.length : Int) (cs.length : Int) = _
      unfold impl_DaysToSell.b7 soldR
      rw [if_neg (by omega)]
      by_cases e : b < 0
      · rw [if_pos e, show max b 0 = 0 by omega, decide_eq_false (by omega)]
      · rw [if_neg e, show max b 0 = b by omega, decide_eq_true (by omega)]
def rowsF (x : Int) (c : C5) : Int := x + (c.1 - c.2.1)
theorem specRows_ok (k : Nat) (day lo m : Int) (cs : List C5) (hk : 2000 ≤ k) : spec_RowsLeft.f k day lo cs m = some (shopZ (shopB day lo cs m) (cs.foldl rowsF 0, true) (0, false)) := by
  unfold spec_RowsLeft.f spec_RowsLeft.m
  rw [good_eq _ _ _ _ _ (by omega), Option.bind_some]
  cases hs : shopB day lo cs m with
  | false => rfl
  | true =>
    obtain ⟨b1, b2, b3, b4, b5⟩ := shopB_of hs
    rw [Bool.not_true, cond_false]
    refine scan_foldp (l := cs) (d := (0, 0, 0, 0, 0)) (K0 := 5) (P := fun i b => 0 ≤ b ∧ b ≤ 500 * (i : Int)) (L := fun k i b => spec_RowsLeft.l7 k day lo cs m b (i : Int)) (f := rowsF) (g := fun x => (x, true)) (fun k i b _ hi hb => ?_) (fun i b hi hb => by have := carp_bd (carp_at b5 hi); unfold rowsF; omega) (fun k b _ hb => ?_) k 0 (by omega) (by omega)
    · show spec_RowsLeft.b7 (spec_RowsLeft.l7 k) k day lo cs m b (i : Int) = _
      unfold spec_RowsLeft.b7 rowsF
      have hc := carp_bd (carp_at b5 hi)
      rw [if_pos (by omega), chk_nat hi, Option.bind_some, Option.bind_some]
      generalize cs.getD i (0, 0, 0, 0, 0) = c at hc ⊢
      rw [w64_id (x := b + c.1) (by omega), w64_id (x := b + c.1 - c.2.1) (by omega), w64_id (by omega), show (i : Int) + 1 = ((i + 1 : Nat) : Int) by omega, show b + c.1 - c.2.1 = b + (c.1 - c.2.1) by omega]
    · show spec_RowsLeft.b7 (spec_RowsLeft.l7 k) k day lo cs m b (cs.length : Int) = _
      unfold spec_RowsLeft.b7
      rw [if_neg (by omega)]
theorem implRows_ok (k : Nat) (day lo m : Int) (cs : List C5) (hk : 2000 ≤ k) : impl_RowsLeft.f k day lo cs m = some (shopZ (shopB day lo cs m) (cs.foldl rowsF 0, true) (0, false)) := by
  unfold impl_RowsLeft.f impl_RowsLeft.m
  rw [isShop_eq _ _ _ _ _ (by omega), Option.bind_some]
  cases hs : shopB day lo cs m with
  | false => rfl
  | true =>
    obtain ⟨b1, b2, b3, b4, b5⟩ := shopB_of hs
    rw [Bool.not_true, cond_false]
    refine scan_foldp (l := cs) (d := (0, 0, 0, 0, 0)) (K0 := 5) (P := fun i b => 0 ≤ b ∧ b ≤ 500 * (i : Int)) (L := fun k i b => impl_RowsLeft.l7 k b cs (cs.length : Int) (i : Int)) (f := rowsF) (g := fun x => (x, true)) (fun k i b _ hi hb => ?_) (fun i b hi hb => by have := carp_bd (carp_at b5 hi); unfold rowsF; omega) (fun k b _ hb => ?_) k 0 (by omega) (by omega)
    · show impl_RowsLeft.b7 (impl_RowsLeft.l7 k) k b cs (cs.length : Int) (i : Int) = _
      unfold impl_RowsLeft.b7 rowsF
      have hc := carp_bd (carp_at b5 hi)
      rw [if_pos (by omega), chk_nat hi, Option.bind_some]
      generalize cs.getD i (0, 0, 0, 0, 0) = c at hc ⊢
      rw [w64_id (x := c.1 - c.2.1) (by omega), w64_id (x := b + (c.1 - c.2.1)) (by omega), w64_id (by omega), show (i : Int) + 1 = ((i + 1 : Nat) : Int) by omega]
    · show impl_RowsLeft.b7 (impl_RowsLeft.l7 k) k b cs (cs.length : Int) (cs.length : Int) = _
      unfold impl_RowsLeft.b7
      rw [if_neg (by omega)]
/-! ### A carpet's text -/
def nameL (s : Int) : List UInt8 := if s = 0 then [119, 97, 105, 116, 115] else if s = 1 then [119, 111, 118, 101, 110] else if s = 2 then [111, 102, 102] else if s = 3 then [119, 97, 115, 104, 101, 100] else [115, 111, 108, 100]
theorem nameL_len (s : Int) : (nameL s).length ≤ 6 := by
  unfold nameL
  (repeat' split) <;> simp
def textC (c : C5) : List UInt8 := nameL c.2.2.1 ++ [32] ++ Lib.decDigits c.2.1.toNat ++ [47] ++ Lib.decDigits c.1.toNat
def onC (c : C5) : List UInt8 := if 0 < c.2.2.2.1 then textC c ++ ([32, 111, 110, 32] ++ Lib.decDigits c.2.2.2.1.toNat) else textC c
theorem textC_len {c : C5} (h1 : 0 ≤ c.2.1 ∧ c.2.1 ≤ 500) (h2 : 0 ≤ c.1 ∧ c.1 ≤ 500) : (textC c).length ≤ 30 := by
  have d1 := digits_len c.2.1.toNat 3 (by omega) (by omega)
  have d2 := digits_len c.1.toNat 3 (by omega) (by omega)
  have : (nameL c.2.2.1).length ≤ 6 := nameL_len _
  unfold textC
  simp only [List.length_append, List.length_cons, List.length_nil]
  omega
theorem numI_ok (n : Int) (h : 0 ≤ n ∧ n ≤ 500) : ∀ k, 3 ≤ k → spec_l1Num.f k n = some (bs (Lib.decDigits n.toNat)) := by
  intro k hk
  obtain ⟨j, rfl⟩ : ∃ j : Nat, n = j := ⟨n.toNat, by omega⟩
  rw [num_ok 3 (by omega) (by omega) j (by omega) (by omega) k hk, Int.toNat_natCast]
theorem decI_ok (n : Int) (h : 0 ≤ n ∧ n ≤ 500) (k : Nat) : impl_decimal.f k n = some (bs (Lib.decDigits n.toNat)) := by
  obtain ⟨j, rfl⟩ : ∃ j : Nat, n = j := ⟨n.toNat, by omega⟩
  unfold impl_decimal.f impl_decimal.m strconv_Itoa.f
  rw [itoaF_nat (by omega), Int.toNat_natCast]
  rfl
theorem digI_len (n : Int) (h : 0 ≤ n ∧ n ≤ 500) : (Lib.decDigits n.toNat).length ≤ 3 := (digits_len n.toNat 3 (by omega) (by omega)).1
theorem cat4 (a : List UInt8) (p q : List UInt8) (ha : a.length ≤ 10) (hp : p.length ≤ 3) (hq : q.length ≤ 3) {β : Type} (f : ByteArray → Option β) (X Y : Option ByteArray) (hX : X = some (bs p)) (hY : Y = some (bs q)) :
    ((catS (bs a) (⟨#[32]⟩ : ByteArray)).bind fun s1 => (X.bind fun r1 => ((catS s1 r1).bind fun s2 => ((catS s2 (⟨#[47]⟩ : ByteArray)).bind fun s3 => (Y.bind fun r2 => ((catS s3 r2).bind fun s4 => f s4)))))) = f (bs (a ++ [32] ++ p ++ [47] ++ q)) := by
  rw [show (⟨#[32]⟩ : ByteArray) = bs [32] from rfl, show (⟨#[47]⟩ : ByteArray) = bs [47] from rfl, catS_bs (by simp; omega), Option.bind_some, hX, Option.bind_some, catS_bs (by simp; omega), Option.bind_some, catS_bs (by simp; omega), Option.bind_some, hY, Option.bind_some, catS_bs (by simp; omega), Option.bind_some]
theorem specText_ok (k : Nat) (c : C5) (h1 : 0 ≤ c.2.1 ∧ c.2.1 ≤ 500) (h2 : 0 ≤ c.1 ∧ c.1 ≤ 500) (h3 : 0 ≤ c.2.2.1 ∧ c.2.2.1 ≤ 4) (h4 : 0 ≤ c.2.2.2.1 ∧ c.2.2.2.1 ≤ 500) (hk : 3 ≤ k) : spec_l25Text.f k c.1 c.2.1 c.2.2.1 c.2.2.2.1 c.2.2.2.2 = some (bs (onC c)) := by
  have hl := textC_len h1 h2
  have d1 := digI_len _ h1
  have d2 := digI_len _ h2
  have d3 := digI_len _ h4
  have fin : ((if 0 < c.2.2.2.1 then ((catS (bs (textC c)) (⟨#[32, 111, 110, 32]⟩ : ByteArray)).bind fun s8 => ((spec_l1Num.f k c.2.2.2.1).bind fun r9 => ((catS s8 r9).bind fun s10 => (some s10)))) else (some (bs (textC c))))) = some (bs (onC c)) := by
    unfold onC
    by_cases e : 0 < c.2.2.2.1
    · rw [if_pos e, if_pos e, show (⟨#[32, 111, 110, 32]⟩ : ByteArray) = bs [32, 111, 110, 32] from rfl, catS_bs (by simp; omega), Option.bind_some, numI_ok _ h4 k hk, Option.bind_some, catS_bs (by simp; omega), Option.bind_some, List.append_assoc]
    · rw [if_neg e, if_neg e]
  unfold spec_l25Text.f spec_l25Text.m
  have hn : (chk [(⟨#[119, 97, 105, 116, 115]⟩ : ByteArray), (⟨#[119, 111, 118, 101, 110]⟩ : ByteArray), (⟨#[111, 102, 102]⟩ : ByteArray), (⟨#[119, 97, 115, 104, 101, 100]⟩ : ByteArray), (⟨#[115, 111, 108, 100]⟩ : ByteArray)].length c.2.2.1) = some c.2.2.1.toNat := chk_int (by simp; omega)
  have hg : [(⟨#[119, 97, 105, 116, 115]⟩ : ByteArray), (⟨#[119, 111, 118, 101, 110]⟩ : ByteArray), (⟨#[111, 102, 102]⟩ : ByteArray), (⟨#[119, 97, 115, 104, 101, 100]⟩ : ByteArray), (⟨#[115, 111, 108, 100]⟩ : ByteArray)].getD c.2.2.1.toNat ByteArray.empty = bs (nameL c.2.2.1) := by
    have : c.2.2.1 = 0 ∨ c.2.2.1 = 1 ∨ c.2.2.1 = 2 ∨ c.2.2.1 = 3 ∨ c.2.2.1 = 4 := by omega
    rcases this with e | e | e | e | e <;> rw [e] <;> rfl
  have hnl : (nameL c.2.2.1).length ≤ 6 := nameL_len _
  rw [hn, Option.bind_some, hg]
  refine Eq.trans (cat4 (nameL c.2.2.1) _ _ (by omega) d1 d2 _ _ _ (numI_ok _ h1 k hk) (numI_ok _ h2 k hk)) ?_
  exact fin
theorem implText_l (k : Nat) (c : C5) (h1 : 0 ≤ c.2.1 ∧ c.2.1 ≤ 500) (h2 : 0 ≤ c.1 ∧ c.1 ≤ 500) (h4 : 0 ≤ c.2.2.2.1 ∧ c.2.2.2.1 ≤ 500) : impl_CarpetText.l6 (k + 1) c.1 c.2.1 c.2.2.1 c.2.2.2.1 c.2.2.2.2 (bs (textC c)) = some (bs (onC c), true) := by
  have hl := textC_len h1 h2
  have d3 := digI_len _ h4
  show impl_CarpetText.b6 k c.1 c.2.1 c.2.2.1 c.2.2.2.1 c.2.2.2.2 (bs (textC c)) = _
  unfold impl_CarpetText.b6 onC
  by_cases e : 0 < c.2.2.2.1
  · rw [if_pos e, if_pos e, decI_ok _ h4, Option.bind_some, show (⟨#[32, 111, 110, 32]⟩ : ByteArray) = bs [32, 111, 110, 32] from rfl, catS_bs (by simp; omega), Option.bind_some, catS_bs (by simp; omega), Option.bind_some]
  · rw [if_neg e, if_neg e]
def carpetR (day lo m : Int) (cs : List C5) (i : Int) : ByteArray × Bool := if shopB day lo cs m = true ∧ 0 ≤ i ∧ i ≤ (cs.length : Int) - 1 then (bs (onC (cs.getD i.toNat (0, 0, 0, 0, 0))), true) else (bs [], false)
theorem specCarpetText_ok (k : Nat) (day lo m : Int) (cs : List C5) (i : Int) (hl : cs.length ≤ 1000) (hk : 2000 ≤ k) : spec_CarpetText.f k day lo cs m i = some (carpetR day lo m cs i) := by
  unfold spec_CarpetText.f spec_CarpetText.m carpetR
  rw [good_eq _ _ _ _ _ (by omega), Option.bind_some]
  cases hs : shopB day lo cs m with
  | false => rw [if_neg (by simp)]; rfl
  | true =>
    obtain ⟨b1, b2, b3, b4, b5⟩ := shopB_of hs
    rw [Bool.not_true, cond_false, w64_id (by omega), specIn_eq, Option.bind_some]
    by_cases h : 0 ≤ i ∧ i ≤ (cs.length : Int) - 1
    · have hi : i.toNat < cs.length := by omega
      have hc := carp_bd (carp_at b5 hi)
      have hlm := hc.2.2.2.2 (by omega)
      rw [inB_of h, Bool.not_true, cond_false, chk_int (by omega), Option.bind_some, specText_ok k (cs.getD i.toNat (0, 0, 0, 0, 0)) (by omega) (by omega) hc.2.2.1 (by omega) (by omega), Option.bind_some, if_pos ⟨rfl, h⟩]
    · rw [notB (fun e => h (inB_iff.1 e)), if_neg (fun e => h e.2)]
      rfl
theorem implCarpetText_ok (k : Nat) (day lo m : Int) (cs : List C5) (i : Int) (hl : cs.length ≤ 1000) (hk : 2000 ≤ k) : impl_CarpetText.f k day lo cs m i = some (carpetR day lo m cs i) := by
  obtain ⟨k, rfl⟩ := succ_of (show 0 < k by omega)
  unfold impl_CarpetText.f impl_CarpetText.m carpetR
  rw [isShop_eq _ _ _ _ _ (by omega), Option.bind_some]
  cases hs : shopB day lo cs m with
  | false => rw [if_neg (by simp)]; rfl
  | true =>
    obtain ⟨b1, b2, b3, b4, b5⟩ := shopB_of hs
    rw [Bool.not_true, cond_false, w64_id (by omega), implIn_eq, Option.bind_some]
    by_cases h : 0 ≤ i ∧ i ≤ (cs.length : Int) - 1
    · have hi : i.toNat < cs.length := by omega
      have hc := carp_bd (carp_at b5 hi)
      have hlm := hc.2.2.2.2 (by omega)
      rw [inB_of h, Bool.not_true, cond_false, chk_int (by omega), Option.bind_some, if_pos (show true = true ∧ 0 ≤ i ∧ i ≤ (cs.length : Int) - 1 from ⟨rfl, h⟩)]
      generalize cs.getD i.toNat (0, 0, 0, 0, 0) = c at hc hlm ⊢
      have d1 := digI_len c.2.1 (by omega)
      have d2 := digI_len c.1 (by omega)
      have fin := implText_l k c (by omega) (by omega) (by omega)
      have n1 := decI_ok c.2.1 (by omega) (k + 1)
      have n2 := decI_ok c.1 (by omega) (k + 1)
      unfold textC nameL at fin
      have : c.2.2.1 = 0 ∨ c.2.2.1 = 1 ∨ c.2.2.1 = 2 ∨ c.2.2.1 = 3 ∨ c.2.2.1 = 4 := by omega
      rcases this with e | e | e | e | e
      · rw [e] at fin ⊢
        exact Eq.trans (cat4 [119, 97, 105, 116, 115] _ _ (by simp) d1 d2 _ _ _ n1 n2) fin
      · rw [e] at fin ⊢
        exact Eq.trans (cat4 [119, 111, 118, 101, 110] _ _ (by simp) d1 d2 _ _ _ n1 n2) fin
      · rw [e] at fin ⊢
        exact Eq.trans (cat4 [111, 102, 102] _ _ (by simp) d1 d2 _ _ _ n1 n2) fin
      · rw [e] at fin ⊢
        exact Eq.trans (cat4 [119, 97, 115, 104, 101, 100] _ _ (by simp) d1 d2 _ _ _ n1 n2) fin
      · rw [e] at fin ⊢
        exact Eq.trans (cat4 [115, 111, 108, 100] _ _ (by simp) d1 d2 _ _ _ n1 n2) fin
    · rw [notB (fun e => h (inB_iff.1 e)), if_neg (fun e => h e.2)]
      rfl
/-! ### The law -/
theorem drawShop_ok (k : Nat) {l : List Int} (hb : By l) (hk : 4000 ≤ k) : Yl (spec_DrawIsShop.f k l) fun r => r.2.2.1.length ≤ 9 := by
  unfold spec_DrawIsShop.f spec_DrawIsShop.m
  refine Yl.bind (shop_ok k 0 hb (by omega) hk) ?_
  rintro ⟨d, lo, cs, m, l', a, s⟩ ⟨e1, e2, e3, e4, e5, e6⟩
  exact Yl.ret e4
theorem tail_ok (k : Nat) {l : List Int} (hb : By l) (hk : 4000 ≤ k) : ((spec_DrawRowsLeft.f k l).bind fun r22 => ((impl_RowsLeft.f k r22.1 r22.2.1 r22.2.2.1 r22.2.2.2).bind fun r23 => ((spec_RowsLeft.f k r22.1 r22.2.1 r22.2.2.1 r22.2.2.2).bind fun r24 => (if ¬ r23.1 = r24.1 then (some false) else (if ¬ r23.2 = r24.2 then (some false) else ((spec_DrawCarpetText.f k l).bind fun r25 => ((impl_CarpetText.f k r25.1 r25.2.1 r25.2.2.1 r25.2.2.2.1 r25.2.2.2.2).bind fun r26 => ((spec_CarpetText.f k r25.1 r25.2.1 r25.2.2.1 r25.2.2.2.1 r25.2.2.2.2).bind fun r27 => (if r26.1 = r27.1 then (some (decide (r26.2 = r27.2))) else (some false)))))))))) = some true := by
  obtain ⟨⟨d, lo, cs, m⟩, e, h1⟩ := drawShop_ok k hb hk
  have e1 : spec_DrawRowsLeft.f k l = some (d, lo, cs, m) := by
    unfold spec_DrawRowsLeft.f spec_DrawRowsLeft.m
    rw [e]
    rfl
  rw [e1, Option.bind_some]
  dsimp only
  rw [implRows_ok _ _ _ _ _ (by omega), specRows_ok _ _ _ _ _ (by omega), Option.bind_some, Option.bind_some, if_neg (fun e => e rfl), if_neg (fun e => e rfl)]
  have hd : Yl (spec_DrawCarpetText.f k l) fun r => r.2.2.1.length ≤ 9 := by
    unfold spec_DrawCarpetText.f spec_DrawCarpetText.m
    refine Yl.bind (shop_ok k 0 hb (by omega) hk) ?_
    rintro ⟨d, lo, cs, m, l', a, s⟩ ⟨f1, f2, f3, f4, f5, f6⟩
    dsimp only at *; subst f1
    refine Yl.bind (pick_ok k s _ hb (by omega) (by omega)) ?_
    rintro ⟨p, l3, a3, s3⟩ ⟨p1, p2, p3, p4, p5, p6⟩
    dsimp only at *; subst p1
    refine Yl.bind (pick_ok k s3 _ hb (by omega) (by omega)) ?_
    rintro ⟨q, l4, a4, s4⟩ ⟨q1, q2, q3, q4, q5, q6⟩
    dsimp only at *
    unfold quo
    rw [if_neg (by omega), Option.bind_some]
    exact Yl.ret f4
  obtain ⟨⟨d2, lo2, cs2, m2, i⟩, e2, h2⟩ := hd
  dsimp only at h2
  rw [e2, Option.bind_some]
  dsimp only
  rw [implCarpetText_ok _ _ _ _ _ _ (by omega) (by omega), specCarpetText_ok _ _ _ _ _ _ (by omega) (by omega), Option.bind_some, Option.bind_some, if_pos rfl, decide_eq_true rfl]
theorem sold_loop {l : List Int} (hb : By l) {day lo m : Int} {cs : List C5} (hs : shopB day lo cs m = true) : ∀ (d i K : Nat) (sold : Bool), i + d = cs.length → 5000 + d < K → (sold = true ∨ ∃ j : Nat, i ≤ j ∧ j < cs.length ∧ ∃ q, stepS day lo cs m 7 (j : Int) 1 = some q) → laws_FnCarpets.l33 K l day lo cs m sold (i : Int) = some true := by
  obtain ⟨b1, b2, b3, b4, b5⟩ := shopB_of hs
  intro d
  induction d with
  | zero =>
    intro i K sold h1 h2 h3
    obtain ⟨K, rfl⟩ := succ_of (show 0 < K by omega)
    show laws_FnCarpets.b33 (laws_FnCarpets.l33 K) K l day lo cs m sold (i : Int) = _
    unfold laws_FnCarpets.b33
    rw [if_neg (by omega)]
    rcases h3 with rfl | ⟨j, j1, j2, _⟩
    · rw [Bool.not_true, cond_false]
      exact tail_ok K hb (by omega)
    · omega
  | succ d ih =>
    intro i K sold h1 h2 h3
    obtain ⟨K, rfl⟩ := succ_of (show 0 < K by omega)
    show laws_FnCarpets.b33 (laws_FnCarpets.l33 K) K l day lo cs m sold (i : Int) = _
    unfold laws_FnCarpets.b33
    rw [if_pos (by omega), implStepShop_eq K hs (by omega) (by omega), Option.bind_some, w64_id (by omega), show (i : Int) + 1 = ((i + 1 : Nat) : Int) by omega]
    cases hst : stepS day lo cs m 7 (i : Int) 1 with
    | some q =>
      obtain ⟨d', lo', c', m'⟩ := q
      simp only [outR, cond_true]
      exact ih (i + 1) K true (by omega) (by omega) (.inl rfl)
    | none =>
      simp only [outR, cond_false]
      refine ih (i + 1) K sold (by omega) (by omega) (h3.imp id fun ⟨j, j1, j2, q, hq⟩ => ⟨j, ?_, j2, q, hq⟩)
      rcases Nat.lt_or_ge i j with h | h
      · omega
      · have : j = i := by omega
        subst this
        rw [hst] at hq
        cases hq
theorem vSum5 (k : Nat) (a b c d e : Int) (h : (0 ≤ a ∧ a ≤ 1000) ∧ (0 ≤ b ∧ b ≤ 1000) ∧ (0 ≤ c ∧ c ≤ 1000) ∧ (0 ≤ d ∧ d ≤ 1000) ∧ (0 ≤ e ∧ e ≤ 1000)) (hk : 100 ≤ k) : laws_vSum.f k [a, b, c, d, e] = some (a + b + c + d + e) := by
  unfold laws_vSum.f laws_vSum.m
  have := scan_foldp (l := [a, b, c, d, e]) (d := (0 : Int)) (K0 := 5) (P := fun i x => 0 ≤ x ∧ x ≤ 1000 * (i : Int)) (L := fun k i x => laws_vSum.l4 k [a, b, c, d, e] x (i : Int)) (f := fun x y => x + y) (g := fun x => x) (fun k i x _ hi hx => by
    show laws_vSum.b4 (laws_vSum.l4 k) k [a, b, c, d, e] x (i : Int) = _
    unfold laws_vSum.b4
    have hy := getD_in (P := fun y => 0 ≤ y ∧ y ≤ 1000) (a := [a, b, c, d, e]) (i := i) (by intro y hy; simp at hy; omega) hi
    simp only [List.length_cons, List.length_nil] at hi
    rw [if_pos (by simp; omega), chk_nat (by simp; omega), Option.bind_some, w64_id (by omega), w64_id (by omega)]
    rfl) (fun i x hi hx => by
    have hy := getD_in (P := fun y => 0 ≤ y ∧ y ≤ 1000) (a := [a, b, c, d, e]) (i := i) (by intro y hy; simp at hy; omega) hi
    omega) (fun k x _ _ => by
    show laws_vSum.b4 (laws_vSum.l4 k) k [a, b, c, d, e] x (5 : Int) = _
    unfold laws_vSum.b4
    rw [if_neg (by simp)]) k 0 (by omega) (by simp; omega)
  refine Eq.trans this ?_
  simp
theorem days_part (k : Nat) {l : List Int} (hb : By l) (hk : 8000 ≤ k) : laws_FnCarpets.l11 (k + 1) l = some true := by
  show laws_FnCarpets.b11 (laws_FnCarpets.l24 k) k l = some true
  unfold laws_FnCarpets.b11
  obtain ⟨⟨day, lo, cs, m⟩, e, h1⟩ := drawShop_ok k hb (by omega)
  dsimp only at h1
  have e1 : spec_DrawDaysToSell.f k l = some (day, lo, cs, m) := by
    unfold spec_DrawDaysToSell.f spec_DrawDaysToSell.m
    rw [e]
    rfl
  rw [e1, Option.bind_some]
  dsimp only
  rw [implDays_ok _ _ _ _ _ (by omega), specDays_ok _ _ _ _ _ (by omega), Option.bind_some, Option.bind_some, if_neg (fun e => e rfl), if_neg (fun e => e rfl)]
  cases hs : shopB day lo cs m with
  | false =>
    unfold shopZ
    rw [if_neg (by simp), cond_false]
    exact tail_ok k hb (by omega)
  | true =>
    obtain ⟨b1, b2, b3, b4, b5⟩ := shopB_of hs
    unfold shopZ
    rw [if_pos rfl]
    unfold soldR
    by_cases hd : daysL day cs < 0
    · rw [if_pos hd, cond_false]
      exact tail_ok k hb (by omega)
    · rw [if_neg hd, cond_true]
      dsimp only
      rcases daysL_of day cs (-1) (by show 0 ≤ daysL day cs; omega) with h2 | ⟨c, hc, h3, h4, h5⟩
      · have : daysL day cs = -1 := h2
        omega
      · have h4' : daysL day cs = dayL day c.2.2.2.2 := h4
        have hcb := carp_bd ((apart_of b5).2 c hc)
        have hdl := dayL_bd hcb.2.2.2.1 b1
        obtain ⟨i, hi⟩ := List.getElem?_of_mem hc
        have hil : i < cs.length := (List.getElem?_eq_some_iff.1 hi).1
        have hge : c.2.2.2.2 + 3 ≤ day + dayL day c.2.2.2.2 := by unfold dayL; split <;> omega
        have fin : ∀ day' : Int, shopB day' lo cs m = true → c.2.2.2.2 + 3 ≤ day' → laws_FnCarpets.l24 k l day' lo cs m = some true := fun day' hs' hge' => by
          obtain ⟨k, rfl⟩ := succ_of (show 0 < k by omega)
          show laws_FnCarpets.b24 (laws_FnCarpets.l33 k) k l day' lo cs m = _
          unfold laws_FnCarpets.b24
          refine sold_loop hb hs' cs.length 0 k _ (by omega) (by omega) ?_
          by_cases hm : m = 1000000
          · exact .inl (decide_eq_true hm)
          · exact .inr ⟨i, by omega, hil, sell_ok hs' hi h3 hge' hm⟩
        rw [h4']
        by_cases h0 : 0 < dayL day c.2.2.2.2
        · obtain ⟨w1, w2⟩ := wait_ok (d := dayL day c.2.2.2.2) hs ⟨by omega, by omega⟩
          rw [if_pos h0, implStepShop_eq k hs (by omega) (by omega), w1, Option.bind_some]
          simp only [outR, Bool.not_true, cond_false]
          exact fin _ w2 hge
        · rw [if_neg h0]
          exact fin day hs (by omega)
theorem pure_holds : Pure := by
  intro l _ hw
  have hb := By.of hw
  refine ⟨20000, ?_⟩
  unfold laws_FnCarpets.f laws_FnCarpets.m laws_vBig.f laws_vBig.m
  rw [Option.bind_some]
  by_cases hv : 65536 < (l.length : Int)
  · rw [decide_eq_true hv]; rfl
  rw [decide_eq_false hv, cond_false]
  obtain ⟨⟨day, lo, cs, m⟩, e, h1⟩ := drawShop_ok 20000 hb (by omega)
  dsimp only at h1
  have e1 : spec_DrawFreeLooms.f 20000 l = some (day, lo, cs, m) := by
    unfold spec_DrawFreeLooms.f spec_DrawFreeLooms.m
    rw [e]
    rfl
  have hd := days_part 19999 hb (by omega)
  rw [e1, Option.bind_some]
  dsimp only
  rw [implFree_ok _ _ _ _ _ (by omega), specFree_ok _ _ _ _ _ (by omega), Option.bind_some, Option.bind_some, if_neg (fun e => e rfl), implStates_ok _ _ _ _ _ (by omega), specStates_ok _ _ _ _ _ (by omega)]
  cases hs : shopB day lo cs m with
  | false =>
    unfold shopZ
    rw [if_neg (by simp), if_neg (by simp)]
    rw [vInts_self _ _ (by simp) (by omega), Option.bind_some, Bool.not_true, cond_false, Option.bind_some, Option.bind_some, if_neg (fun e => e rfl), if_neg (fun e => e rfl)]
    dsimp only
    rw [vInts_self _ _ (by simp) (by omega), Option.bind_some, Bool.not_true, cond_false, cond_false]
    exact hd
  | true =>
    obtain ⟨b1, b2, b3, b4, b5⟩ := shopB_of hs
    obtain ⟨l1, l2⟩ := looms_law hs
    have hfl := freeL_len cs lo.toNat
    have hst : ∀ j, stateN cs j ≤ cs.length := fun j => List.countP_le_length
    have h0 := hst 0; have h1' := hst 1; have h2 := hst 2; have h3 := hst 3; have h4 := hst 4
    unfold shopZ
    rw [if_pos rfl, if_pos rfl]
    rw [vInts_self _ _ (by dsimp only; omega) (by omega), Option.bind_some, Bool.not_true, cond_false, Option.bind_some, Option.bind_some, if_neg (fun e => e rfl), if_neg (fun e => e rfl)]
    dsimp only
    rw [vInts_self _ _ (by simp [statesL]) (by omega), Option.bind_some, Bool.not_true, cond_false, cond_true]
    unfold statesL
    rw [vSum5 _ _ _ _ _ _ ⟨by omega, by omega, by omega, by omega, by omega⟩ (by omega), Option.bind_some, if_neg (by omega), chk_int (by simp), Option.bind_some]
    rw [show ([(stateN cs 0 : Int), stateN cs 1, stateN cs 2, stateN cs 3, stateN cs 4]).getD ((1 : Int)).toNat 0 = (stateN cs 1 : Int) from rfl, w64_id (by omega), if_neg (by omega)]
    exact hd
end Go.Proofs.YtaniancieniccaaDoor.DFnCarpets
