/- Charts are recovered from their texts, and all colors together have all knots. -/
import Derived.Test.YtnggfjbmjlppgaaDoorDFnCharts
set_option linter.unusedVariables false
set_option linter.unusedSimpArgs false
set_option maxRecDepth 100000
namespace Go.Proofs.YtnggfjbmjlppgaaDoor.DFnCharts
open Go Go.Proofs.YtnggfjbmjlppgaaDoorD
theorem succ_of {k : Nat} (h : 0 < k) : ∃ j, k = j + 1 := ⟨k - 1, by omega⟩
theorem w64_id {x : Int} (h : -9223372036854775808 ≤ x ∧ x ≤ 9223372036854775807) : w64 x = x := by
  unfold w64 IntKind.wrap
  simp [IntKind.signed, IntKind.bits]
  omega
theorem chk_nat {n j : Nat} (h : j < n) : chk n (j : Int) = some j := by unfold chk; rw [if_pos (by omega)]; simp
theorem chk_int {n : Nat} {i : Int} (h : 0 ≤ i ∧ i < n) : chk n i = some i.toNat := by unfold chk; rw [if_pos h]
theorem cut_int {n : Nat} {i j : Int} (h : 0 ≤ i ∧ i ≤ j ∧ j ≤ n) : cut n i j = some (i.toNat, j.toNat - i.toNat) := by unfold cut; rw [if_pos h]
theorem cutTo_int {n : Nat} {j : Int} (h : 0 ≤ j ∧ j ≤ n) : cutTo n j = some j.toNat := by unfold cutTo; rw [if_pos h]
theorem cut3_int {n : Nat} {i j m : Int} (h : 0 ≤ i ∧ i ≤ j ∧ j ≤ m ∧ m ≤ n) : cut3 n i j m = some () := by unfold cut3; rw [if_pos h]
theorem mkl_int {L : Nat} {n c : Int} (h : 0 ≤ n ∧ n ≤ c ∧ c ≤ L) : mkl L n c = some n.toNat := by unfold mkl; rw [if_pos h]
theorem selfApp_nat {i lo m : Nat} (h : i ≤ lo) : selfApp i lo m = some (i + m) := by unfold selfApp; rw [if_pos h]
section
variable {β : Type}
theorem app_ok {L : Nat} {xs ys : List β} (h : xs.length + ys.length ≤ L) : app L xs ys = some (xs ++ ys) := by unfold app; rw [if_pos h]
theorem chk_mid (p : List β) (a : β) (q : List β) : chk (p ++ a :: q).length (p.length : Int) = some p.length := chk_nat (by simp)
theorem getD_mid (p : List β) (a : β) (q : List β) (d : β) : (p ++ a :: q).getD p.length d = a := by
  rw [List.getD_eq_getElem?_getD, List.getElem?_append_right (Nat.le_refl _)]; simp
theorem set_mid (p : List β) (a b : β) (q : List β) : (p ++ a :: q).set p.length b = p ++ b :: q := by
  rw [List.set_append_right _ _ (Nat.le_refl _)]; simp
theorem upd_mid (p : List β) (a : β) (q : List β) (d : β) (f : β → β) : upd (p ++ a :: q) p.length d f = p ++ f a :: q := by
  unfold upd; rw [getD_mid, set_mid]
theorem upd_len (xs : List β) (j : Nat) (d : β) (f : β → β) : (upd xs j d f).length = xs.length := by unfold upd; simp
theorem upd_of {xs : List β} {j : Nat} {d : β} {f : β → β} : upd xs j d f = xs.set j (f (xs.getD j d)) := rfl
theorem lt_mid (p : List β) (a : β) (q : List β) : (p.length : Int) < ((p ++ a :: q).length : Nat) := by simp; omega
theorem next_mid {p : List β} {a : β} {q : List β} (h : (p ++ a :: q).length ≤ 1152921504606846976) : w64 ((p.length : Int) + 1) = ((p ++ [a]).length : Nat) := by
  rw [w64_id (by simp at h; omega)]; simp
theorem snoc_app (p : List β) (a : β) (q : List β) : p ++ a :: q = (p ++ [a]) ++ q := by simp
theorem getD_lt {xs : List β} {i : Nat} {d : β} (h : i < xs.length) : xs.getD i d = xs[i] := by
  rw [List.getD_eq_getElem?_getD, List.getElem?_eq_getElem h]; rfl
theorem getD_set {xs : List β} {i j : Nat} {a d : β} (h : i < xs.length) : (xs.set i a).getD j d = if i = j then a else xs.getD j d := by
  rw [List.getD_eq_getElem?_getD, List.getD_eq_getElem?_getD, List.getElem?_set]
  split
  · rename_i e; subst e; simp [h]
  · rfl
theorem some_bind {γ : Type} (x : β) (f : β → Option γ) : (some x).bind f = f x := rfl
end
def inB (n lo hi : Int) : Bool := decide (lo ≤ n) && decide (n ≤ hi)
theorem inB_iff {n lo hi : Int} : inB n lo hi = true ↔ lo ≤ n ∧ n ≤ hi := by unfold inB; simp
theorem inB_of {n lo hi : Int} (h : lo ≤ n ∧ n ≤ hi) : inB n lo hi = true := inB_iff.2 h
theorem notB {b : Bool} (h : ¬ b = true) : b = false := by cases b <;> simp_all
theorem all_loop {β : Type} {L : Nat → Nat → Option β} {n K0 : Nat} {ok : Nat → Bool} {f : Option β} (hs : ∀ k i, K0 ≤ k → i < n → L (k + 1) i = if ok i = true then L k (i + 1) else f) :
    ∀ (d k i : Nat), i + d = n → K0 + d < k → (∀ e, (∀ k, K0 ≤ k → L (k + 1) n = e) → (∀ j, i ≤ j → j < n → ok j = true) → L k i = e) ∧ ((∃ j, i ≤ j ∧ j < n ∧ ok j = false) → L k i = f) := by
  intro d
  induction d with
  | zero =>
    intro k i h1 h2
    obtain ⟨k, rfl⟩ := succ_of (show 0 < k by omega)
    have : i = n := by omega
    subst this
    exact ⟨fun e he _ => he k (by omega), fun ⟨j, a, b, _⟩ => by omega⟩
  | succ d ih =>
    intro k i h1 h2
    obtain ⟨k, rfl⟩ := succ_of (show 0 < k by omega)
    have := ih k (i + 1) (by omega) (by omega)
    rw [hs k i (by omega) (by omega)]
    refine ⟨fun e he h => ?_, fun ⟨j, a, b, c⟩ => ?_⟩
    · rw [if_pos (h i (Nat.le_refl _) (by omega))]; exact this.1 e he fun j a b => h j (by omega) b
    · by_cases e : ok i = true
      · rw [if_pos e]
        refine this.2 ⟨j, ?_, b, c⟩
        rcases Nat.lt_or_ge i j with h | h
        · exact h
        · have : j = i := by omega
          subst this; rw [e] at c; cases c
      · rw [if_neg e]
theorem exists_bad {n : Nat} {ok : Nat → Bool} (h : ¬ ∀ i, i < n → ok i = true) : ∃ j, 0 ≤ j ∧ j < n ∧ ok j = false := by
  apply Classical.byContradiction; intro hn
  refine h fun j hj => ?_
  cases hc : ok j with
  | true => rfl
  | false => exact absurd ⟨j, Nat.zero_le _, hj, hc⟩ hn
theorem first_bad {n : Nat} {ok : Nat → Bool} (h : ¬ ∀ i, i < n → ok i = true) : ∃ j, j < n ∧ ok j = false ∧ ∀ i, i < j → ok i = true := by
  induction n with
  | zero => exact absurd (fun i hi => by omega) h
  | succ n ih =>
    by_cases h1 : ∀ i, i < n → ok i = true
    · refine ⟨n, by omega, ?_, h1⟩
      cases hc : ok n with
      | false => rfl
      | true => exact absurd (fun i hi => by
          rcases Nat.lt_or_ge i n with h' | h'
          · exact h1 i h'
          · have : i = n := by omega
            rw [this]; exact hc) h
    · obtain ⟨j, a, b, c⟩ := ih h1
      exact ⟨j, by omega, b, c⟩
theorem find_loop {L : Nat → Nat → Option Int} {n K0 : Nat} {ok : Nat → Bool} (hs : ∀ k i, K0 ≤ k → i < n → L (k + 1) i = if ok i = true then some (i : Int) else L k (i + 1)) (he : ∀ k, K0 ≤ k → L (k + 1) n = some (-1)) :
    ∀ (d k i : Nat), i + d = n → K0 + d < k → ((∀ j, i ≤ j → j < n → ok j = false) → L k i = some (-1)) ∧ (∀ m, i ≤ m → m < n → ok m = true → (∀ j, i ≤ j → j < m → ok j = false) → L k i = some (m : Int)) := by
  intro d
  induction d with
  | zero =>
    intro k i h1 h2
    obtain ⟨k, rfl⟩ := succ_of (show 0 < k by omega)
    have : i = n := by omega
    subst this
    exact ⟨fun _ => he k (by omega), fun m a b _ _ => by omega⟩
  | succ d ih =>
    intro k i h1 h2
    obtain ⟨k, rfl⟩ := succ_of (show 0 < k by omega)
    have := ih k (i + 1) (by omega) (by omega)
    rw [hs k i (by omega) (by omega)]
    refine ⟨fun h => ?_, fun m a b c h => ?_⟩
    · rw [if_neg (by rw [h i (Nat.le_refl _) (by omega)]; simp)]; exact this.1 fun j a b => h j (by omega) b
    · by_cases e : ok i = true
      · rw [if_pos e]
        rcases Nat.lt_or_ge i m with h' | h'
        · have := h i (Nat.le_refl _) h'; rw [e] at this; cases this
        · have : m = i := by omega
          rw [this]
      · rw [if_neg e]
        refine this.2 m ?_ b c fun j a b => h j (by omega) b
        rcases Nat.lt_or_ge i m with h' | h'
        · exact h'
        · have : m = i := by omega
          subst this; exact absurd c e
theorem stepb {α γ : Type} {a : Option α} {x : α} {f : α → Option γ} {r : Option γ} (h : a = some x) (g : f x = r) : a.bind f = r := by rw [h]; exact g
theorem ifn {γ : Type} {c : Prop} {i : Decidable c} {t e r : γ} (h : ¬ c) (g : e = r) : @ite γ c i t e = r := by rw [if_neg h]; exact g
theorem condt {γ : Type} {a b r : γ} (g : b = r) : cond (!true) a b = r := g
/-! ### Texts as lists of bytes -/
def bs (l : List UInt8) : ByteArray := ⟨l.toArray⟩
theorem bs_list (s : ByteArray) : bs s.data.toList = s := by
  cases s
  simp [bs]
theorem bs_ex (s : ByteArray) : ∃ l, s = bs l := ⟨_, (bs_list s).symm⟩
theorem bs_data (l : List UInt8) : (bs l).data.toList = l := by simp [bs]
theorem bs_size (l : List UInt8) : (bs l).size = l.length := by simp [bs, ByteArray.size]
theorem bs_inj {a b : List UInt8} : bs a = bs b ↔ a = b := ⟨fun h => by have := congrArg (fun s : ByteArray => s.data.toList) h; simpa [bs_data] using this, fun h => by rw [h]⟩
theorem bs_append (a b : List UInt8) : bs a ++ bs b = bs (a ++ b) := by
  apply ByteArray.ext
  rw [ByteArray.data_append]
  simp [bs]
theorem bs_extract (l : List UInt8) (i j : Nat) : (bs l).extract i j = bs ((l.drop i).take (j - i)) := by
  apply ByteArray.ext
  rw [ByteArray.data_extract]
  apply Array.toList_inj.1
  rw [Array.toList_extract]
  simp [bs, List.take_drop, List.extract_eq_drop_take']
theorem bs_nil : (⟨#[]⟩ : ByteArray) = bs [] := rfl
theorem bs_empty : ByteArray.empty = bs [] := rfl
theorem catS_bs {a b : List UInt8} (h : a.length + b.length ≤ 140737488355328) : catS (bs a) (bs b) = some (bs (a ++ b)) := by
  unfold catS
  rw [bs_size, bs_size, if_pos h, bs_append]
theorem byteAt_bs {l : List UInt8} {j : Nat} (h : j < l.length) : byteAt (bs l) j = ((l.getD j 0).toNat : Int) := by
  unfold byteAt
  rw [dif_pos (by rw [bs_size]; exact h), getD_lt h]
  rfl
theorem bytesOf_bs (l : List UInt8) : bytesOf (bs l) = l.map fun b => (b.toNat : Int) := by
  unfold bytesOf
  rw [bs_data]
theorem byteAt_lt {l : List UInt8} {j : Nat} (h : j < l.length) : 0 ≤ byteAt (bs l) j ∧ byteAt (bs l) j < 256 := by
  rw [byteAt_bs h]
  have := (l.getD j 0).toNat_lt
  omega
theorem byte_eq {a b : UInt8} : (a.toNat : Int) = (b.toNat : Int) ↔ a = b := by
  constructor
  · intro h; exact UInt8.toNat_inj.1 (by omega)
  · intro h; rw [h]
/-! ### Loops along a text -/
section
variable {β : Type} {l : List β} {d : β} {K0 : Nat}
theorem drop_getD {i : Nat} (h : i < l.length) : l.drop i = l.getD i d :: l.drop (i + 1) := by
  rw [getD_lt h]
  exact List.drop_eq_getElem_cons h
theorem scan_all {L : Nat → Nat → Option Bool} {ok : β → Bool} {e : Bool} (hs : ∀ k i, K0 ≤ k → i < l.length → L (k + 1) i = if ok (l.getD i d) = true then L k (i + 1) else some false) (he : ∀ k, K0 ≤ k → L (k + 1) l.length = some e) :
    ∀ k, K0 + l.length < k → L k 0 = some (l.all ok && e) := by
  have key : ∀ n i k, i + n = l.length → K0 + n < k → L k i = some ((l.drop i).all ok && e) := by
    intro n
    induction n with
    | zero =>
      intro i k h1 h2
      obtain ⟨k, rfl⟩ := succ_of (show 0 < k by omega)
      have : i = l.length := by omega
      subst this
      rw [he k (by omega), List.drop_length]
      rfl
    | succ n ih =>
      intro i k h1 h2
      obtain ⟨k, rfl⟩ := succ_of (show 0 < k by omega)
      rw [hs k i (by omega) (by omega), drop_getD (d := d) (show i < l.length by omega), List.all_cons]
      by_cases h : ok (l.getD i d) = true
      · rw [if_pos h, ih (i + 1) k (by omega) (by omega), h, Bool.true_and]
      · rw [if_neg h, notB h, Bool.false_and, Bool.false_and]
  intro k hk
  have := key l.length 0 k (by omega) (by omega)
  simpa using this
theorem scan_any {L : Nat → Nat → Option Bool} {p : β → Bool} (hs : ∀ k i, K0 ≤ k → i < l.length → L (k + 1) i = if p (l.getD i d) = true then some true else L k (i + 1)) (he : ∀ k, K0 ≤ k → L (k + 1) l.length = some false) :
    ∀ k, K0 + l.length < k → L k 0 = some (l.any p) := by
  have key : ∀ n i k, i + n = l.length → K0 + n < k → L k i = some ((l.drop i).any p) := by
    intro n
    induction n with
    | zero =>
      intro i k h1 h2
      obtain ⟨k, rfl⟩ := succ_of (show 0 < k by omega)
      have : i = l.length := by omega
      subst this
      rw [he k (by omega), List.drop_length]
      rfl
    | succ n ih =>
      intro i k h1 h2
      obtain ⟨k, rfl⟩ := succ_of (show 0 < k by omega)
      rw [hs k i (by omega) (by omega), drop_getD (d := d) (show i < l.length by omega), List.any_cons]
      by_cases h : p (l.getD i d) = true
      · rw [if_pos h, h, Bool.true_or]
      · rw [if_neg h, ih (i + 1) k (by omega) (by omega), notB h, Bool.false_or]
  intro k hk
  have := key l.length 0 k (by omega) (by omega)
  simpa using this
theorem scan_find {L : Nat → Nat → Option Int} {p : β → Bool} (hs : ∀ k i, K0 ≤ k → i < l.length → L (k + 1) i = if p (l.getD i d) = true then some (i : Int) else L k (i + 1)) (he : ∀ k, K0 ≤ k → L (k + 1) l.length = some (-1)) :
    ∀ k, K0 + l.length < k → ∃ r, L k 0 = some r ∧ decide (0 ≤ r) = l.any p := by
  have key : ∀ n i k, i + n = l.length → K0 + n < k → ∃ r, L k i = some r ∧ decide (0 ≤ r) = (l.drop i).any p := by
    intro n
    induction n with
    | zero =>
      intro i k h1 h2
      obtain ⟨k, rfl⟩ := succ_of (show 0 < k by omega)
      have : i = l.length := by omega
      subst this
      rw [he k (by omega), List.drop_length]
      exact ⟨-1, rfl, rfl⟩
    | succ n ih =>
      intro i k h1 h2
      obtain ⟨k, rfl⟩ := succ_of (show 0 < k by omega)
      rw [hs k i (by omega) (by omega), drop_getD (d := d) (show i < l.length by omega), List.any_cons]
      by_cases h : p (l.getD i d) = true
      · rw [if_pos h, h, Bool.true_or]
        exact ⟨i, rfl, by simp⟩
      · rw [if_neg h, notB h, Bool.false_or]
        exact ih (i + 1) k (by omega) (by omega)
  intro k hk
  have := key l.length 0 k (by omega) (by omega)
  simpa using this
theorem scan_fold {γ δ : Type} {P : γ → Prop} {L : Nat → Nat → γ → Option δ} {f : γ → β → γ} {g : γ → δ} (hs : ∀ k i a, K0 ≤ k → i < l.length → P a → L (k + 1) i a = L k (i + 1) (f a (l.getD i d))) (hp : ∀ a b, P a → P (f a b)) (he : ∀ k a, K0 ≤ k → P a → L (k + 1) l.length a = some (g a)) :
    ∀ k a, P a → K0 + l.length < k → L k 0 a = some (g (l.foldl f a)) := by
  have key : ∀ n i k a, P a → i + n = l.length → K0 + n < k → L k i a = some (g ((l.drop i).foldl f a)) := by
    intro n
    induction n with
    | zero =>
      intro i k a ha h1 h2
      obtain ⟨k, rfl⟩ := succ_of (show 0 < k by omega)
      have : i = l.length := by omega
      subst this
      rw [he k a (by omega) ha, List.drop_length]
      rfl
    | succ n ih =>
      intro i k a ha h1 h2
      obtain ⟨k, rfl⟩ := succ_of (show 0 < k by omega)
      rw [hs k i a (by omega) (by omega) ha, drop_getD (d := d) (show i < l.length by omega), List.foldl_cons]
      exact ih (i + 1) k _ (hp _ _ ha) (by omega) (by omega)
  intro k a ha hk
  have := key l.length 0 k a ha (by omega) (by omega)
  simpa using this
end
theorem byte_is {b : UInt8} {n : Nat} (h : n < 256) : ((b.toNat : Int) = (n : Int)) ↔ (b == UInt8.ofNat n) = true := by
  rw [beq_iff_eq]
  constructor
  · intro e
    apply UInt8.toNat_inj.1
    rw [UInt8.toNat_ofNat']
    omega
  · intro e
    rw [e, UInt8.toNat_ofNat']
    omega
/-! ### A text cut at a byte -/
def bef (c : UInt8) (l : List UInt8) : List UInt8 := l.takeWhile fun b => !(b == c)
def aft (c : UInt8) (l : List UInt8) : List UInt8 := (l.dropWhile fun b => !(b == c)).drop 1
def hasB (c : UInt8) (l : List UInt8) : Bool := l.any (· == c)
theorem bef_cons (c b : UInt8) (l : List UInt8) : bef c (b :: l) = if b == c then [] else b :: bef c l := by
  unfold bef
  rw [List.takeWhile_cons]
  cases b == c <;> simp
theorem aft_cons (c b : UInt8) (l : List UInt8) : aft c (b :: l) = if b == c then l else aft c l := by
  unfold aft
  rw [List.dropWhile_cons]
  cases b == c <;> simp
theorem has_cons (c b : UInt8) (l : List UInt8) : hasB c (b :: l) = (b == c || hasB c l) := List.any_cons
theorem bef_aft {c : UInt8} {l : List UInt8} (h : hasB c l = true) : l = bef c l ++ c :: aft c l := by
  induction l with
  | nil => cases h
  | cons b l ih =>
    rw [bef_cons, aft_cons]
    rw [has_cons] at h
    cases e : b == c
    · rw [e, Bool.false_or] at h
      simp
      exact ih h
    · rw [beq_iff_eq] at e
      simp [e]
theorem bef_none {c : UInt8} {l : List UInt8} (h : hasB c l = false) : bef c l = l ∧ aft c l = [] := by
  induction l with
  | nil => exact ⟨rfl, rfl⟩
  | cons b l ih =>
    rw [has_cons, Bool.or_eq_false_iff] at h
    rw [bef_cons, aft_cons, h.1]
    obtain ⟨h1, h2⟩ := ih h.2
    simp [h1, h2]
theorem bef_app {c : UInt8} {p : List UInt8} (h : ∀ b ∈ p, b ≠ c) (q : List UInt8) : bef c (p ++ c :: q) = p ∧ aft c (p ++ c :: q) = q ∧ hasB c (p ++ c :: q) = true := by
  induction p with
  | nil =>
    rw [List.nil_append, bef_cons, aft_cons, has_cons]
    simp
  | cons b p ih =>
    obtain ⟨h1, h2, h3⟩ := ih fun x hx => h x (List.mem_cons_of_mem _ hx)
    have hb : (b == c) = false := by
      have := h b List.mem_cons_self
      simpa using this
    rw [List.cons_append, bef_cons, aft_cons, has_cons, hb, h1, h2, h3]
    simp
theorem bef_not {c : UInt8} (l : List UInt8) : ∀ b ∈ bef c l, b ≠ c := by
  induction l with
  | nil => intro b hb; cases hb
  | cons a l ih =>
    rw [bef_cons]
    cases e : a == c
    · intro b hb
      rw [if_neg (by simp)] at hb
      rcases List.mem_cons.1 hb with rfl | hb
      · simpa using e
      · exact ih b hb
    · intro b hb
      rw [if_pos rfl] at hb
      cases hb
theorem bef_len (c : UInt8) (l : List UInt8) : (bef c l).length ≤ l.length := by
  unfold bef
  exact (List.takeWhile_sublist _).length_le
theorem aft_len (c : UInt8) (l : List UInt8) : (aft c l).length ≤ l.length := by
  cases h : hasB c l
  · rw [(bef_none h).2]; simp
  · have := congrArg List.length (bef_aft h)
    rw [List.length_append, List.length_cons] at this
    omega
theorem index_bef (c : UInt8) (l : List UInt8) : Lib.index l [c] = if hasB c l = true then ((bef c l).length : Int) else -1 := by
  induction l with
  | nil => rfl
  | cons b l ih =>
    show (if [c].isPrefixOf (b :: l) then 0 else if Lib.index l [c] == -1 then -1 else Lib.index l [c] + 1) = _
    rw [ih, has_cons, bef_cons]
    have e : [c].isPrefixOf (b :: l) = (b == c) := by
      simp only [List.isPrefixOf, Bool.and_true]
      rw [Bool.eq_iff_iff, beq_iff_eq, beq_iff_eq]
      exact eq_comm
    rw [e]
    cases h : b == c
    · simp
      cases h2 : hasB c l
      · simp
      · simp
    · simp
/-! ### All the pieces of a text between bytes -/
def glue (p : List UInt8) : List (List UInt8) → List (List UInt8)
  | [] => [p]
  | r :: rs => (p ++ r) :: rs
def splitL (c : UInt8) : List UInt8 → List (List UInt8)
  | [] => [[]]
  | b :: l => if b == c then [] :: splitL c l else glue [b] (splitL c l)
theorem glue_nil {rs : List (List UInt8)} (h : rs ≠ []) : glue [] rs = rs := by
  cases rs with
  | nil => exact absurd rfl h
  | cons r rs => simp [glue]
theorem glue_glue (p q : List UInt8) (rs : List (List UInt8)) : glue p (glue q rs) = glue (p ++ q) rs := by
  cases rs with
  | nil => rfl
  | cons r rs => simp [glue]
theorem glue_ne (p : List UInt8) (rs : List (List UInt8)) : glue p rs ≠ [] := by cases rs <;> simp [glue]
theorem splitL_cons (c b : UInt8) (l : List UInt8) : splitL c (b :: l) = if b == c then [] :: splitL c l else glue [b] (splitL c l) := rfl
theorem splitL_ne (c : UInt8) (l : List UInt8) : splitL c l ≠ [] := by
  cases l with
  | nil => simp [splitL]
  | cons b l =>
    unfold splitL
    split
    · simp
    · exact glue_ne _ _
theorem splitL_bef (c : UInt8) (l : List UInt8) : splitL c l = if hasB c l = true then bef c l :: splitL c (aft c l) else [l] := by
  induction l with
  | nil => rfl
  | cons b l ih =>
    rw [has_cons, bef_cons, aft_cons, splitL_cons]
    cases h : b == c
    · rw [ih]
      cases h2 : hasB c l <;> simp [glue]
    · simp
theorem splitL_len (c : UInt8) (l : List UInt8) : (splitL c l).length ≤ l.length + 1 := by
  induction l with
  | nil => simp [splitL]
  | cons b l ih =>
    unfold splitL
    split
    · simpa using ih
    · cases h : splitL c l with
      | nil => simp [glue]
      | cons r rs => rw [h] at ih; simp [glue] at *; omega
theorem splitL_flat (c : UInt8) (l : List UInt8) : (splitL c l).flatten = l.filter fun b => !(b == c) := by
  induction l with
  | nil => rfl
  | cons b l ih =>
    unfold splitL
    rw [List.filter_cons]
    cases h : b == c
    · simp
      rw [← ih]
      cases h : splitL c l <;> simp [glue]
    · simpa using ih
theorem splitL_free (c : UInt8) (l : List UInt8) (h : ∀ b ∈ l, b ≠ c) : splitL c l = [l] := by
  have hh : hasB c l = false := by
    unfold hasB
    rw [List.any_eq_false]
    intro b hb
    simpa using h b hb
  rw [splitL_bef, hh]
  simp
theorem splitL_app (c : UInt8) (p q : List UInt8) (h : ∀ b ∈ p, b ≠ c) : splitL c (p ++ c :: q) = p :: splitL c q := by
  obtain ⟨h1, h2, h3⟩ := bef_app h q
  rw [splitL_bef, h1, h2, h3]
  simp
theorem join_two (x y : List UInt8) (r : List (List UInt8)) (sep : List UInt8) : Lib.join (x :: y :: r) sep = x ++ (sep ++ Lib.join (y :: r) sep) := by
  rw [Lib.join_cons, Lib.join_cons]
  simp [Lib.joinTail]
theorem split_join (c : UInt8) : ∀ rs : List (List UInt8), rs ≠ [] → (∀ r ∈ rs, ∀ b ∈ r, b ≠ c) → splitL c (Lib.join rs [c]) = rs
  | [], h, _ => absurd rfl h
  | [r], _, h => by rw [Lib.join_one]; exact splitL_free c r (h r (by simp))
  | r :: s :: rs, _, h => by
    rw [join_two, List.singleton_append, splitL_app c r _ (h r (by simp)), split_join c (s :: rs) (by simp) fun x hx => h x (List.mem_cons_of_mem _ hx)]
theorem join_split (c : UInt8) (l : List UInt8) : Lib.join (splitL c l) [c] = l := by
  induction l with
  | nil => rfl
  | cons b l ih =>
    unfold splitL
    cases h : b == c
    · rw [if_neg (by simp)]
      cases h2 : splitL c l with
      | nil => exact absurd h2 (splitL_ne c l)
      | cons r rs =>
        rw [h2] at ih
        show Lib.join (([b] ++ r) :: rs) [c] = _
        rw [Lib.join_cons] at *
        rw [List.append_assoc, ih]
        rfl
    · rw [if_pos rfl]
      rw [beq_iff_eq] at h
      cases h2 : splitL c l with
      | nil => exact absurd h2 (splitL_ne c l)
      | cons r rs =>
        rw [h2] at ih
        rw [join_two, ih, h]
        rfl
/-- The reference's pieces. -/
theorem splitS_ok (l : List UInt8) (n : Nat) (hn : n < 256) (hl : l.length ≤ 1152921504606) (k : Nat) (hk : l.length < k) : spec_l1Split.f k (bs l) (n : Int) = some ((splitL (UInt8.ofNat n) l).map bs) := by
  have key : ∀ d i k (acc : List ByteArray) (fr : Nat), i + d = l.length → d < k → fr ≤ i → acc.length ≤ i → spec_l1Split.l5 k (bs l) (n : Int) acc (fr : Int) (i : Int) = some (acc ++ (glue ((l.drop fr).take (i - fr)) (splitL (UInt8.ofNat n) (l.drop i))).map bs) := by
    intro d
    induction d with
    | zero =>
      intro i k acc fr h1 h2 h3 h4
      obtain ⟨k, rfl⟩ := succ_of (show 0 < k by omega)
      have : i = l.length := by omega
      subst this
      show spec_l1Split.b5 (spec_l1Split.l5 k) k (bs l) (n : Int) acc (fr : Int) (l.length : Int) = _
      unfold spec_l1Split.b5
      rw [bs_size, if_neg (by omega), cut_int (by omega), Option.bind_some, app_ok (by simp; omega), Option.bind_some, bs_extract]
      simp [splitL, glue]
    | succ d ih =>
      intro i k acc fr h1 h2 h3 h4
      obtain ⟨k, rfl⟩ := succ_of (show 0 < k by omega)
      have hi : i < l.length := by omega
      have hd := drop_getD (d := (0 : UInt8)) hi
      have e0 : spec_l1Split.l5 (k + 1) (bs l) (n : Int) acc (fr : Int) (i : Int) = spec_l1Split.b5 (spec_l1Split.l5 k) k (bs l) (n : Int) acc (fr : Int) (i : Int) := rfl
      rw [e0]
      unfold spec_l1Split.b5
      rw [bs_size, if_pos (by omega)]
      simp only [chk_nat hi, Option.bind_some, byteAt_bs hi]
      rw [w64_id (by omega), show ((i : Int) + 1) = ((i + 1 : Nat) : Int) by omega, hd]
      unfold splitL
      by_cases h : ((l.getD i 0).toNat : Int) = n
      · rw [if_pos h, (byte_is hn).1 h, if_pos rfl, cut_int (by omega), Option.bind_some, app_ok (by simp; omega), Option.bind_some, bs_extract]
        rw [ih (i + 1) k _ (i + 1) (by omega) (by omega) (Nat.le_refl _) (by simp; omega)]
        rw [show ((fr : Int)).toNat + ((i : Int).toNat - (fr : Int).toNat) - (fr : Int).toNat = i - fr by omega, show ((fr : Int)).toNat = fr by omega, Nat.sub_self, List.take_zero, glue_nil (splitL_ne _ _)]
        simp [glue]
      · have hb : (l.getD i 0 == UInt8.ofNat n) = false := notB fun e => h ((byte_is hn).2 e)
        rw [if_neg h, hb, if_neg (by simp), ih (i + 1) k acc fr (by omega) (by omega) (by omega) (by omega), glue_glue]
        congr 4
        rw [show i + 1 - fr = (i - fr) + 1 by omega, List.take_add_one]
        congr 1
        rw [List.getElem?_drop, show fr + (i - fr) = i by omega, List.getElem?_eq_getElem hi, getD_lt hi]
        rfl
  unfold spec_l1Split.f spec_l1Split.m
  rw [show (0 : Int) = ((0 : Nat) : Int) from rfl, key l.length 0 k [] 0 (by omega) (by omega) (Nat.le_refl _) (by simp), List.drop_zero, Nat.sub_self, List.take_zero, glue_nil (splitL_ne _ _)]
  rfl
/-- The library's pieces. -/
theorem splitB_L (c : UInt8) : ∀ (n : Nat) (l : List UInt8), l.length ≤ n → Lib.splitB (bs [c]) 0 (Lib.countB (bs l) (bs [c])) (bs l) = (splitL c l).map bs
  | n, l, hn => by
    have hix : Lib.indexB (bs l) (bs [c]) = if hasB c l = true then ((bef c l).length : Int) else -1 := by
      unfold Lib.indexB
      rw [bs_data, bs_data, index_bef]
    rw [splitL_bef]
    cases h : hasB c l
    · rw [h, if_neg (by simp)] at hix
      rw [Lib.splitB_miss _ _ _ _ hix, if_neg (by simp)]
      rfl
    · rw [h, if_pos rfl] at hix
      have hba := bef_aft h
      have hlen := congrArg List.length hba
      rw [List.length_append, List.length_cons] at hlen
      have e1 : l.take (bef c l).length = bef c l := by
        conv => lhs; rw [hba]
        conv => lhs; arg 1; rw [← hba]
        simp
      have e2 : l.drop ((bef c l).length + 1) = aft c l := by
        conv => lhs; rw [hba]
        conv => lhs; arg 1; rw [← hba]
        rw [← List.drop_drop]
        simp
      have e3 : (bs l).extract ((bef c l).length + (bs [c]).size) (bs l).size = bs (aft c l) := by
        rw [bs_extract, bs_size, bs_size]
        simp only [List.length_cons, List.length_nil]
        rw [List.take_of_length_le (by simp), ← e2]
      have h1 : 1 ≤ (bs [c]).size := by rw [bs_size]; simp
      rw [Lib.countB_hit _ _ _ h1 hix, Nat.add_comm 1, Lib.splitB_hit _ _ _ _ _ hix, e3, if_pos rfl]
      cases n with
      | zero => omega
      | succ n =>
        rw [splitB_L c n (aft c l) (by omega), bs_extract]
        simp only [Nat.add_zero, Nat.sub_zero, List.drop_zero, List.map_cons]
        rw [e1]
theorem splitF_L (c : UInt8) (l : List UInt8) (h : l.length < 4294967281) : splitF (bs l) (bs [c]) = some ((splitL c l).map bs) := by
  unfold splitF
  rw [if_pos ⟨by rw [bs_size]; exact h, by rw [bs_size]; simp⟩, splitB_L c l.length l (Nat.le_refl _)]
theorem joinF_L (rs : List (List UInt8)) (sep : List UInt8) (h1 : rs.length ≤ 140737488355328) (h2 : (Lib.join rs sep).length ≤ 140737488355328) : joinF (rs.map bs) (bs sep) = some (bs (Lib.join rs sep)) := by
  have e : (rs.map bs).map (fun b : ByteArray => b.data.toList) = rs := by
    rw [List.map_map]
    exact (List.map_congr_left (fun l _ => bs_data l)).trans (List.map_id _)
  unfold joinF
  rw [e, bs_data, List.length_map, if_pos ⟨h1, h2⟩]
  rfl
def colorB (x : Int) : Bool := inB x 0 5
def goodB (w h : Int) (l : List Int) : Bool := inB w 1 8 && inB h 1 8 && decide ((l.length : Int) = w * h) && l.all colorB
theorem mul_bd {w h : Int} (hw : 1 ≤ w ∧ w ≤ 8) (hh : 1 ≤ h ∧ h ≤ 8) : 1 ≤ w * h ∧ w * h ≤ 64 := by
  obtain ⟨a, b⟩ := hw; obtain ⟨c, d⟩ := hh
  have h1 : w = 1 ∨ w = 2 ∨ w = 3 ∨ w = 4 ∨ w = 5 ∨ w = 6 ∨ w = 7 ∨ w = 8 := by omega
  rcases h1 with rfl | rfl | rfl | rfl | rfl | rfl | rfl | rfl <;> omega
theorem good_of {w h : Int} {l : List Int} (hg : goodB w h l = true) : (1 ≤ w ∧ w ≤ 8) ∧ (1 ≤ h ∧ h ≤ 8) ∧ (l.length : Int) = w * h ∧ ∀ x ∈ l, 0 ≤ x ∧ x ≤ 5 := by
  unfold goodB at hg
  simp only [Bool.and_eq_true, decide_eq_true_eq, List.all_eq_true, inB_iff] at hg
  exact ⟨hg.1.1.1, hg.1.1.2, hg.1.2, fun x hx => inB_iff.1 (hg.2 x hx)⟩
theorem allI_iff (p : Int → Bool) (xs : List Int) : xs.all p = true ↔ ∀ i, i < xs.length → p (xs.getD i 0) = true := by
  rw [List.all_eq_true]
  constructor
  · intro h i hi; rw [getD_lt hi]; exact h _ (List.getElem_mem hi)
  · intro h x hx
    obtain ⟨i, hi, rfl⟩ := List.mem_iff_getElem.1 hx
    rw [← getD_lt (d := 0) hi]; exact h i hi
theorem specIn_eq (k : Nat) (n lo hi : Int) : spec_l1In.f k n lo hi = some (inB n lo hi) := by
  unfold spec_l1In.f spec_l1In.m inB; by_cases h : lo ≤ n <;> simp [h]
theorem implIn_eq (k : Nat) (n lo hi : Int) : impl_in.f k n lo hi = some (inB n lo hi) := by
  unfold impl_in.f impl_in.m inB; by_cases h : lo ≤ n <;> simp [h]
theorem l2Color_eq (k : Nat) (n : Int) : spec_l2Color.f k n = some (colorB n) := by unfold spec_l2Color.f spec_l2Color.m; rw [specIn_eq]; rfl
theorem l2Side_eq (k : Nat) (n : Int) : spec_l2Side.f k n = some (inB n 1 8) := by unfold spec_l2Side.f spec_l2Side.m; rw [specIn_eq]; rfl
theorem isColor_eq (k : Nat) (n : Int) : impl_isColor.f k n = some (colorB n) := by unfold impl_isColor.f impl_isColor.m; rw [implIn_eq]; rfl
theorem isSide_eq (k : Nat) (n : Int) : impl_isSide.f k n = some (inB n 1 8) := by unfold impl_isSide.f impl_isSide.m; rw [implIn_eq]; rfl
theorem l2Good_eq (k : Nat) (w h : Int) (l : List Int) (hl : l.length ≤ 100000000000000) (hk : l.length + 50 ≤ k) : spec_l2Good.f k w h l = some (goodB w h l) := by
  unfold spec_l2Good.f spec_l2Good.m
  have hq := (all_loop (L := fun k i => spec_l2Good.l3 k w h l (i : Int)) (n := l.length) (K0 := 20) (ok := fun i => colorB (l.getD i 0)) (f := some false) (fun k i hk hi => ?_)) l.length k 0 (by omega) (by omega)
  · rw [show ((0 : Nat) : Int) = 0 from rfl] at hq
    by_cases hc : l.all colorB = true
    · rw [hq.1 _ (fun k hk => ?_) (fun j _ hj => (allI_iff _ _).1 hc j hj)]
      simp (disch := omega) only [spec_l2Good.l3, spec_l2Good.b3, if_neg, l2Side_eq, Option.bind_some]
      unfold goodB
      cases e1 : inB w 1 8 <;> simp only [Bool.not_true, Bool.not_false, cond_true, cond_false, Bool.true_and, Bool.false_and, Bool.and_true, Bool.and_false, Bool.false_eq_true, Bool.true_or, Bool.or_true, Bool.false_or, Bool.or_false, Bool.or_self, Bool.and_self, decide_true, decide_false, if_true, if_false, not_true, not_false_eq_true, not_true_eq_false, false_or, or_false, true_and, and_true, Bool.not_eq_true, Bool.true_eq_false, reduceCtorEq]
      cases e2 : inB h 1 8 <;> simp only [Bool.not_true, Bool.not_false, cond_true, cond_false, Bool.true_and, Bool.false_and, Bool.and_true, Bool.and_false, Bool.false_eq_true, Bool.true_or, Bool.or_true, Bool.false_or, Bool.or_false, Bool.or_self, Bool.and_self, decide_true, decide_false, if_true, if_false, not_true, not_false_eq_true, not_true_eq_false, false_or, or_false, true_and, and_true, Bool.not_eq_true, Bool.true_eq_false, reduceCtorEq, hc, Option.bind_some]
      have := mul_bd (inB_iff.1 e1) (inB_iff.1 e2)
      rw [w64_id (by omega)]
    · rw [hq.2 (exists_bad fun hn => hc ((allI_iff _ _).2 hn))]
      unfold goodB; rw [notB hc]; simp
  · simp (disch := omega) only [spec_l2Good.l3, spec_l2Good.b3, if_pos, chk_nat, Option.bind_some, w64_id, l2Color_eq, Int.natCast_add, Int.cast_ofNat_Int]
    cases colorB (l.getD i 0) <;> simp only [Bool.not_true, Bool.not_false, cond_true, cond_false, Bool.true_and, Bool.false_and, Bool.and_true, Bool.and_false, Bool.false_eq_true, Bool.true_or, Bool.or_true, Bool.false_or, Bool.or_false, Bool.or_self, Bool.and_self, decide_true, decide_false, if_true, if_false, not_true, not_false_eq_true, not_true_eq_false, false_or, or_false, true_and, and_true, Bool.not_eq_true, Bool.true_eq_false, reduceCtorEq]
theorem areColors_eq (k : Nat) (l : List Int) (hl : l.length ≤ 100000000000000) (hk : l.length + 50 ≤ k) : impl_areAll_int__impl_isColor.f k l = some (l.all colorB) := by
  unfold impl_areAll_int__impl_isColor.f impl_areAll_int__impl_isColor.m slices_ContainsFunc_int_int__impl_areAll_int_1__impl_isColor.f slices_ContainsFunc_int_int__impl_areAll_int_1__impl_isColor.m slices_IndexFunc_int_int__impl_areAll_int_1__impl_isColor.f slices_IndexFunc_int_int__impl_areAll_int_1__impl_isColor.m
  have h := (find_loop (L := fun k i => slices_IndexFunc_int_int__impl_areAll_int_1__impl_isColor.l3 k l l.length (i : Int)) (n := l.length) (K0 := 20) (ok := fun i => !colorB (l.getD i 0)) (fun k i hk hi => ?_) (fun k hk => ?_)) l.length k 0 (by omega) (by omega)
  · rw [show ((0 : Nat) : Int) = 0 from rfl] at h
    by_cases ha : l.all colorB = true
    · rw [h.1 (fun j _ hj => by rw [(allI_iff _ _).1 ha j hj]; rfl), ha]; rfl
    · obtain ⟨m, h1, h2, h3⟩ := first_bad (n := l.length) (ok := fun i => colorB (l.getD i 0)) (fun hn => ha ((allI_iff _ _).2 hn))
      rw [h.2 m (Nat.zero_le _) h1 (by rw [h2]; rfl) (fun j _ hj => by rw [h3 j hj]; rfl), notB ha]
      simp
  · simp (disch := omega) only [slices_IndexFunc_int_int__impl_areAll_int_1__impl_isColor.l3, slices_IndexFunc_int_int__impl_areAll_int_1__impl_isColor.b3, impl_areAll_int_1__impl_isColor.f, impl_areAll_int_1__impl_isColor.m, isColor_eq, if_pos, chk_nat, Option.bind_some, w64_id, Int.natCast_add, Int.cast_ofNat_Int]
    cases colorB (l.getD i 0) <;> simp only [Bool.not_true, Bool.not_false, cond_true, cond_false, Bool.true_and, Bool.false_and, Bool.and_true, Bool.and_false, Bool.false_eq_true, Bool.true_or, Bool.or_true, Bool.false_or, Bool.or_false, Bool.or_self, Bool.and_self, decide_true, decide_false, if_true, if_false, not_true, not_false_eq_true, not_true_eq_false, false_or, or_false, true_and, and_true, Bool.not_eq_true, Bool.true_eq_false, reduceCtorEq]
  · simp (disch := omega) only [slices_IndexFunc_int_int__impl_areAll_int_1__impl_isColor.l3, slices_IndexFunc_int_int__impl_areAll_int_1__impl_isColor.b3, if_neg]
theorem isChart_eq (k : Nat) (w h : Int) (l : List Int) (hl : l.length ≤ 100000000000000) (hk : l.length + 50 ≤ k) : impl_IsChart.f k w h l = some (goodB w h l) := by
  unfold impl_IsChart.f impl_IsChart.m goodB
  rw [isSide_eq, isSide_eq, areColors_eq k l hl hk]
  simp only [Option.bind_some]
  cases e1 : inB w 1 8 <;> simp only [Bool.not_true, Bool.not_false, cond_true, cond_false, Bool.true_and, Bool.false_and, Bool.and_true, Bool.and_false, Bool.false_eq_true, Bool.true_or, Bool.or_true, Bool.false_or, Bool.or_false, Bool.or_self, Bool.and_self, decide_true, decide_false, if_true, if_false, not_true, not_false_eq_true, not_true_eq_false, false_or, or_false, true_and, and_true, Bool.not_eq_true, Bool.true_eq_false, reduceCtorEq]
  cases e2 : inB h 1 8 <;> simp only [Bool.not_true, Bool.not_false, cond_true, cond_false, Bool.true_and, Bool.false_and, Bool.and_true, Bool.and_false, Bool.false_eq_true, Bool.true_or, Bool.or_true, Bool.false_or, Bool.or_false, Bool.or_self, Bool.and_self, decide_true, decide_false, if_true, if_false, not_true, not_false_eq_true, not_true_eq_false, false_or, or_false, true_and, and_true, Bool.not_eq_true, Bool.true_eq_false, reduceCtorEq]
  have := mul_bd (inB_iff.1 e1) (inB_iff.1 e2)
  rw [w64_id (by omega)]
  by_cases e : (l.length : Int) = w * h <;> simp [e]
theorem cloneI_eq (k : Nat) (cs : List Int) (hl : cs.length ≤ 5000000) : slices_Clone_int_int.f k cs = some cs := by unfold slices_Clone_int_int.f; rw [app_ok (by simp; omega)]; rfl
theorem ownI_eq (k : Nat) (cs : List Int) (hl : cs.length ≤ 5000000) : spec_l1Own.f k cs = some cs := by unfold spec_l1Own.f spec_l1Own.m; rw [app_ok (by simp; omega)]; rfl
theorem copied_eq (k : Nat) (w h : Int) (l : List Int) (hl : l.length ≤ 5000000) : impl_Chart_copied.f k w h l = some (w, h, l) := by unfold impl_Chart_copied.f impl_Chart_copied.m; rw [cloneI_eq k l hl]; rfl
theorem l2Own_eq (k : Nat) (w h : Int) (l : List Int) (hl : l.length ≤ 5000000) : spec_l2Own.f k w h l = some (w, h, l) := by unfold spec_l2Own.f spec_l2Own.m; rw [ownI_eq k l hl]; rfl
theorem nat_mul_cast (a b : Nat) : ((a * b : Nat) : Int) = (a : Int) * b := Int.natCast_mul a b
theorem lenN {w h : Nat} {l : List Int} (hl : (l.length : Int) = (w : Int) * (h : Int)) : l.length = w * h := by rw [← nat_mul_cast] at hl; omega
theorem specAt_eq (k : Nat) (w h : Int) (l : List Int) (r c : Int) (n : Nat) (hn : r * w + c = n) (hl : n < l.length) (hb : 0 ≤ r * w ∧ r * w ≤ 1000 ∧ 0 ≤ c ∧ c ≤ 1000) : spec_l2At.f k w h l r c = some (l.getD n 0) := by
  unfold spec_l2At.f spec_l2At.m
  generalize r * w = q at *
  simp (disch := omega) only [w64_id, hn, chk_nat, Option.bind_some]
theorem implAt_eq (k : Nat) (w h : Int) (l : List Int) (r c : Int) (n : Nat) (hn : r * w + c = n) (hl : n < l.length) (hb : 0 ≤ r * w ∧ r * w ≤ 1000 ∧ 0 ≤ c ∧ c ≤ 1000) : impl_Chart_at.f k w h l r c = some (l.getD n 0) := by
  unfold impl_Chart_at.f impl_Chart_at.m
  generalize r * w = q at *
  simp (disch := omega) only [w64_id, hn, chk_nat, Option.bind_some]
/-! ### The text of a chart -/
def letB (x : Int) : UInt8 := UInt8.ofNat (97 + x).toNat
def rowsL (w : Nat) : Nat → List Int → List (List UInt8)
  | 0, _ => []
  | h + 1, l => (l.take w).map letB :: rowsL w h (l.drop w)
def txt (w : Nat) : Nat → List Int → List UInt8
  | _, [] => []
  | i, x :: xs => (if 0 < i ∧ i % w = 0 then [47] else []) ++ letB x :: txt w (i + 1) xs
theorem txt_cons (w i : Nat) (x : Int) (xs : List Int) : txt w i (x :: xs) = (if 0 < i ∧ i % w = 0 then [47] else []) ++ letB x :: txt w (i + 1) xs := rfl
theorem rowsL_succ (w h : Nat) (l : List Int) : rowsL w (h + 1) l = (l.take w).map letB :: rowsL w h (l.drop w) := rfl
theorem letB_wrap {x : Int} (h : 0 ≤ x ∧ x ≤ 5) : IntKind.u8.wrap (w64 (97 + x)) = 97 + x := by
  rw [w64_id (by omega)]
  unfold IntKind.wrap
  simp [IntKind.signed, IntKind.bits]
  omega
theorem ofB_let (l : List Int) : ofBytes (l.map fun x => 97 + x) = bs (l.map letB) := by
  unfold ofBytes bs
  rw [List.map_map]
  rfl
theorem ofB_one (x : Int) : ofBytes [97 + x] = bs [letB x] := rfl
theorem letB_toNat {x : Int} (h : 0 ≤ x ∧ x ≤ 5) : ((letB x).toNat : Int) = 97 + x := by
  unfold letB
  rw [UInt8.toNat_ofNat']
  omega
theorem letB_ne {x : Int} (h : 0 ≤ x ∧ x ≤ 5) : letB x ≠ 47 := fun e => by
  have := letB_toNat h
  rw [e] at this
  change ((47 : Nat) : Int) = _ at this
  omega
theorem rowsL_len (w : Nat) : ∀ (h : Nat) (l : List Int), (rowsL w h l).length = h
  | 0, _ => rfl
  | h + 1, l => by unfold rowsL; rw [List.length_cons, rowsL_len w h]
theorem rowsL_w (w : Nat) : ∀ (h : Nat) (l : List Int), l.length = w * h → ∀ r ∈ rowsL w h l, r.length = w
  | 0, _, _, r, hr => by cases hr
  | h + 1, l, hl, r, hr => by
    rw [Nat.mul_succ] at hl
    unfold rowsL at hr
    rcases List.mem_cons.1 hr with rfl | hr
    · rw [List.length_map, List.length_take]; omega
    · exact rowsL_w w h (l.drop w) (by rw [List.length_drop]; omega) r hr
theorem rowsL_flat (w : Nat) : ∀ (h : Nat) (l : List Int), l.length = w * h → (rowsL w h l).flatten = l.map letB
  | 0, l, hl => by
    have : l = [] := List.length_eq_zero_iff.1 hl
    subst this
    rfl
  | h + 1, l, hl => by
    rw [Nat.mul_succ] at hl
    unfold rowsL
    rw [List.flatten_cons, rowsL_flat w h (l.drop w) (by rw [List.length_drop]; omega), ← List.map_append, List.take_append_drop]
theorem rowsL_ne {w h : Nat} {l : List Int} (hx : ∀ x ∈ l, 0 ≤ x ∧ x ≤ 5) : ∀ r ∈ rowsL w h l, ∀ b ∈ r, b ≠ 47 := by
  induction h generalizing l with
  | zero => intro r hr; cases hr
  | succ h ih =>
    intro r hr b hb
    unfold rowsL at hr
    rcases List.mem_cons.1 hr with rfl | hr
    · obtain ⟨x, hx1, rfl⟩ := List.mem_map.1 hb
      exact letB_ne (hx x (List.mem_of_mem_take hx1))
    · exact ih (fun x h => hx x (List.mem_of_mem_drop h)) r hr b hb
theorem txt_in (w a : Nat) : ∀ (m j : Nat) (l : List Int), 1 ≤ j → j + m ≤ w → m ≤ l.length → txt w (a * w + j) l = (l.take m).map letB ++ txt w (a * w + j + m) (l.drop m) := by
  intro m
  induction m with
  | zero => intro j l _ _ _; simp
  | succ m ih =>
    intro j l h1 h2 h3
    cases l with
    | nil => simp at h3
    | cons x xs =>
      have hm : (a * w + j) % w = j := by rw [Nat.add_comm, Nat.add_mul_mod_self_right, Nat.mod_eq_of_lt (by omega)]
      have hn : ¬ (0 < a * w + j ∧ (a * w + j) % w = 0) := by rw [hm]; omega
      rw [txt_cons, if_neg hn, List.nil_append, show a * w + j + 1 = a * w + (j + 1) by omega, ih (j + 1) xs (by omega) (by omega) (by simpa using h3), List.take_succ_cons, List.drop_succ_cons, List.map_cons, List.cons_append, show a * w + (j + 1) + m = a * w + j + (m + 1) by omega]
theorem txt_row (w a : Nat) (hw : 1 ≤ w) (l : List Int) (hl : w ≤ l.length) : txt w (a * w) l = (if 0 < a then [47] else []) ++ ((l.take w).map letB ++ txt w ((a + 1) * w) (l.drop w)) := by
  cases l with
  | nil => simp at hl; omega
  | cons x xs =>
    have hm : (a * w) % w = 0 := Nat.mul_mod_left a w
    have hp : (0 < a * w ∧ (a * w) % w = 0) ↔ 0 < a := by
      rw [hm]
      constructor
      · intro h
        rcases Nat.eq_zero_or_pos a with h0 | h0
        · subst h0; simp at h
        · exact h0
      · intro h
        exact ⟨Nat.mul_pos h hw, rfl⟩
    obtain ⟨w, rfl⟩ := succ_of (show 0 < w by omega)
    have hi := txt_in (w + 1) a w 1 xs (Nat.le_refl _) (by omega) (by simpa using hl)
    rw [txt_cons, hi, List.take_succ_cons, List.drop_succ_cons, List.map_cons, List.cons_append, show a * (w + 1) + 1 + w = (a + 1) * (w + 1) by rw [Nat.succ_mul]; omega]
    by_cases h : 0 < a
    · rw [if_pos (hp.2 h), if_pos h]
    · rw [if_neg (fun e => h (hp.1 e)), if_neg h]
theorem txt_tail (w : Nat) (hw : 1 ≤ w) : ∀ (h a : Nat) (l : List Int), l.length = w * h → 0 < a → txt w (a * w) l = Lib.joinTail [47] (rowsL w h l)
  | 0, a, l, hl, _ => by
    have : l = [] := List.length_eq_zero_iff.1 hl
    subst this
    rfl
  | h + 1, a, l, hl, ha => by
    rw [Nat.mul_succ] at hl
    rw [txt_row w a hw l (by omega), if_pos ha, txt_tail w hw h (a + 1) (l.drop w) (by rw [List.length_drop]; omega) (by omega)]
    simp [rowsL, Lib.joinTail]
theorem txt_rows {w h : Nat} (hw : 1 ≤ w) (hh : 1 ≤ h) {l : List Int} (hl : l.length = w * h) : txt w 0 l = Lib.join (rowsL w h l) [47] := by
  obtain ⟨h, rfl⟩ := succ_of (show 0 < h by omega)
  rw [Nat.mul_succ] at hl
  have := txt_row w 0 hw l (by omega)
  rw [Nat.zero_mul, Nat.zero_add] at this
  rw [this, txt_tail w hw h 1 (l.drop w) (by rw [List.length_drop]; omega) (by omega)]
  rw [rowsL_succ, Lib.join_cons]
  simp
theorem txt_len (w : Nat) : ∀ (i : Nat) (l : List Int), (txt w i l).length ≤ 2 * l.length
  | _, [] => by simp [txt]
  | i, x :: xs => by
    unfold txt
    have := txt_len w (i + 1) xs
    rw [List.length_append, List.length_cons, List.length_cons]
    split <;> simp <;> omega
theorem l2Text_eq (k : Nat) {w h : Nat} {l : List Int} (hw : 1 ≤ w ∧ w ≤ 8) (hl : l.length ≤ 100) (hx : ∀ x ∈ l, 0 ≤ x ∧ x ≤ 5) (hk : 500 ≤ k) : spec_l2Text.f k (w : Int) (h : Int) l = some (bs (txt w 0 l)) := by
  have key : ∀ d i k (acc : List UInt8), i + d = l.length → d < k → acc.length ≤ 2 * i → spec_l2Text.l4 k (w : Int) (h : Int) l (bs acc) (i : Int) = some (bs (acc ++ txt w i (l.drop i))) := by
    intro d
    induction d with
    | zero =>
      intro i k acc h1 h2 h3
      obtain ⟨k, rfl⟩ := succ_of (show 0 < k by omega)
      have : i = l.length := by omega
      subst this
      simp only [spec_l2Text.l4, spec_l2Text.b4]
      rw [if_neg (by omega), List.drop_length]
      simp [txt]
    | succ d ih =>
      intro i k acc h1 h2 h3
      obtain ⟨k, rfl⟩ := succ_of (show 0 < k by omega)
      have hi : i < l.length := by omega
      have hxi : 0 ≤ l.getD i 0 ∧ l.getD i 0 ≤ 5 := by rw [getD_lt hi]; exact hx _ (List.getElem_mem hi)
      have hd := drop_getD (d := (0 : Int)) hi
      have h47 : (⟨#[47]⟩ : ByteArray) = bs [47] := rfl
      have hr : rem (i : Int) (w : Int) = some ((i % w : Nat) : Int) := by
        unfold rem
        rw [if_neg (by omega), Int.tmod_eq_emod_of_nonneg (by omega)]
        rfl
      simp only [spec_l2Text.l4, spec_l2Text.b4]
      rw [if_pos (by omega), hr, h47, w64_id (x := (i : Int) + 1) (by omega), show ((i : Int) + 1) = ((i + 1 : Nat) : Int) by omega]
      simp only [chk_nat hi, Option.bind_some, letB_wrap hxi, ofB_one, hd, txt]
      by_cases h0 : 0 < i
      · rw [if_pos (by omega)]
        by_cases hm : i % w = 0
        · rw [if_pos (by omega), if_pos ⟨h0, hm⟩, catS_bs (by simp; omega), Option.bind_some, catS_bs (by simp; omega), Option.bind_some, ih (i + 1) k _ (by omega) (by omega) (by simp; omega)]
          simp
        · rw [if_neg (by omega), if_neg (by omega), catS_bs (by simp; omega), Option.bind_some, ih (i + 1) k _ (by omega) (by omega) (by simp; omega)]
          simp
      · rw [if_neg (by omega), if_neg (by omega), catS_bs (by simp; omega), Option.bind_some, ih (i + 1) k _ (by omega) (by omega) (by simp; omega)]
        simp
  have := key l.length 0 k [] (by omega) (by omega) (by simp)
  unfold spec_l2Text.f spec_l2Text.m
  rw [bs_nil]
  rw [List.drop_zero, List.nil_append] at this
  exact this
theorem sText_eq (k : Nat) {w h : Int} {l : List Int} (hg : goodB w h l = true) (hk : 500 ≤ k) : spec_ChartText.f k w h l = some (bs (txt w.toNat 0 l), true) := by
  obtain ⟨h1, h2, h3, h4⟩ := good_of hg
  have := mul_bd h1 h2
  obtain ⟨w, rfl⟩ := Int.eq_ofNat_of_zero_le (show 0 ≤ w by omega)
  obtain ⟨h, rfl⟩ := Int.eq_ofNat_of_zero_le (show 0 ≤ h by omega)
  unfold spec_ChartText.f spec_ChartText.m
  rw [l2Good_eq k _ _ l (by omega) (by omega), Option.bind_some, hg, l2Text_eq k (by omega) (by omega) h4 hk]
  rfl
theorem sText_not (k : Nat) {w h : Int} {l : List Int} (hg : goodB w h l = false) (hl : l.length ≤ 400) (hk : 500 ≤ k) : spec_ChartText.f k w h l = some (bs [], false) := by
  unfold spec_ChartText.f spec_ChartText.m
  rw [l2Good_eq k _ _ l (by omega) (by omega), Option.bind_some, hg]
  rfl
theorem iText_not (k : Nat) {w h : Int} {l : List Int} (hg : goodB w h l = false) (hl : l.length ≤ 400) (hk : 500 ≤ k) : impl_ChartText.f k w h l = some (bs [], false) := by
  unfold impl_ChartText.f impl_ChartText.m
  rw [isChart_eq k _ _ l (by omega) (by omega), Option.bind_some, hg]
  rfl
theorem iText_eq (k : Nat) {w h : Int} {l : List Int} (hg : goodB w h l = true) (hk : 500 ≤ k) : impl_ChartText.f k w h l = some (bs (txt w.toNat 0 l), true) := by
  obtain ⟨h1, h2, h3, h4⟩ := good_of hg
  have hm := mul_bd h1 h2
  have hg0 := isChart_eq k w h l (by omega) (by omega)
  obtain ⟨w, rfl⟩ := Int.eq_ofNat_of_zero_le (show 0 ≤ w by omega)
  obtain ⟨h, rfl⟩ := Int.eq_ofNat_of_zero_le (show 0 ≤ h by omega)
  have hN : l.length = w * h := lenN h3
  have hrow : ∀ row, row < h → row * w + w ≤ l.length := fun row hr => by
    rw [hN, Nat.mul_comm w h, ← Nat.succ_mul]
    exact Nat.mul_le_mul_right w hr
  have inner : ∀ (row : Nat) (rows : List ByteArray) (R : Option (ByteArray × Bool)) (K : Nat), row < h → rows.length ≤ 100 → (∀ k, K ≤ k → impl_ChartText.l7 k (w : Int) (h : Int) l (rows ++ [bs (((l.drop (row * w)).take w).map letB)]) (h : Int) ((row + 1 : Nat) : Int) = R) →
      ∀ d col k, col + d = w → K + d < k → impl_ChartText.l15 k (w : Int) (h : Int) l rows (row : Int) (((l.drop (row * w)).take col).map fun x => 97 + x) (h : Int) (row : Int) (w : Int) (col : Int) = R := by
    intro row rows R K hr hrl hn d
    have hb := hrow row hr
    induction d with
    | zero =>
      intro col k h5 h6
      obtain ⟨k, rfl⟩ := succ_of (show 0 < k by omega)
      have : col = w := by omega
      subst this
      simp only [impl_ChartText.l15, impl_ChartText.b15]
      rw [if_neg (by omega), app_ok (by simp; omega), Option.bind_some, ofB_let, w64_id (by omega), show ((row : Int) + 1) = ((row + 1 : Nat) : Int) by omega]
      exact hn k (by omega)
    | succ d ih =>
      intro col k h5 h6
      obtain ⟨k, rfl⟩ := succ_of (show 0 < k by omega)
      have hi : row * w + col < l.length := by omega
      have hxi : 0 ≤ l.getD (row * w + col) 0 ∧ l.getD (row * w + col) 0 ≤ 5 := by rw [getD_lt hi]; exact h4 _ (List.getElem_mem hi)
      simp only [impl_ChartText.l15, impl_ChartText.b15]
      rw [if_pos (by omega), implAt_eq k _ _ _ _ _ (row * w + col) (by rw [Int.natCast_add, Int.natCast_mul]) hi (by rw [← Int.natCast_mul]; omega), Option.bind_some, letB_wrap hxi, app_ok (by simp; omega), Option.bind_some, w64_id (by omega), show ((col : Int) + 1) = ((col + 1 : Nat) : Int) by omega]
      rw [← ih (col + 1) k (by omega) (by omega), List.take_add_one (i := col), List.map_append, List.getElem?_drop, List.getElem?_eq_getElem hi, getD_lt hi]
      rfl
  have hT := txt_rows (w := w) (h := h) (by omega) (by omega) hN
  have outer : ∀ d row k (acc : List (List UInt8)), row + d = h → acc.length = row → acc ++ rowsL w d (l.drop (row * w)) = rowsL w h l → 20 * d < k → impl_ChartText.l7 k (w : Int) (h : Int) l (acc.map bs) (h : Int) (row : Int) = some (bs (txt w 0 l), true) := by
    intro d
    induction d with
    | zero =>
      intro row k acc h5 h7 h8 h6
      obtain ⟨k, rfl⟩ := succ_of (show 0 < k by omega)
      simp only [impl_ChartText.l7, impl_ChartText.b7]
      rw [show rowsL w 0 (l.drop (row * w)) = [] from rfl, List.append_nil] at h8
      have hlen : (Lib.join acc [47]).length ≤ 140737488355328 := by
        rw [h8, ← hT]
        have := txt_len w 0 l
        omega
      rw [if_neg (by omega)]
      unfold strings_Join.f
      rw [show (⟨#[47]⟩ : ByteArray) = bs [47] from rfl, joinF_L acc [47] (by omega) hlen, h8, ← hT]
      rfl
    | succ d ih =>
      intro row k acc h5 h7 h8 h6
      obtain ⟨k, rfl⟩ := succ_of (show 0 < k by omega)
      simp only [impl_ChartText.l7, impl_ChartText.b7]
      rw [if_pos (by omega)]
      refine inner row (acc.map bs) _ (20 * d + 1) (by omega) (by rw [List.length_map]; omega) (fun k hk => ?_) w 0 k (by omega) (by omega)
      have := ih (row + 1) k (acc ++ [((l.drop (row * w)).take w).map letB]) (by omega) (by simp; omega) (by
        rw [← h8, List.append_assoc, rowsL_succ, List.drop_drop, Nat.succ_mul]
        rfl) (by omega)
      rw [List.map_append] at this
      exact this
  unfold impl_ChartText.f impl_ChartText.m
  rw [hg0, Option.bind_some, hg, show (!true) = false from rfl, cond_false, show (0 : Int) = ((0 : Nat) : Int) from rfl]
  exact outer h 0 k [] (by omega) rfl (by rw [Nat.zero_mul]; rfl) (by omega)
/-! ### A chart read out of a text -/
def numL (r : List UInt8) : List Int := r.map fun b => (b.toNat : Int) - 97
def parW (l : List UInt8) : Nat := ((splitL 47 l).headD []).length
def parK (l : List UInt8) : List Int := numL (splitL 47 l).flatten
def parOk (l : List UInt8) : Bool := (splitL 47 l).all (fun r => decide (r.length = parW l)) && goodB (parW l) ((splitL 47 l).length : Int) (parK l)
def parR (l : List UInt8) : Int × Int × List Int × Bool := if parOk l = true then ((parW l : Int), ((splitL 47 l).length : Int), parK l, true) else (0, 0, [], false)
theorem numL_app (a b : List UInt8) : numL (a ++ b) = numL a ++ numL b := List.map_append
theorem numL_len (a : List UInt8) : (numL a).length = a.length := List.length_map _
theorem letB_num {b : UInt8} (h : 0 ≤ (b.toNat : Int) - 97) : letB ((b.toNat : Int) - 97) = b := by
  unfold letB
  rw [show (97 + ((b.toNat : Int) - 97)).toNat = b.toNat by omega]
  apply UInt8.toNat_inj.1
  rw [UInt8.toNat_ofNat']
  have := b.toNat_lt
  omega
theorem num_let {l : List Int} (hx : ∀ x ∈ l, 0 ≤ x ∧ x ≤ 5) : numL (l.map letB) = l := by
  unfold numL
  rw [List.map_map]
  conv => rhs; rw [← List.map_id l]
  refine List.map_congr_left fun x h => ?_
  show ((letB x).toNat : Int) - 97 = x
  rw [letB_toNat (hx x h)]
  omega
theorem rows_of (w : Nat) : ∀ rows : List (List UInt8), (∀ r ∈ rows, r.length = w) → (∀ x ∈ numL rows.flatten, 0 ≤ x ∧ x ≤ 5) → rowsL w rows.length (numL rows.flatten) = rows
  | [], _, _ => rfl
  | r :: rows, h1, h2 => by
    have hr := h1 r (by simp)
    rw [List.flatten_cons, numL_app] at *
    rw [List.length_cons, rowsL_succ, List.take_left' (by rw [numL_len, hr]), List.drop_left' (by rw [numL_len, hr])]
    rw [rows_of w rows (fun x hx => h1 x (List.mem_cons_of_mem _ hx)) (fun x hx => h2 x (List.mem_append_right _ hx))]
    congr 1
    unfold numL
    rw [List.map_map]
    conv => rhs; rw [← List.map_id r]
    refine List.map_congr_left fun b hb => letB_num (h2 _ (List.mem_append_left _ ?_)).1
    exact List.mem_map.2 ⟨b, hb, rfl⟩
theorem tail_len (c : UInt8) : ∀ rs : List (List UInt8), (Lib.joinTail [c] rs).length = rs.flatten.length + rs.length
  | [] => rfl
  | r :: rs => by
    have := tail_len c rs
    unfold Lib.joinTail at *
    rw [List.map_cons, List.flatten_cons, List.flatten_cons, List.length_append, List.length_append, this, List.length_append, List.length_cons]
    simp
    omega
theorem split_size (l : List UInt8) : l.length + 1 = (splitL 47 l).flatten.length + (splitL 47 l).length := by
  have h := join_split 47 l
  cases h2 : splitL 47 l with
  | nil => exact absurd h2 (splitL_ne 47 l)
  | cons r rs =>
    rw [h2, Lib.join_cons] at h
    have := congrArg List.length h
    rw [List.length_append, tail_len] at this
    simp
    simp at this
    omega
/-- Good, and all rows as long as the first: the text is the chart's own. -/
theorem parOk_iff (l : List UInt8) : parOk l = true ↔ goodB (parW l) ((splitL 47 l).length : Int) (parK l) = true ∧ txt (parW l) 0 (parK l) = l := by
  unfold parOk
  rw [Bool.and_eq_true, List.all_eq_true]
  constructor
  · rintro ⟨h1, h2⟩
    refine ⟨h2, ?_⟩
    obtain ⟨g1, g2, g3, g4⟩ := good_of h2
    have hN := lenN g3
    rw [txt_rows (by omega) (by omega) hN]
    unfold parK at *
    rw [rows_of _ _ (fun r hr => of_decide_eq_true (h1 r hr)) g4]
    exact join_split 47 l
  · rintro ⟨h2, h3⟩
    refine ⟨?_, h2⟩
    obtain ⟨g1, g2, g3, g4⟩ := good_of h2
    have hN := lenN g3
    rw [txt_rows (by omega) (by omega) hN] at h3
    have h5 := split_join 47 (rowsL (parW l) (splitL 47 l).length (parK l)) (fun e => by
      have := rowsL_len (parW l) (splitL 47 l).length (parK l)
      rw [e] at this
      simp at this
      omega) (rowsL_ne g4)
    rw [h3] at h5
    intro r hr
    rw [h5] at hr
    exact decide_eq_true (rowsL_w _ _ _ hN r hr)
theorem parOk_short {l : List UInt8} (h : parOk l = true) : l.length ≤ 71 := by
  obtain ⟨h1, h2⟩ := (parOk_iff l).1 h
  obtain ⟨g1, g2, g3, g4⟩ := good_of h1
  have h5 := split_size l
  have h6 : (parK l).length = (splitL 47 l).flatten.length := numL_len _
  have := mul_bd g1 g2
  omega
theorem par_txt {w h : Nat} {l : List Int} (hg : goodB (w : Int) (h : Int) l = true) : parR (txt w 0 l) = ((w : Int), (h : Int), l, true) := by
  obtain ⟨h1, h2, h3, h4⟩ := good_of hg
  have hN := lenN h3
  have hR : splitL 47 (txt w 0 l) = rowsL w h l := by
    rw [txt_rows (by omega) (by omega) hN]
    exact split_join 47 _ (fun e => by
      have := rowsL_len w h l
      rw [e] at this
      simp at this
      omega) (rowsL_ne h4)
  have hW : parW (txt w 0 l) = w := by
    unfold parW
    rw [hR]
    obtain ⟨h, rfl⟩ := succ_of (show 0 < h by omega)
    exact rowsL_w w (h + 1) l hN _ (by rw [rowsL_succ]; simp)
  have hK : parK (txt w 0 l) = l := by
    unfold parK
    rw [hR, rowsL_flat w h l hN, num_let h4]
  have hO : parOk (txt w 0 l) = true := by
    rw [parOk_iff, hW, hK, hR, rowsL_len]
    exact ⟨hg, rfl⟩
  unfold parR
  rw [if_pos hO, hW, hK, hR, rowsL_len]
theorem num_of {b : Int} (h : 0 ≤ b ∧ b < 256) : w64 (w64 b - 97) = b - 97 := by
  rw [w64_id (x := b) (by omega), w64_id (by omega)]
theorem sParse_eq (k : Nat) {l : List UInt8} (hl : l.length ≤ 100) (hk : 2000 ≤ k) : spec_ParseChart.f k (bs l) = some (parR l) := by
  unfold spec_ParseChart.f spec_ParseChart.m
  by_cases h72 : 72 < l.length
  · rw [bs_size, if_pos (by omega)]
    have : ¬ parOk l = true := fun h => by have := parOk_short h; omega
    unfold parR
    rw [if_neg this]
  rw [bs_size, if_neg (by omega)]
  have hs := splitS_ok l 47 (by omega) (by omega) k (by omega)
  rw [show ((47 : Nat) : Int) = 47 from rfl, show UInt8.ofNat 47 = 47 from rfl] at hs
  rw [hs, Option.bind_some, List.length_map]
  have hpos : 0 < (splitL 47 l).length := by
    have := splitL_ne 47 l
    rcases Nat.eq_zero_or_pos (splitL 47 l).length with h | h
    · exact absurd (List.length_eq_zero_iff.1 h) this
    · exact h
  have hc := chk_nat hpos
  rw [show ((0 : Nat) : Int) = 0 from rfl] at hc
  rw [hc, Option.bind_some]
  have hW : (((splitL 47 l).map bs).getD 0 ByteArray.empty).size = parW l := by
    unfold parW
    cases h2 : splitL 47 l with
    | nil => exact absurd h2 (splitL_ne 47 l)
    | cons r rs => simp [bs_size]
  rw [hW]
  have hflat := splitL_flat 47 l
  have key : ∀ d i k (ks : List Int), i + d = l.length → ks.length ≤ i → 1000 + d < k → spec_ParseChart.l8 k (bs l) 0 0 [] (parW l : Int) ((splitL 47 l).length : Int) ks (i : Int) = some (if goodB (parW l) ((splitL 47 l).length : Int) (ks ++ numL ((l.drop i).filter fun b => !(b == 47))) = true ∧ txt (parW l) 0 (ks ++ numL ((l.drop i).filter fun b => !(b == 47))) = l then ((parW l : Int), ((splitL 47 l).length : Int), ks ++ numL ((l.drop i).filter fun b => !(b == 47)), true) else (0, 0, [], false)) := by
    intro d
    induction d with
    | zero =>
      intro i k ks h1 h2 h3
      obtain ⟨k, rfl⟩ := succ_of (show 0 < k by omega)
      have : i = l.length := by omega
      subst this
      simp only [spec_ParseChart.l8, spec_ParseChart.b8]
      rw [bs_size, if_neg (by omega), l2Good_eq k _ _ _ (by omega) (by omega), Option.bind_some, List.drop_length, List.filter_nil, show numL [] = [] from rfl, List.append_nil]
      cases hg : goodB (parW l) ((splitL 47 l).length : Int) ks
      · simp
      · obtain ⟨g1, g2, g3, g4⟩ := good_of hg
        rw [show (!true) = false from rfl, cond_false, l2Text_eq k (by omega) (by omega) g4 (by omega), Option.bind_some]
        by_cases ht : txt (parW l) 0 ks = l
        · rw [if_neg (by rw [bs_inj]; simpa using ht), if_pos ⟨rfl, ht⟩]
        · rw [if_pos (by rw [bs_inj]; exact ht), if_neg (fun h => ht h.2)]
    | succ d ih =>
      intro i k ks h1 h2 h3
      obtain ⟨k, rfl⟩ := succ_of (show 0 < k by omega)
      have hi : i < l.length := by omega
      have hd := drop_getD (d := (0 : UInt8)) hi
      have hb := byteAt_lt hi
      simp only [spec_ParseChart.l8, spec_ParseChart.b8]
      rw [bs_size, if_pos (by omega), chk_nat hi]
      simp only [Option.bind_some]
      rw [num_of hb, byteAt_bs hi, w64_id (by omega), show ((i : Int) + 1) = ((i + 1 : Nat) : Int) by omega, hd, List.filter_cons]
      have h47 : ((l.getD i 0).toNat : Int) = 47 ↔ (l.getD i 0 == 47) = true := by
        have := byte_is (b := l.getD i 0) (n := 47) (by omega)
        exact this
      by_cases h : ((l.getD i 0).toNat : Int) = 47
      · rw [if_neg (by simpa using h), ih (i + 1) k ks (by omega) (by omega) (by omega), h47.1 h]
        simp
      · have hf : (l.getD i 0 == 47) = false := notB fun e => h (h47.2 e)
        rw [if_pos h, app_ok (by simp; omega), Option.bind_some, ih (i + 1) k _ (by omega) (by simp; omega) (by omega), hf]
        simp [numL]
  have := key l.length 0 k [] (by omega) (Nat.le_refl _) (by omega)
  rw [show ((0 : Nat) : Int) = 0 from rfl] at this
  rw [this, List.drop_zero, ← hflat, List.nil_append, show numL (splitL 47 l).flatten = parK l from rfl]
  unfold parR
  by_cases h : parOk l = true
  · rw [if_pos h, if_pos ((parOk_iff l).1 h)]
  · rw [if_neg h, if_neg (fun e => h ((parOk_iff l).2 e))]
theorem iParse_eq (k : Nat) {l : List UInt8} (hl : l.length ≤ 100) (hk : 2000 ≤ k) : impl_ParseChart.f k (bs l) = some (parR l) := by
  unfold impl_ParseChart.f impl_ParseChart.m
  rw [bs_size, if_neg (by omega)]
  unfold strings_Split.f
  rw [show (⟨#[47]⟩ : ByteArray) = bs [47] from rfl, splitF_L 47 l (by omega), Option.bind_some, List.length_map]
  have hpos : 0 < (splitL 47 l).length := by
    have := splitL_ne 47 l
    rcases Nat.eq_zero_or_pos (splitL 47 l).length with h | h
    · exact absurd (List.length_eq_zero_iff.1 h) this
    · exact h
  have hc := chk_nat hpos
  rw [show ((0 : Nat) : Int) = 0 from rfl] at hc
  rw [hc, Option.bind_some]
  have hW : (((splitL 47 l).map bs).getD 0 ByteArray.empty).size = parW l := by
    unfold parW
    cases h2 : splitL 47 l with
    | nil => exact absurd h2 (splitL_ne 47 l)
    | cons r rs => simp [bs_size]
  rw [hW]
  have hsz := split_size l
  have hsl := splitL_len 47 l
  have hKl : (parK l).length = (splitL 47 l).flatten.length := numL_len _
  have inner : ∀ (i : Nat) (row : List UInt8) (acc : List Int) (R : Option (Int × Int × List Int × Bool)) (K : Nat), i ≤ 1000 → row.length ≤ 1000 → acc.length ≤ 1000 → (∀ k, K ≤ k → impl_ParseChart.l8 k 0 0 [] (parW l : Int) ((splitL 47 l).length : Int) (acc ++ numL row) ((splitL 47 l).map bs) ((splitL 47 l).length : Int) ((i + 1 : Nat) : Int) = R) →
      ∀ d j k, j + d = row.length → K + d < k → impl_ParseChart.l17 k 0 0 [] (parW l : Int) ((splitL 47 l).length : Int) (acc ++ numL (row.take j)) (bs row) ((splitL 47 l).map bs) ((splitL 47 l).length : Int) (i : Int) (row.length : Int) (j : Int) = R := by
    intro i row acc R K hi hrl hal hn d
    induction d with
    | zero =>
      intro j k h5 h6
      obtain ⟨k, rfl⟩ := succ_of (show 0 < k by omega)
      have : j = row.length := by omega
      subst this
      simp only [impl_ParseChart.l17, impl_ParseChart.b17]
      rw [if_neg (by omega), List.take_length, w64_id (by omega), show ((i : Int) + 1) = ((i + 1 : Nat) : Int) by omega]
      exact hn k (by omega)
    | succ d ih =>
      intro j k h5 h6
      obtain ⟨k, rfl⟩ := succ_of (show 0 < k by omega)
      have hj : j < row.length := by omega
      simp only [impl_ParseChart.l17, impl_ParseChart.b17]
      rw [if_pos (by omega), bs_size, chk_nat hj, Option.bind_some, num_of (byteAt_lt hj), byteAt_bs hj, app_ok (by simp [numL]; omega), Option.bind_some, w64_id (by omega), show ((j : Int) + 1) = ((j + 1 : Nat) : Int) by omega]
      rw [← ih (j + 1) k (by omega) (by omega), List.take_add_one (i := j), numL_app, List.getElem?_eq_getElem hj, getD_lt hj, List.append_assoc]
      rfl
  have outer : ∀ (rest pre : List (List UInt8)) (acc : List Int) k, splitL 47 l = pre ++ rest → acc.length + rest.flatten.length ≤ 100 → 1000 + rest.flatten.length + 3 * rest.length < k → impl_ParseChart.l8 k 0 0 [] (parW l : Int) ((splitL 47 l).length : Int) acc ((splitL 47 l).map bs) ((splitL 47 l).length : Int) (pre.length : Int) = some (if (rest.all (fun r => decide (r.length = parW l)) && goodB (parW l) ((splitL 47 l).length : Int) (acc ++ numL rest.flatten)) = true then ((parW l : Int), ((splitL 47 l).length : Int), acc ++ numL rest.flatten, true) else (0, 0, [], false)) := by
    intro rest
    induction rest with
    | nil =>
      intro pre acc k h5 h7 h6
      obtain ⟨k, rfl⟩ := succ_of (show 0 < k by omega)
      have : (splitL 47 l).length = pre.length := by rw [h5]; simp
      simp only [impl_ParseChart.l8, impl_ParseChart.b8]
      rw [if_neg (by omega), isChart_eq k _ _ _ (by omega) (by omega), Option.bind_some, List.flatten_nil, show numL [] = [] from rfl, List.append_nil]
      cases hg : goodB (parW l) ((splitL 47 l).length : Int) acc <;> simp
    | cons row rest ih =>
      intro pre acc k h5 h7 h6
      obtain ⟨k, rfl⟩ := succ_of (show 0 < k by omega)
      have hlen : (splitL 47 l).length = pre.length + (rest.length + 1) := by rw [h5]; simp
      rw [List.flatten_cons, List.length_append] at h7 h6
      rw [List.length_cons] at h6
      have hget : ((splitL 47 l).map bs).getD pre.length ByteArray.empty = bs row := by rw [h5, List.map_append, List.map_cons, show pre.length = (pre.map bs).length by simp, getD_mid]
      simp only [impl_ParseChart.l8, impl_ParseChart.b8]
      rw [if_pos (by omega), List.length_map, chk_nat (by omega), Option.bind_some, hget, bs_size, List.all_cons]
      by_cases hr : row.length = parW l
      · rw [if_neg (by omega), decide_eq_true hr, Bool.true_and]
        have := inner pre.length row acc _ (1000 + rest.flatten.length + 3 * rest.length + 1) (by omega) (by omega) (by omega) (fun k hk => by
          have := ih (pre ++ [row]) (acc ++ numL row) k (by rw [h5]; simp) (by rw [List.length_append, numL_len]; omega) (by omega)
          rw [List.length_append, List.length_singleton] at this
          exact this) row.length 0 k (by omega) (by omega)
        rw [List.take_zero, show numL [] = [] from rfl, List.append_nil, show ((0 : Nat) : Int) = 0 from rfl] at this
        rw [this, List.flatten_cons, numL_app, List.append_assoc]
      · rw [if_pos (by omega), decide_eq_false hr, Bool.false_and, if_neg (by simp)]
  have := outer (splitL 47 l) [] [] k (by simp) (by rw [List.length_nil]; omega) (by omega)
  rw [List.length_nil, show ((0 : Nat) : Int) = 0 from rfl, List.nil_append] at this
  rw [this]
  rfl
/-! ### How many knots have each color -/
def cntL (l : List Int) : List Int := [((l.count 0 : Nat) : Int), ((l.count 1 : Nat) : Int), ((l.count 2 : Nat) : Int), ((l.count 3 : Nat) : Int), ((l.count 4 : Nat) : Int), ((l.count 5 : Nat) : Int)]
theorem six {x : Int} (h : 0 ≤ x ∧ x ≤ 5) : x = 0 ∨ x = 1 ∨ x = 2 ∨ x = 3 ∨ x = 4 ∨ x = 5 := by omega
theorem cntL_get (l : List Int) {x : Int} (h : 0 ≤ x ∧ x ≤ 5) : (cntL l).getD x.toNat 0 = ((l.count x : Nat) : Int) := by
  rcases six h with rfl | rfl | rfl | rfl | rfl | rfl <;> rfl
theorem cntL_snoc (l : List Int) {x : Int} (h : 0 ≤ x ∧ x ≤ 5) : (cntL l).set x.toNat ((cntL l).getD x.toNat 0 + 1) = cntL (l ++ [x]) := by
  rw [cntL_get l h]
  unfold cntL
  rcases six h with rfl | rfl | rfl | rfl | rfl | rfl <;> simp [List.count_append, List.count_singleton]
theorem cntL_sum {l : List Int} (hx : ∀ x ∈ l, 0 ≤ x ∧ x ≤ 5) : l.count 0 + l.count 1 + l.count 2 + l.count 3 + l.count 4 + l.count 5 = l.length := by
  induction l with
  | nil => rfl
  | cons a l ih =>
    have := ih fun x h => hx x (List.mem_cons_of_mem _ h)
    rcases six (hx a (by simp)) with rfl | rfl | rfl | rfl | rfl | rfl <;> simp [List.count_cons] <;> omega
theorem cnt_of {A : Type} {L : Nat → List Int → Nat → Option A} {l : List Int} {g : List Int → A} {K0 : Nat} (hx : ∀ x ∈ l, 0 ≤ x ∧ x ≤ 5)
    (hs : ∀ k i c, K0 ≤ k → i < l.length → c.length = 6 → 0 ≤ l.getD i 0 → l.getD i 0 ≤ 5 → 0 ≤ c.getD (l.getD i 0).toNat 0 → c.getD (l.getD i 0).toNat 0 ≤ ((l.length : Nat) : Int) → L (k + 1) c i = L k (c.set (l.getD i 0).toNat (c.getD (l.getD i 0).toNat 0 + 1)) (i + 1))
    (he : ∀ k c, K0 ≤ k → L (k + 1) c l.length = some (g c)) (k : Nat) (hk : K0 + l.length < k) : L k (List.replicate 6 0) 0 = some (g (cntL l)) := by
  have key : ∀ d i k, i + d = l.length → K0 + d < k → L k (cntL (l.take i)) i = some (g (cntL l)) := by
    intro d
    induction d with
    | zero =>
      intro i k h1 h2
      obtain ⟨k, rfl⟩ := succ_of (show 0 < k by omega)
      have : i = l.length := by omega
      subst this
      rw [he k _ (by omega), List.take_length]
    | succ d ih =>
      intro i k h1 h2
      obtain ⟨k, rfl⟩ := succ_of (show 0 < k by omega)
      have hi : i < l.length := by omega
      have hxi : 0 ≤ l.getD i 0 ∧ l.getD i 0 ≤ 5 := by rw [getD_lt hi]; exact hx _ (List.getElem_mem hi)
      have hc : (cntL (l.take i)).getD (l.getD i 0).toNat 0 = (((l.take i).count (l.getD i 0) : Nat) : Int) := cntL_get _ hxi
      have hle : (l.take i).count (l.getD i 0) ≤ l.length := Nat.le_trans List.count_le_length (by rw [List.length_take]; omega)
      rw [hs k i _ (by omega) hi rfl hxi.1 hxi.2 (by rw [hc]; omega) (by rw [hc]; omega), cntL_snoc _ hxi]
      have : l.take i ++ [l.getD i 0] = l.take (i + 1) := by rw [List.take_add_one (i := i), List.getElem?_eq_getElem hi, getD_lt hi]; rfl
      rw [this]
      exact ih (i + 1) k (by omega) (by omega)
  exact key l.length 0 k (by omega) (by omega)
theorem iColors_eq (k : Nat) (w h : Int) {l : List Int} (hx : ∀ x ∈ l, 0 ≤ x ∧ x ≤ 5) (hl : l.length ≤ 400) (hk : 600 ≤ k) : impl_Chart_colors.f k w h l = some (cntL l) := by
  unfold impl_Chart_colors.f impl_Chart_colors.m
  rw [mkl_int (by omega), Option.bind_some]
  refine cnt_of (L := fun k c i => impl_Chart_colors.l4 k c l (l.length : Int) (i : Int)) (g := fun c => c) (K0 := 20) hx (fun k i c hk hi hc h1 h2 h3 h4 => ?_) (fun k c hk => ?_) k (by omega)
  · simp only [impl_Chart_colors.l4, impl_Chart_colors.b4]
    rw [if_pos (by omega), chk_nat hi]
    simp only [Option.bind_some]
    rw [chk_int (by omega)]
    simp only [Option.bind_some]
    rw [w64_id (x := (i : Int) + 1) (by omega), w64_id (by omega)]
    rfl
  · simp only [impl_Chart_colors.l4, impl_Chart_colors.b4]
    rw [if_neg (by omega)]
theorem iCount_eq (k : Nat) (w h : Int) {l : List Int} (hl : l.length ≤ 400) (hk : 600 ≤ k) : impl_CountColors.f k w h l = some (if goodB w h l = true then (cntL l, true) else ([], false)) := by
  unfold impl_CountColors.f impl_CountColors.m
  rw [isChart_eq k _ _ _ (by omega) (by omega), Option.bind_some]
  cases hg : goodB w h l
  · rfl
  · rw [show (!true) = false from rfl, cond_false, iColors_eq k w h (good_of hg).2.2.2 hl hk]
    rfl
theorem sCount_eq (k : Nat) (w h : Int) {l : List Int} (hl : l.length ≤ 400) (hk : 600 ≤ k) : spec_CountColors.f k w h l = some (if goodB w h l = true then (cntL l, true) else ([], false)) := by
  unfold spec_CountColors.f spec_CountColors.m
  rw [l2Good_eq k _ _ _ (by omega) (by omega), Option.bind_some]
  cases hg : goodB w h l
  · rfl
  · have hx := (good_of hg).2.2.2
    rw [show (!true) = false from rfl, cond_false, mkl_int (by omega), Option.bind_some, if_pos rfl]
    refine cnt_of (L := fun k c i => spec_CountColors.l7 k w h l c (i : Int)) (g := fun c => (c, true)) (K0 := 20) hx (fun k i c hk hi hc h1 h2 h3 h4 => ?_) (fun k c hk => ?_) k (by omega)
    · simp only [spec_CountColors.l7, spec_CountColors.b7]
      rw [if_pos (by omega), chk_nat hi]
      simp only [Option.bind_some]
      rw [chk_int (by omega)]
      simp only [Option.bind_some]
      rw [w64_id (x := (i : Int) + 1) (by omega), w64_id (by omega)]
      rfl
    · simp only [spec_CountColors.l7, spec_CountColors.b7]
      rw [if_neg (by omega)]
theorem vSum_cnt (k : Nat) {l : List Int} (hl : l.length ≤ 400) (hx : ∀ x ∈ l, 0 ≤ x ∧ x ≤ 5) (hk : 600 ≤ k) : laws_vSum.f k (cntL l) = some (l.length : Int) := by
  have hs := cntL_sum hx
  have key : ∀ (q p : List Int) k (acc : Int), cntL l = p ++ q → (∀ x ∈ q, 0 ≤ x ∧ x ≤ 1000) → 0 ≤ acc → acc + 1000 * q.length ≤ 1000000 → p.length + q.length ≤ 100 → q.length < k → laws_vSum.l4 k (cntL l) acc (p.length : Int) = some (acc + q.sum) := by
    intro q
    induction q with
    | nil =>
      intro p k acc h1 h2 h3 h4 h5 h6
      obtain ⟨k, rfl⟩ := succ_of (show 0 < k by omega)
      simp only [laws_vSum.l4, laws_vSum.b4]
      rw [if_neg (by rw [h1]; simp)]
      simp
    | cons x q ih =>
      intro p k acc h1 h2 h3 h4 h5 h6
      obtain ⟨k, rfl⟩ := succ_of (show 0 < k by omega)
      rw [List.length_cons] at h4 h5 h6
      have hx0 := h2 x (by simp)
      have hg : (cntL l).getD p.length 0 = x := by rw [h1, getD_mid]
      have e1 : w64 ((p.length : Int) + 1) = (p.length : Int) + 1 := w64_id (by omega)
      have e2 : w64 (acc + x) = acc + x := w64_id (by omega)
      simp only [laws_vSum.l4, laws_vSum.b4]
      rw [if_pos (by rw [h1]; exact lt_mid p x q), chk_nat (by rw [h1]; simp), Option.bind_some, hg, e1, e2]
      have := ih (p ++ [x]) k (acc + x) (by rw [h1]; simp) (fun y h => h2 y (List.mem_cons_of_mem _ h)) (by omega) (by omega) (by simp; omega) (by omega)
      rw [List.length_append, List.length_singleton, show ((p.length + 1 : Nat) : Int) = (p.length : Int) + 1 by omega] at this
      rw [this, List.sum_cons, Int.add_assoc]
  have hc : ∀ x : Int, l.count x ≤ 400 := fun x => Nat.le_trans List.count_le_length hl
  have := key (cntL l) [] k 0 rfl (fun x h => by
    unfold cntL at h
    simp at h
    have h0 := hc 0; have h1 := hc 1; have h2 := hc 2; have h3 := hc 3; have h4 := hc 4; have h5 := hc 5
    rcases h with rfl | rfl | rfl | rfl | rfl | rfl <;> omega) (by omega) (by show (0 : Int) + 1000 * 6 ≤ _; omega) (by show 0 + 6 ≤ 100; omega) (by show 6 < k; omega)
  unfold laws_vSum.f laws_vSum.m
  refine this.trans ?_
  congr 1
  rw [← hs]
  unfold cntL
  simp
  omega
/-! ### A color that is another one -/
def chgL (a b : Int) (l : List Int) : List Int := l.map fun x => if x = a then b else x
theorem chg_from {a b : Int} (h : a ≠ b) (l : List Int) : (chgL a b l).count a = 0 := by
  rw [List.count_eq_zero]
  intro hm
  obtain ⟨x, _, hx⟩ := List.mem_map.1 hm
  by_cases e : x = a
  · rw [if_pos e] at hx; exact h hx.symm
  · rw [if_neg e] at hx; exact e hx
theorem chg_to {a b : Int} (h : a ≠ b) (l : List Int) : (chgL a b l).count b = l.count a + l.count b := by
  induction l with
  | nil => rfl
  | cons x l ih =>
    unfold chgL at *
    rw [List.map_cons, List.count_cons, List.count_cons, List.count_cons, ih]
    by_cases e : x = a
    · subst e
      simp [h]
      omega
    · simp [e]
      omega
theorem chg_loop {A : Type} {L : Nat → List Int → Nat → Option A} {l : List Int} {a b : Int} {g : List Int → A} {K0 : Nat}
    (hs : ∀ k i c, K0 ≤ k → i < l.length → c.length = l.length → L (k + 1) c i = if c.getD i 0 = a then L k (c.set i b) (i + 1) else L k c (i + 1))
    (he : ∀ k c, K0 ≤ k → c.length = l.length → L (k + 1) c l.length = some (g c)) (k : Nat) (hk : K0 + l.length < k) : L k l 0 = some (g (chgL a b l)) := by
  have key : ∀ (q p : List Int) k, l.length = p.length + q.length → K0 + q.length < k → L k (p ++ q) p.length = some (g (p ++ chgL a b q)) := by
    intro q
    induction q with
    | nil =>
      intro p k h1 h2
      obtain ⟨k, rfl⟩ := succ_of (show 0 < k by omega)
      have e : p.length = l.length := by rw [h1]; rfl
      rw [e, he k _ (by simp at h2; omega) (by rw [List.append_nil]; exact e)]
      rfl
    | cons x q ih =>
      intro p k h1 h2
      obtain ⟨k, rfl⟩ := succ_of (show 0 < k by omega)
      rw [List.length_cons] at h1 h2
      rw [hs k p.length _ (by omega) (by omega) (by simp; omega), getD_mid, set_mid]
      by_cases e : x = a
      · have := ih (p ++ [b]) k (by simp; omega) (by omega)
        rw [List.length_append, List.length_singleton, List.append_assoc, List.append_assoc] at this
        rw [if_pos e]
        refine this.trans ?_
        unfold chgL
        rw [List.map_cons, if_pos e]
        rfl
      · have := ih (p ++ [x]) k (by simp; omega) (by omega)
        rw [List.length_append, List.length_singleton, List.append_assoc, List.append_assoc] at this
        rw [if_neg e]
        refine this.trans ?_
        unfold chgL
        rw [List.map_cons, if_neg e]
        rfl
  exact key l [] k (by simp) (by omega)
def chgR (w h : Int) (l : List Int) (a b : Int) : Int × Int × List Int × Bool := if goodB w h l && colorB a && colorB b then (w, h, chgL a b l, true) else (0, 0, [], false)
theorem iChange_eq (k : Nat) (w h : Int) {l : List Int} (a b : Int) (hl : l.length ≤ 400) (hk : 600 ≤ k) : impl_ChangeColor.f k w h l a b = some (chgR w h l a b) := by
  unfold impl_ChangeColor.f impl_ChangeColor.m chgR
  rw [isChart_eq k _ _ _ (by omega) (by omega), isColor_eq, isColor_eq, copied_eq k w h l (by omega)]
  simp only [Option.bind_some]
  cases hg : goodB w h l
  · rfl
  cases ha : colorB a
  · rfl
  cases hb : colorB b
  · rfl
  refine chg_loop (L := fun k c i => impl_ChangeColor.l7 k a b 0 0 [] w h c (l.length : Int) (i : Int)) (g := fun c => (w, h, c, true)) (K0 := 20) (fun k i c hk hi hc => ?_) (fun k c hk hc => ?_) k (by omega)
  · simp only [impl_ChangeColor.l7, impl_ChangeColor.b7]
    rw [if_pos (by omega), chk_nat (by omega)]
    simp only [Option.bind_some]
    rw [w64_id (by omega)]
    rfl
  · simp only [impl_ChangeColor.l7, impl_ChangeColor.b7]
    rw [if_neg (by omega)]
theorem sChange_eq (k : Nat) (w h : Int) {l : List Int} (a b : Int) (hl : l.length ≤ 400) (hk : 600 ≤ k) : spec_ChangeColor.f k w h l a b = some (chgR w h l a b) := by
  unfold spec_ChangeColor.f spec_ChangeColor.m chgR
  rw [l2Good_eq k _ _ _ (by omega) (by omega), l2Color_eq, l2Color_eq, l2Own_eq k w h l (by omega)]
  simp only [Option.bind_some]
  cases hg : goodB w h l
  · rfl
  cases ha : colorB a
  · rfl
  cases hb : colorB b
  · rfl
  refine chg_loop (L := fun k c i => spec_ChangeColor.l7 k a b 0 0 [] w h c (i : Int)) (g := fun c => (w, h, c, true)) (K0 := 20) (fun k i c hk hi hc => ?_) (fun k c hk hc => ?_) k (by omega)
  · simp only [spec_ChangeColor.l7, spec_ChangeColor.b7]
    rw [if_pos (by omega), chk_nat (by omega)]
    simp only [Option.bind_some]
    rw [w64_id (by omega)]
    rfl
  · simp only [spec_ChangeColor.l7, spec_ChangeColor.b7]
    rw [if_neg (by omega)]
/-! ### The longest run -/
theorem long_both {w h : Nat} {l : List Int} (hw : 1 ≤ w ∧ w ≤ 8) (hh : 1 ≤ h ∧ h ≤ 8) (hN : l.length = w * h) : ∀ d row most «at», row + d = h → 0 ≤ most → most ≤ (w : Int) → ∃ m a, (∀ k, 20 * d < k → spec_LongestRun.l7 k (w : Int) (h : Int) l most «at» (row : Int) = some (m, a, true)) ∧ (∀ k, 20 * d < k → impl_LongestRun.l7 k (w : Int) (h : Int) l most «at» (h : Int) (row : Int) = some (m, a, true)) ∧ most ≤ m ∧ m ≤ (w : Int) ∧ (0 < d → 1 ≤ m) := by
  intro d
  induction d with
  | zero =>
    intro row most a h1 h2 h3
    refine ⟨most, a, fun k hk => ?_, fun k hk => ?_, Int.le_refl _, h3, fun e => by omega⟩
    · obtain ⟨k, rfl⟩ := succ_of (show 0 < k by omega)
      simp only [spec_LongestRun.l7, spec_LongestRun.b7]
      rw [if_neg (by omega)]
    · obtain ⟨k, rfl⟩ := succ_of (show 0 < k by omega)
      simp only [impl_LongestRun.l7, impl_LongestRun.b7]
      rw [if_neg (by omega)]
  | succ d ih =>
    intro row most a h1 h2 h3
    have hrow : row * w + w ≤ l.length := by
      rw [hN, Nat.mul_comm w h, ← Nat.succ_mul]
      exact Nat.mul_le_mul_right w (by omega)
    have hl64 : l.length ≤ 64 := by
      rw [hN]
      exact Nat.mul_le_mul (show w ≤ 8 by omega) (show h ≤ 8 by omega)
    have inner : ∀ e col most a n, col + e = w → 0 ≤ n → n ≤ (col : Int) → 0 ≤ most → most ≤ (w : Int) → ∃ m a', (∀ k, 20 * d + 1 + e < k → spec_LongestRun.l13 k (w : Int) (h : Int) l most a (row : Int) n (col : Int) = some (m, a', true)) ∧ (∀ k, 20 * d + 1 + e < k → impl_LongestRun.l14 k (w : Int) (h : Int) l most a (row : Int) n (h : Int) (row : Int) (w : Int) (col : Int) = some (m, a', true)) ∧ most ≤ m ∧ m ≤ (w : Int) ∧ (0 < e → 1 ≤ m) := by
      intro e
      induction e with
      | zero =>
        intro col most a n h4 h5 h6 h7 h8
        obtain ⟨m, a', i1, i2, i3, i4, i5⟩ := ih (row + 1) most a (by omega) h7 h8
        refine ⟨m, a', fun k hk => ?_, fun k hk => ?_, i3, i4, fun e => by omega⟩
        · obtain ⟨k, rfl⟩ := succ_of (show 0 < k by omega)
          simp only [spec_LongestRun.l13, spec_LongestRun.b13]
          rw [if_neg (by omega), w64_id (by omega)]
          exact i1 k (by omega)
        · obtain ⟨k, rfl⟩ := succ_of (show 0 < k by omega)
          simp only [impl_LongestRun.l14, impl_LongestRun.b14]
          rw [if_neg (by omega), w64_id (by omega)]
          exact i2 k (by omega)
      | succ e ihe =>
        intro col most a n h4 h5 h6 h7 h8
        have e0 : w64 ((0 : Int) + 1) = 1 := w64_id (by omega)
        have e1 : w64 ((col : Int) + 1) = ((col + 1 : Nat) : Int) := by rw [w64_id (by omega)]; omega
        have e2 : w64 (n + 1) = n + 1 := w64_id (by omega)
        have hstep : ∃ n', 1 ≤ n' ∧ n' ≤ ((col + 1 : Nat) : Int) ∧ (∀ k, spec_LongestRun.l13 (k + 1) (w : Int) (h : Int) l most a (row : Int) n (col : Int) = if most < n' then spec_LongestRun.l13 k (w : Int) (h : Int) l n' (row : Int) (row : Int) n' ((col + 1 : Nat) : Int) else spec_LongestRun.l13 k (w : Int) (h : Int) l most a (row : Int) n' ((col + 1 : Nat) : Int)) ∧ (∀ k, impl_LongestRun.l14 (k + 1) (w : Int) (h : Int) l most a (row : Int) n (h : Int) (row : Int) (w : Int) (col : Int) = if most < n' then impl_LongestRun.l14 k (w : Int) (h : Int) l n' (row : Int) (row : Int) n' (h : Int) (row : Int) (w : Int) ((col + 1 : Nat) : Int) else impl_LongestRun.l14 k (w : Int) (h : Int) l most a (row : Int) n' (h : Int) (row : Int) (w : Int) ((col + 1 : Nat) : Int)) := by
          by_cases hc : col = 0
          · subst hc
            refine ⟨1, by omega, by omega, fun k => ?_, fun k => ?_⟩
            · simp only [spec_LongestRun.l13, spec_LongestRun.b13]
              rw [if_pos (by omega), if_neg (by omega), e1]
            · simp only [impl_LongestRun.l14, impl_LongestRun.b14]
              rw [if_pos (by omega), if_pos (by omega), e0, e1]
          · have hb : 0 ≤ (row : Int) * (w : Int) ∧ (row : Int) * (w : Int) ≤ 1000 := by rw [← Int.natCast_mul]; omega
            have e3 : w64 ((col : Int) - 1) = (col : Int) - 1 := w64_id (by omega)
            have s1 := fun k => specAt_eq k (w : Int) (h : Int) l (row : Int) (col : Int) (row * w + col) (by rw [Int.natCast_add, Int.natCast_mul]) (by omega) ⟨hb.1, hb.2, by omega, by omega⟩
            have s2 := fun k => specAt_eq k (w : Int) (h : Int) l (row : Int) ((col : Int) - 1) (row * w + (col - 1)) (by rw [Int.natCast_add, Int.natCast_mul, Int.natCast_sub (by omega)]; rfl) (by omega) ⟨hb.1, hb.2, by omega, by omega⟩
            have s3 := fun k => implAt_eq k (w : Int) (h : Int) l (row : Int) (col : Int) (row * w + col) (by rw [Int.natCast_add, Int.natCast_mul]) (by omega) ⟨hb.1, hb.2, by omega, by omega⟩
            have s4 := fun k => implAt_eq k (w : Int) (h : Int) l (row : Int) ((col : Int) - 1) (row * w + (col - 1)) (by rw [Int.natCast_add, Int.natCast_mul, Int.natCast_sub (by omega)]; rfl) (by omega) ⟨hb.1, hb.2, by omega, by omega⟩
            by_cases hs : l.getD (row * w + col) 0 = l.getD (row * w + (col - 1)) 0
            · refine ⟨n + 1, by omega, by omega, fun k => ?_, fun k => ?_⟩
              · simp only [spec_LongestRun.l13, spec_LongestRun.b13]
                rw [if_pos (by omega), if_pos (by omega), s1, Option.bind_some, e3, s2, Option.bind_some, if_pos hs, e1, e2]
              · simp only [impl_LongestRun.l14, impl_LongestRun.b14]
                rw [if_pos (by omega), if_neg (by omega), s3, Option.bind_some, e3, s4, Option.bind_some, if_neg (fun q => q hs), e1, e2]
            · refine ⟨1, by omega, by omega, fun k => ?_, fun k => ?_⟩
              · simp only [spec_LongestRun.l13, spec_LongestRun.b13]
                rw [if_pos (by omega), if_pos (by omega), s1, Option.bind_some, e3, s2, Option.bind_some, if_neg hs, e1]
              · simp only [impl_LongestRun.l14, impl_LongestRun.b14]
                rw [if_pos (by omega), if_neg (by omega), s3, Option.bind_some, e3, s4, Option.bind_some, if_pos hs, e1, e0]
        obtain ⟨n', n1, n2, n3, n4⟩ := hstep
        by_cases hm : most < n'
        · obtain ⟨m, a', i1, i2, i3, i4, i5⟩ := ihe (col + 1) n' (row : Int) n' (by omega) (by omega) n2 (by omega) (by omega)
          refine ⟨m, a', fun k hk => ?_, fun k hk => ?_, by omega, i4, fun _ => by omega⟩
          · obtain ⟨k, rfl⟩ := succ_of (show 0 < k by omega)
            rw [n3, if_pos hm]
            exact i1 k (by omega)
          · obtain ⟨k, rfl⟩ := succ_of (show 0 < k by omega)
            rw [n4, if_pos hm]
            exact i2 k (by omega)
        · obtain ⟨m, a', i1, i2, i3, i4, i5⟩ := ihe (col + 1) most a n' (by omega) (by omega) n2 h7 h8
          refine ⟨m, a', fun k hk => ?_, fun k hk => ?_, by omega, i4, fun _ => by omega⟩
          · obtain ⟨k, rfl⟩ := succ_of (show 0 < k by omega)
            rw [n3, if_neg hm]
            exact i1 k (by omega)
          · obtain ⟨k, rfl⟩ := succ_of (show 0 < k by omega)
            rw [n4, if_neg hm]
            exact i2 k (by omega)
    obtain ⟨m, a', i1, i2, i3, i4, i5⟩ := inner w 0 most a 0 (by omega) (by omega) (by omega) h2 h3
    refine ⟨m, a', fun k hk => ?_, fun k hk => ?_, i3, i4, fun _ => i5 (by omega)⟩
    · obtain ⟨k, rfl⟩ := succ_of (show 0 < k by omega)
      simp only [spec_LongestRun.l7, spec_LongestRun.b7]
      rw [if_pos (by omega)]
      exact i1 k (by omega)
    · obtain ⟨k, rfl⟩ := succ_of (show 0 < k by omega)
      simp only [impl_LongestRun.l7, impl_LongestRun.b7]
      rw [if_pos (by omega)]
      exact i2 k (by omega)
theorem longest_eq (k : Nat) (w h : Int) {l : List Int} (hl : l.length ≤ 400) (hk : 600 ≤ k) : ∃ m a b, spec_LongestRun.f k w h l = some (m, a, b) ∧ impl_LongestRun.f k w h l = some (m, a, b) ∧ (b = true → 1 ≤ m ∧ m ≤ w) := by
  cases hg : goodB w h l
  · refine ⟨0, 0, false, ?_, ?_, fun h => by cases h⟩
    · unfold spec_LongestRun.f spec_LongestRun.m
      rw [l2Good_eq k _ _ _ (by omega) (by omega), Option.bind_some, hg]
      rfl
    · unfold impl_LongestRun.f impl_LongestRun.m
      rw [isChart_eq k _ _ _ (by omega) (by omega), Option.bind_some, hg]
      rfl
  · obtain ⟨h1, h2, h3, h4⟩ := good_of hg
    have e1 := l2Good_eq k w h l (by omega) (by omega)
    have e2 := isChart_eq k w h l (by omega) (by omega)
    obtain ⟨w, rfl⟩ := Int.eq_ofNat_of_zero_le (show 0 ≤ w by omega)
    obtain ⟨h, rfl⟩ := Int.eq_ofNat_of_zero_le (show 0 ≤ h by omega)
    obtain ⟨m, a, i1, i2, i3, i4, i5⟩ := long_both (w := w) (h := h) (by omega) (by omega) (lenN h3) h 0 0 0 (by omega) (by omega) (by omega)
    refine ⟨m, a, true, ?_, ?_, fun _ => ⟨i5 (by omega), i4⟩⟩
    · unfold spec_LongestRun.f spec_LongestRun.m
      rw [e1, Option.bind_some, hg]
      exact i1 k (by omega)
    · unfold impl_LongestRun.f impl_LongestRun.m
      rw [e2, Option.bind_some, hg]
      exact i2 k (by omega)
def Yl {α : Type} (x : Option α) (P : α → Prop) : Prop := ∃ a, x = some a ∧ P a
theorem Yl.bind {α β : Type} {x : Option α} {f : α → Option β} {P : α → Prop} {Q : β → Prop} (h : Yl x P) (g : ∀ a, P a → Yl (f a) Q) : Yl (x.bind f) Q := by
  obtain ⟨a, rfl, ha⟩ := h; exact g a ha
theorem Yl.mono {α : Type} {x : Option α} {P Q : α → Prop} (h : Yl x P) (g : ∀ a, P a → Q a) : Yl x Q := by
  obtain ⟨a, e, ha⟩ := h; exact ⟨a, e, g a ha⟩
theorem Yl.ret {α : Type} {a : α} {P : α → Prop} (h : P a) : Yl (some a) P := ⟨a, rfl, h⟩
theorem Yl.ite {α : Type} {c : Prop} [i : Decidable c] {t e : Option α} {P : α → Prop} (ht : c → Yl t P) (he : ¬ c → Yl e P) : Yl (@ite _ c i t e) P := by
  by_cases h : c
  · rw [if_pos h]; exact ht h
  · rw [if_neg h]; exact he h
theorem Yl.cond {α : Type} {c : Bool} {t e : Option α} {P : α → Prop} (ht : c = true → Yl t P) (he : c = false → Yl e P) : Yl (cond c t e) P := by
  cases c
  · exact he rfl
  · exact ht rfl
def By (l : List Int) : Prop := ∀ y ∈ l, 0 ≤ y ∧ y ≤ 255
theorem By.of {l : List Int} (h : ∀ y ∈ l, (Lit.int .u8 y).wf = true) : By l := by
  intro y hy; have h := h y hy
  unfold Lit.wf at h; rw [Bool.and_eq_true] at h
  have h1 := of_decide_eq_true h.1; have h2 := of_decide_eq_true h.2
  exact ⟨h1, h2⟩
theorem byteBits (q : Int) : 0 ≤ band .u64 q 255 ∧ band .u64 q 255 ≤ 255 := by
  have h : (BitVec.ofInt 64 q &&& BitVec.ofInt 64 255).toNat ≤ 255 := by
    rw [BitVec.toNat_and]
    exact Nat.le_trans Nat.and_le_right (by decide)
  change 0 ≤ IntKind.wrap .u64 ((((BitVec.ofInt 64 q &&& BitVec.ofInt 64 255).toNat : Nat)) : Int) ∧ IntKind.wrap .u64 ((((BitVec.ofInt 64 q &&& BitVec.ofInt 64 255).toNat : Nat)) : Int) ≤ 255
  generalize (BitVec.ofInt 64 q &&& BitVec.ofInt 64 255).toNat = n at *
  unfold IntKind.wrap
  simp [IntKind.signed, IntKind.bits]
  omega
theorem next_ok (k : Nat) {l : List Int} {a : Int} (s : Int) (hb : By l) (h : 0 ≤ a ∧ a ≤ 1000000000000000) (hk : 5 ≤ k) : Yl (spec_l1Cur_next.f k l a s) fun r => r.2.1 = l ∧ r.2.2.1 = a + 1 ∧ 0 ≤ r.1 ∧ r.1 ≤ 255 := by
  obtain ⟨k, rfl⟩ := succ_of (show 0 < k by omega)
  have key : ∀ b : Int, 0 ≤ b ∧ b ≤ 255 → Yl (spec_l1Cur_next.l2 (k + 1) l a s b) fun r => r.2.1 = l ∧ r.2.2.1 = a + 1 ∧ 0 ≤ r.1 ∧ r.1 ≤ 255 := fun b hbb => by
    simp only [spec_l1Cur_next.l2, spec_l1Cur_next.b2]
    rw [w64_id (x := a + 1) (by omega)]
    refine Yl.ite (fun _ => Yl.ret ⟨rfl, rfl, hbb⟩) fun _ => ?_
    unfold shr; rw [if_neg (by omega)]; simp only [Option.bind_some]
    refine Yl.ret ⟨rfl, rfl, ?_⟩
    have := byteBits ((IntKind.u64.wrap (IntKind.u64.wrap (IntKind.u64.wrap (s * 6364136223846793005) + IntKind.u64.wrap b) + 102323)).fdiv (2 ^ min (Int.toNat 40) IntKind.u64.bits))
    rw [w64_id (by omega)]; exact this
  unfold spec_l1Cur_next.f spec_l1Cur_next.m
  refine Yl.ite (fun hlt => ?_) fun _ => key 0 (by omega)
  rw [chk_int (by omega)]; simp only [Option.bind_some]
  have hi : a.toNat < l.length := by omega
  have := hb _ (List.getElem_mem hi)
  rw [getD_lt hi, w64_id (by omega)]
  exact key _ this
theorem pick_ok (k : Nat) {l : List Int} {a : Int} (s n : Int) (hb : By l) (h : 0 ≤ a ∧ a ≤ 1000000000000) (hk : 5 ≤ k) : Yl (spec_l1Cur_pick.f k l a s n) fun r => r.2.1 = l ∧ a ≤ r.2.2.1 ∧ r.2.2.1 ≤ a + 2 ∧ 0 ≤ r.1 ∧ (r.1 = 0 ∨ r.1 < n) ∧ r.1 ≤ 65535 := by
  unfold spec_l1Cur_pick.f spec_l1Cur_pick.m
  refine Yl.ite (fun _ => Yl.ret ⟨rfl, by simp, by dsimp only; omega, by simp⟩) fun hn => ?_
  refine Yl.bind (next_ok k s hb (by omega) hk) ?_
  rintro ⟨b, l', a', s'⟩ ⟨e1, e2, e3, e4⟩
  dsimp only at *; subst e1; subst e2
  refine Yl.ite (fun hn2 => ?_) fun _ => ?_
  · refine Yl.bind (next_ok k s' hb (by omega) hk) ?_
    rintro ⟨c, l2, a2, s2⟩ ⟨f1, f2, f3, f4⟩
    dsimp only at *; subst f1; subst f2
    rw [w64_id (x := b * 256) (by omega), w64_id (by omega)]
    unfold rem; rw [if_neg (by omega)]; simp only [Option.bind_some]
    rw [Int.tmod_eq_emod_of_nonneg (by omega)]
    have := Int.emod_nonneg (b * 256 + c) (show n ≠ 0 by omega)
    have := Int.emod_lt_of_pos (b * 256 + c) (show 0 < n by omega)
    have : (b * 256 + c) % n ≤ b * 256 + c := by
      rcases Int.lt_or_le (b * 256 + c) n with h | h
      · rw [Int.emod_eq_of_lt (by omega) h]; omega
      · omega
    exact Yl.ret ⟨rfl, by dsimp only; omega, by dsimp only; omega, by omega, by omega, by dsimp only; omega⟩
  · unfold rem; rw [if_neg (by omega)]; simp only [Option.bind_some]
    rw [Int.tmod_eq_emod_of_nonneg (by omega)]
    have := Int.emod_nonneg b (show n ≠ 0 by omega)
    have := Int.emod_lt_of_pos b (show 0 < n by omega)
    exact Yl.ret ⟨rfl, by dsimp only; omega, by dsimp only; omega, by omega, by omega, by dsimp only; omega⟩
theorem one_ok (k : Nat) {l : List Int} {a : Int} (s n : Int) (hb : By l) (h : 0 ≤ a ∧ a ≤ 1000000000000) (hk : 5 ≤ k) : Yl (spec_l1Cur_one.f k l a s n) fun r => r.2.1 = l ∧ a ≤ r.2.2.1 ∧ r.2.2.1 ≤ a + 2 := by
  unfold spec_l1Cur_one.f spec_l1Cur_one.m
  refine Yl.bind (pick_ok k s n hb h hk) ?_
  rintro ⟨b, l', a', s'⟩ ⟨e1, e2, e3, e4⟩
  exact Yl.ret ⟨e1, e2, e3⟩
theorem among_ok (k : Nat) {l : List Int} {a : Int} (s : Int) {xs : List Int} (lo hi : Int) (hx : 0 < xs.length ∧ xs.length ≤ 60000) (hm : ∀ x ∈ xs, lo ≤ x ∧ x ≤ hi) (hb : By l) (h : 0 ≤ a ∧ a ≤ 1000000000000) (hk : 5 ≤ k) : Yl (spec_l1Cur_among_2.f k l a s xs) fun r => r.2.1 = l ∧ r.2.2.2.2 = xs ∧ a ≤ r.2.2.1 ∧ r.2.2.1 ≤ a + 2 ∧ lo ≤ r.1 ∧ r.1 ≤ hi := by
  unfold spec_l1Cur_among_2.f spec_l1Cur_among_2.m
  refine Yl.bind (pick_ok k s _ hb h hk) ?_
  rintro ⟨b, l', a', s'⟩ ⟨e1, e2, e3, e4, e5, e6⟩
  dsimp only at *
  rw [chk_int (by omega)]; simp only [Option.bind_some]
  have hi : b.toNat < xs.length := by omega
  have := hm _ (List.getElem_mem hi)
  rw [getD_lt hi]
  exact Yl.ret ⟨e1, rfl, e2, e3, this⟩
theorem among_any (k : Nat) {l : List Int} {a : Int} (s : Int) {xs : List Int} (hx : 0 < xs.length ∧ xs.length ≤ 60000) (hb : By l) (h : 0 ≤ a ∧ a ≤ 1000000000000) (hk : 5 ≤ k) : Yl (spec_l1Cur_among_2.f k l a s xs) fun r => r.2.1 = l ∧ r.2.2.2.2 = xs ∧ a ≤ r.2.2.1 ∧ r.2.2.1 ≤ a + 2 := by
  unfold spec_l1Cur_among_2.f spec_l1Cur_among_2.m
  refine Yl.bind (pick_ok k s _ hb h hk) ?_
  rintro ⟨b, l', a', s'⟩ ⟨e1, e2, e3, e4, e5, e6⟩
  dsimp only at *
  rw [chk_int (by omega)]; simp only [Option.bind_some]
  exact Yl.ret ⟨e1, rfl, e2, e3⟩
theorem quo2 {x : Int} {β : Type} {f : Int → Option β} {P : β → Prop} (h : ∀ q, Yl (f q) P) : Yl ((quo .i64 x 2).bind f) P := by
  unfold quo; rw [if_neg (by omega)]; exact h _
theorem plain_l (w h : Nat) (hw : w ≤ 16) (hh : h ≤ 16) : ∀ (d k i : Nat) (l : List Int) (a s : Int) (kn : List Int), i + d = w * h → kn.length = i → (∀ x ∈ kn, 0 ≤ x ∧ x ≤ 5) → By l → 0 ≤ a ∧ a + 4 * d ≤ 1000000000 → 20 + d ≤ k → Yl (spec_l1Cur_plain.l4 k l a s w h 0 0 [] w h kn (i : Int)) fun r => r.1 = (w : Int) ∧ r.2.1 = (h : Int) ∧ r.2.2.2.1 = l ∧ (∀ x ∈ r.2.2.1, 0 ≤ x ∧ x ≤ 5) ∧ (r.2.2.1.length = w * h ∧ a ≤ r.2.2.2.2.1 ∧ r.2.2.2.2.1 ≤ a + 4 * d) := by
  have hN : w * h ≤ 256 := Nat.le_trans (Nat.mul_le_mul hw hh) (by decide)
  have hc : ((w : Int) * (h : Int)) = ((w * h : Nat) : Int) := by rw [Int.natCast_mul]
  intro d
  induction d with
  | zero =>
    intro k i l a s kn h1 h2 hx hb h3 h4
    obtain ⟨k, rfl⟩ := succ_of (show 0 < k by omega)
    simp only [spec_l1Cur_plain.l4, spec_l1Cur_plain.b4]
    rw [hc, w64_id (by omega), if_neg (by omega)]
    exact Yl.ret ⟨rfl, rfl, rfl, hx, by dsimp only; omega⟩
  | succ d ih =>
    intro k i l a s kn h1 h2 hx hb h3 h4
    obtain ⟨k, rfl⟩ := succ_of (show 0 < k by omega)
    simp only [spec_l1Cur_plain.l4, spec_l1Cur_plain.b4]
    have hsnoc : ∀ x : Int, 0 ≤ x ∧ x ≤ 5 → ∀ y ∈ kn ++ [x], 0 ≤ y ∧ y ≤ 5 := fun x hx0 y hy => by
      rcases List.mem_append.1 hy with h | h
      · exact hx y h
      · rw [List.mem_singleton] at h; subst h; exact hx0
    rw [hc, w64_id (by omega), if_pos (by omega), w64_id (x := (i : Int) + 1) (by omega), show ((i : Int) + 1) = ((i + 1 : Nat) : Int) by omega]
    (refine Yl.bind (among_ok _ _ 0 5 (by simp) (by intro x hx; simp at hx; omega) (by assumption) (by omega) (by omega)) ?_; rintro ⟨vq, lq, aq, sq, xq⟩ ⟨eq1, eq2, eq3, eq4, eq5, eq6⟩; dsimp only at *; subst eq1; subst eq2)
    refine Yl.ite (fun hwi => ?_) fun _ => ?_
    · (refine Yl.bind (one_ok _ _ _ (by assumption) (by omega) (by omega)) ?_; rintro ⟨vq, lq, aq, sq⟩ ⟨eq1, eq2, eq3⟩; dsimp only at *; subst eq1)
      refine Yl.cond (fun _ => ?_) fun _ => ?_
      · have hw1 : 1 ≤ w := by
          rcases Nat.eq_zero_or_pos w with h | h
          · subst h; rw [Nat.zero_mul] at h1; omega
          · exact h
        rw [w64_id (by omega), chk_int (by omega)]; simp only [Option.bind_some]
        rw [app_ok (by simp; omega)]; simp only [Option.bind_some]
        refine (ih k (i + 1) _ _ _ _ (by omega) (by simp; omega) (hsnoc _ ?_) (by assumption) (by omega) (by omega)).mono fun r hr => ⟨hr.1, hr.2.1, hr.2.2.1, hr.2.2.2.1, by omega⟩
        rw [getD_lt (by omega)]; exact hx _ (List.getElem_mem _)
      · rw [app_ok (by simp; omega)]; simp only [Option.bind_some]
        exact (ih k (i + 1) _ _ _ _ (by omega) (by simp; omega) (hsnoc _ (by omega)) (by assumption) (by omega) (by omega)).mono fun r hr => ⟨hr.1, hr.2.1, hr.2.2.1, hr.2.2.2.1, by omega⟩
    · rw [app_ok (by simp; omega)]; simp only [Option.bind_some]
      exact (ih k (i + 1) _ _ _ _ (by omega) (by simp; omega) (hsnoc _ (by omega)) (by assumption) (by omega) (by omega)).mono fun r hr => ⟨hr.1, hr.2.1, hr.2.2.1, hr.2.2.2.1, by omega⟩
theorem plain_ok (k : Nat) {l : List Int} {a : Int} (s : Int) {w h : Int} (hw : 0 ≤ w ∧ w ≤ 16) (hh : 0 ≤ h ∧ h ≤ 16) (hb : By l) (ha : 0 ≤ a ∧ a ≤ 100000000) (hk : 1000 ≤ k) : Yl (spec_l1Cur_plain.f k l a s w h) fun r => r.1 = w ∧ r.2.1 = h ∧ r.2.2.2.1 = l ∧ (∀ x ∈ r.2.2.1, 0 ≤ x ∧ x ≤ 5) ∧ (r.2.2.1.length : Int) = w * h ∧ (r.2.2.1.length ≤ 256 ∧ a ≤ r.2.2.2.2.1 ∧ r.2.2.2.2.1 ≤ a + 1100) := by
  obtain ⟨w, rfl⟩ := Int.eq_ofNat_of_zero_le hw.1
  obtain ⟨h, rfl⟩ := Int.eq_ofNat_of_zero_le hh.1
  have hN : w * h ≤ 256 := Nat.le_trans (Nat.mul_le_mul (show w ≤ 16 by omega) (show h ≤ 16 by omega)) (by decide)
  unfold spec_l1Cur_plain.f spec_l1Cur_plain.m
  refine (plain_l w h (by omega) (by omega) (w * h) k 0 l a s [] (by omega) rfl (by simp) hb (by omega) (by omega)).mono fun r hr => ⟨hr.1, hr.2.1, hr.2.2.1, hr.2.2.2.1, ?_, by omega⟩
  have := hr.2.2.2.2.1
  rw [this, Int.natCast_mul]
theorem good_plain {w h : Int} {kn : List Int} (hw : 1 ≤ w ∧ w ≤ 8) (hh : 1 ≤ h ∧ h ≤ 8) (hx : ∀ x ∈ kn, 0 ≤ x ∧ x ≤ 5) (hl : (kn.length : Int) = w * h) : goodB w h kn = true := by
  unfold goodB
  simp only [Bool.and_eq_true, decide_eq_true_eq, List.all_eq_true, inB_iff]
  exact ⟨⟨⟨hw, hh⟩, hl⟩, fun x h => inB_of (hx x h)⟩
theorem chart_ok (k : Nat) {l : List Int} {a : Int} (s : Int) (hb : By l) (ha : 0 ≤ a ∧ a ≤ 1000000) (hk : 2000 ≤ k) : Yl (spec_l1Cur_chart.f k l a s) fun r => r.2.2.2.1 = l ∧ (r.2.2.1.length ≤ 300 ∧ -1 ≤ r.1 ∧ r.1 ≤ 9 ∧ -1 ≤ r.2.1 ∧ r.2.1 ≤ 9 ∧ a ≤ r.2.2.2.2.1 ∧ r.2.2.2.2.1 ≤ a + 3000) := by
  unfold spec_l1Cur_chart.f spec_l1Cur_chart.m
  refine Yl.bind (among_ok _ _ 1 8 (by simp) (by intro x hx; simp at hx; omega) hb (by omega) (by omega)) ?_
  rintro ⟨w, l', a', s', x'⟩ ⟨e1, e2, e3, e4, e5, e6⟩
  dsimp only at *; subst e1
  refine Yl.bind (among_ok _ _ 1 8 (by simp) (by intro x hx; simp at hx; omega) hb (by omega) (by omega)) ?_
  rintro ⟨h, l', a2, s2, x2⟩ ⟨e1, f2, f3, f4, f5, f6⟩
  dsimp only at *; subst e1
  refine Yl.bind (plain_ok k s2 (w := w) (h := h) (by omega) (by omega) hb (by omega) (by omega)) ?_
  rintro ⟨w', h', kn, l', a3, s3⟩ ⟨g1, g2, e1, g3, g4, g5⟩
  dsimp only at *; subst e1; subst g1; subst g2
  have hm := mul_bd (w := w') (h := h') (by omega) (by omega)
  refine Yl.bind (pick_ok _ _ _ hb (by omega) (by omega)) ?_
  rintro ⟨n, l', a4, s4⟩ ⟨e1, i2, i3, i4, i5, i6⟩
  dsimp only at *; subst e1
  refine Yl.ite (fun _ => ?_) fun _ => ?_
  · refine Yl.bind (pick_ok _ _ _ hb (by omega) (by omega)) ?_
    rintro ⟨m, l', a5, s5⟩ ⟨e1, j2, j3, j4, j5, j6⟩
    dsimp only at *; subst e1
    (refine Yl.bind (among_any _ _ (by simp) (by assumption) (by omega) (by omega)) ?_; rintro ⟨vq, lq, aq, sq, xq⟩ ⟨eq1, eq2, eq3, eq4⟩; dsimp only at *; subst eq1; subst eq2)
    rw [chk_int (by omega)]; simp only [Option.bind_some]
    exact Yl.ret ⟨rfl, by dsimp only; rw [List.length_set]; omega⟩
  refine Yl.ite (fun _ => ?_) fun _ => ?_
  · rw [app_ok (by simp; omega)]; simp only [Option.bind_some]
    exact Yl.ret ⟨rfl, by dsimp only; rw [List.length_append, List.length_singleton]; omega⟩
  refine Yl.ite (fun _ => ?_) fun _ => ?_
  · refine Yl.bind (among_ok _ _ 0 9 (by simp) (by intro x hx; simp at hx; omega) hb (by omega) (by omega)) ?_
    rintro ⟨w2, l', a6, s6, x6⟩ ⟨e1, n2, n3, n4, n5, n6⟩
    dsimp only at *; subst e1
    refine Yl.bind (plain_ok k s6 (w := w2) (h := 1) (by omega) (by omega) hb (by omega) (by omega)) ?_
    rintro ⟨w', h', kn, l', a3, s3⟩ ⟨p1, p2, e1, p3, p4, p5⟩
    dsimp only at *; subst e1; subst p1; subst p2
    exact Yl.ret ⟨rfl, by dsimp only; omega⟩
  exact Yl.ret ⟨rfl, by dsimp only; omega⟩
theorem spoilt_ok (k : Nat) {l : List Int} {a : Int} (s : Int) (t w : List UInt8) (ht : t.length ≤ 50000) (hw : 1 ≤ w.length ∧ w.length ≤ 1000) (hb : By l) (h : 0 ≤ a ∧ a ≤ 1000000) (hk : 5 ≤ k) : Yl (spec_l1Cur_spoilt.f k l a s (bs t) (bs w)) fun r => r.1.size ≤ t.length + 2 ∧ r.2.1 = l ∧ a ≤ r.2.2.1 ∧ r.2.2.1 ≤ a + 6 := by
  unfold spec_l1Cur_spoilt.f spec_l1Cur_spoilt.m
  refine Yl.ite (fun _ => ?_) fun hne => ?_
  · rw [bs_size, cutTo_int (by omega), Option.bind_some, bs_extract]
    refine Yl.ret ⟨?_, rfl, by dsimp only; omega, by dsimp only; omega⟩
    dsimp only
    rw [bs_size, List.length_take]
    show min (1 - 0) _ ≤ _
    omega
  have ht0 : 0 < t.length := by
    rcases Nat.eq_zero_or_pos t.length with h0 | h0
    · exact absurd (by rw [List.length_eq_zero_iff.1 h0]; rfl) hne
    · exact h0
  refine Yl.bind (pick_ok k s _ hb (by omega) hk) ?_
  rintro ⟨p, l1, a1, s1⟩ ⟨p1, p2, p3, p4, p5, p6⟩
  rw [bs_size] at p5
  dsimp only at *; subst p1
  refine Yl.bind (pick_ok k s1 _ hb (by omega) hk) ?_
  rintro ⟨q, l2, a2, s2⟩ ⟨q1, q2, q3, q4, q5, q6⟩
  rw [bs_size] at q5
  dsimp only at *; subst q1
  rw [bs_size, bs_size, cut_int (by omega), Option.bind_some]
  dsimp only
  have hw2 : (bs w).extract q.toNat (q.toNat + (((w.length : Nat) : Int).toNat - q.toNat)) = bs (w.drop q.toNat) := by
    rw [bs_extract, bs_inj, List.take_of_length_le (by simp)]
  rw [hw2, bs_size, cutTo_int (by simp; omega), Option.bind_some]
  have hw3 : (bs (w.drop q.toNat)).extract 0 ((1 : Int)).toNat = bs ((w.drop q.toNat).take 1) := by
    rw [bs_extract]
    rfl
  rw [hw3]
  have hw4 : ((w.drop q.toNat).take 1).length ≤ 1 := by rw [List.length_take]; omega
  generalize (w.drop q.toNat).take 1 = w1 at hw4
  refine Yl.bind (pick_ok k s2 3 hb (by omega) hk) ?_
  rintro ⟨z, l3, a3, s3⟩ ⟨z1, z2, z3, z4, z5, z6⟩
  dsimp only at *; subst z1
  obtain ⟨i, rfl⟩ : ∃ i : Nat, p = i := ⟨p.toNat, by omega⟩
  have e1 : (bs t).extract 0 ((i : Int)).toNat = bs (t.take i) := by rw [bs_extract]; simp
  have e2 : (bs t).extract ((i : Int)).toNat (((i : Int)).toNat + (((t.length : Nat) : Int).toNat - ((i : Int)).toNat)) = bs (t.drop i) := by
    rw [bs_extract, bs_inj, List.take_of_length_le (by simp)]
    simp
  have e3 : (bs t).extract ((i : Int) + 1).toNat (((i : Int) + 1).toNat + (((t.length : Nat) : Int).toNat - ((i : Int) + 1).toNat)) = bs (t.drop (i + 1)) := by
    rw [bs_extract, bs_inj, List.take_of_length_le (by simp)]
    congr 1
  refine Yl.ite (fun _ => ?_) fun _ => ?_
  · rw [cutTo_int (by omega), Option.bind_some, e1, catS_bs (by simp; omega), Option.bind_some, cut_int (by omega), Option.bind_some]
    dsimp only
    rw [e2, catS_bs (by simp; omega), Option.bind_some]
    refine Yl.ret ⟨?_, rfl, by dsimp only; omega, by dsimp only; omega⟩
    dsimp only
    rw [bs_size]
    simp only [List.length_append, List.length_take, List.length_drop]
    omega
  refine Yl.ite (fun _ => ?_) fun _ => ?_
  · rw [cutTo_int (by omega), Option.bind_some, e1, catS_bs (by simp; omega), Option.bind_some, w64_id (by omega), cut_int (by omega), Option.bind_some]
    dsimp only
    rw [e3, catS_bs (by simp; omega), Option.bind_some]
    refine Yl.ret ⟨?_, rfl, by dsimp only; omega, by dsimp only; omega⟩
    dsimp only
    rw [bs_size]
    simp only [List.length_append, List.length_take, List.length_drop]
    omega
  · rw [cutTo_int (by omega), Option.bind_some, w64_id (by omega), cut_int (by omega), Option.bind_some]
    dsimp only
    rw [e1, e3, catS_bs (by simp; omega), Option.bind_some]
    refine Yl.ret ⟨?_, rfl, by dsimp only; omega, by dsimp only; omega⟩
    dsimp only
    rw [bs_size]
    simp only [List.length_append, List.length_take, List.length_drop]
    omega
theorem vInts_self (k : Nat) (c : List Int) (hl : c.length ≤ 1000) (hk : 1100 ≤ k) : laws_vInts.f k c c = some true := by
  unfold laws_vInts.f laws_vInts.m
  have h := (all_loop (L := fun k i => laws_vInts.l6 k c c (i : Int)) (n := c.length) (K0 := 20) (ok := fun _ => true) (f := some false) (fun k i hk hi => ?_)) c.length k 0 (by omega) (by omega)
  · rw [show ((0 : Nat) : Int) = 0 from rfl] at h
    simp only [Bool.not_true, Bool.not_false, cond_true, cond_false, Bool.true_and, Bool.false_and, Bool.and_true, Bool.and_false, Bool.false_eq_true, Bool.true_or, Bool.or_true, Bool.false_or, Bool.or_false, Bool.or_self, Bool.and_self, decide_true, decide_false, if_true, if_false, not_true, not_false_eq_true, not_true_eq_false, false_or, or_false, true_and, and_true, Bool.not_eq_true, Bool.true_eq_false, reduceCtorEq]
    exact h.1 (some true) (fun k hk => by simp (disch := omega) only [laws_vInts.l6, laws_vInts.b6, if_neg]) (fun _ _ _ => rfl)
  · simp (disch := omega) only [laws_vInts.l6, laws_vInts.b6, if_pos, chk_nat, Option.bind_some, w64_id, Bool.not_true, Bool.not_false, cond_true, cond_false, Bool.true_and, Bool.false_and, Bool.and_true, Bool.and_false, Bool.false_eq_true, Bool.true_or, Bool.or_true, Bool.false_or, Bool.or_false, Bool.or_self, Bool.and_self, decide_true, decide_false, if_true, if_false, not_true, not_false_eq_true, not_true_eq_false, false_or, or_false, true_and, and_true, Bool.not_eq_true, Bool.true_eq_false, reduceCtorEq, Int.natCast_add, Int.cast_ofNat_Int]
theorem vChart_self (k : Nat) (w h : Int) (l : List Int) (hl : l.length ≤ 1000) (hk : 1100 ≤ k) : laws_vChart.f k w h l w h l = some true := by
  unfold laws_vChart.f laws_vChart.m
  rw [vInts_self k l hl hk]; simp only [Bool.not_true, Bool.not_false, cond_true, cond_false, Bool.true_and, Bool.false_and, Bool.and_true, Bool.and_false, Bool.false_eq_true, Bool.true_or, Bool.or_true, Bool.false_or, Bool.or_false, Bool.or_self, Bool.and_self, decide_true, decide_false, if_true, if_false, not_true, not_false_eq_true, not_true_eq_false, false_or, or_false, true_and, and_true, Bool.not_eq_true, Bool.true_eq_false, reduceCtorEq, Option.bind_some]
theorem drawIs_ok (k : Nat) {l : List Int} (hb : By l) (hk : 2000 ≤ k) : Yl (spec_DrawIsChart.f k l) fun r => r.2.2.length ≤ 300 ∧ -1 ≤ r.1 ∧ r.1 ≤ 9 ∧ -1 ≤ r.2.1 ∧ r.2.1 ≤ 9 := by
  unfold spec_DrawIsChart.f spec_DrawIsChart.m
  refine Yl.bind (chart_ok k 0 hb (by omega) hk) ?_
  rintro ⟨w, h, kn, l1, a1, s1⟩ ⟨h1, h2, h3, h4, h5, h6, h7, h8⟩
  exact Yl.ret ⟨h2, h3, h4, h5, h6⟩
theorem drawParse_ok (k : Nat) {l : List Int} (hb : By l) (hk : 2000 ≤ k) : Yl (spec_DrawParseChart.f k l) fun r => r.size ≤ 100 := by
  obtain ⟨k, rfl⟩ := succ_of (show 0 < k by omega)
  have key : ∀ (t : List UInt8) (a s : Int), t.length ≤ 80 → 0 ≤ a → a ≤ 10000 → Yl (spec_DrawParseChart.l3 (k + 1) l a s (bs t)) fun r => r.size ≤ 100 := by
    intro t a s ht h1 h2
    simp only [spec_DrawParseChart.l3, spec_DrawParseChart.b3]
    refine Yl.bind (one_ok k s 4 hb (by omega) (by omega)) ?_
    rintro ⟨b, l1, a1, s1⟩ ⟨e1, e2, e3⟩
    dsimp only at *; subst e1
    refine Yl.cond (fun _ => ?_) fun _ => Yl.ret (by rw [bs_size]; omega)
    rw [show (⟨#[97, 98, 103, 47]⟩ : ByteArray) = bs [97, 98, 103, 47] from rfl]
    refine Yl.bind (spoilt_ok k s1 t [97, 98, 103, 47] (by omega) (by simp) hb (by omega) (by omega)) ?_
    rintro ⟨u, l2, a2, s2⟩ ⟨e4, e5, e6, e7⟩
    dsimp only at *
    exact Yl.ret (by omega)
  unfold spec_DrawParseChart.f spec_DrawParseChart.m
  refine Yl.bind (chart_ok (k + 1) 0 hb (by omega) (by omega)) ?_
  rintro ⟨w, h, kn, l1, a1, s1⟩ ⟨h1, h2, h3, h4, h5, h6, h7, h8⟩
  dsimp only at *; subst h1
  rw [l2Good_eq (k + 1) w h kn (by omega) (by omega), Option.bind_some]
  refine Yl.cond (fun hg => ?_) fun _ => ?_
  · obtain ⟨g1, g2, g3, g4⟩ := good_of hg
    have := mul_bd g1 g2
    obtain ⟨w, rfl⟩ := Int.eq_ofNat_of_zero_le (show 0 ≤ w by omega)
    obtain ⟨h, rfl⟩ := Int.eq_ofNat_of_zero_le (show 0 ≤ h by omega)
    have hN := lenN g3
    rw [l2Text_eq (k + 1) (by omega) (by omega) g4 (by omega), Option.bind_some]
    refine key _ a1 s1 ?_ (by omega) (by omega)
    have h9 := parOk_short (l := txt w 0 kn) (by
      have := par_txt hg
      unfold parR at this
      by_cases ho : parOk (txt w 0 kn) = true
      · exact ho
      · rw [if_neg ho] at this
        cases this)
    omega
  · exact key [97, 97, 98, 47, 98, 98, 97] a1 s1 (by simp) (by omega) (by omega)
theorem drawChange_ok (k : Nat) {l : List Int} (hb : By l) (hk : 2000 ≤ k) : Yl (spec_DrawChangeColor.f k l) fun r => r.2.2.1.length ≤ 300 := by
  unfold spec_DrawChangeColor.f spec_DrawChangeColor.m spec_l1Cur_color.f spec_l1Cur_color.m
  refine Yl.bind (chart_ok k 0 hb (by omega) hk) ?_
  rintro ⟨w, h, kn, l1, a1, s1⟩ ⟨h1, h2, h3, h4, h5, h6, h7, h8⟩
  dsimp only at *; subst h1
  refine Yl.bind (Yl.bind (among_any k s1 (by simp) hb (by omega) (by omega)) (Q := fun r => r.2.1 = l1 ∧ 0 ≤ r.2.2.1 ∧ r.2.2.1 ≤ 10000) ?_) ?_
  · rintro ⟨v, l2, a2, s2, x2⟩ ⟨e1, e2, e3, e4⟩
    exact Yl.ret ⟨e1, by dsimp only at *; omega, by dsimp only at *; omega⟩
  rintro ⟨v, l2, a2, s2⟩ ⟨e1, e2, e3⟩
  dsimp only at *; subst e1
  refine Yl.bind (Yl.bind (among_any k s2 (by simp) hb (by omega) (by omega)) (Q := fun r => True) ?_) ?_
  · rintro ⟨v, l2, a2, s2, x2⟩ _
    exact Yl.ret trivial
  rintro ⟨v2, l2, a2, s2⟩ _
  exact Yl.ret h2
theorem cl30 {l0 : List Int} (hb : By l0) (k : Nat) (hk : 5000 ≤ k) : laws_FnCharts.l30 k l0 = some true := by
  obtain ⟨k, rfl⟩ := succ_of (show 0 < k by omega)
  show laws_FnCharts.b30 k l0 = some true
  obtain ⟨⟨w, h, kn⟩, he, d1, d2, d3, d4, d5⟩ := drawIs_ok k hb (by omega)
  dsimp only at *
  obtain ⟨m, a, b, q1, q2, q3⟩ := longest_eq k w h (l := kn) (by omega) (by omega)
  unfold laws_FnCharts.b30 spec_DrawLongestRun.f spec_DrawLongestRun.m
  rw [he, Option.bind_some, Option.bind_some, q2, Option.bind_some, q1, Option.bind_some, if_pos rfl, if_pos rfl, if_pos rfl]
  cases b
  · rfl
  · obtain ⟨r1, r2⟩ := q3 rfl
    rw [show (!true) = false from rfl, cond_false, if_pos r1, decide_eq_true r2]
theorem cl31 {l0 : List Int} (hb : By l0) (k : Nat) (hk : 6000 ≤ k) (w h w2 h2 a b : Int) (l l2 : List Int) (hl : l.length ≤ 300) (hc : chgR w h l a b = (w2, h2, l2, true)) : laws_FnCharts.l31 k l0 w h l a b w2 h2 l2 (decide (¬ a = b)) = some true := by
  obtain ⟨k, rfl⟩ := succ_of (show 0 < k by omega)
  have hL := cl30 hb k (by omega)
  show laws_FnCharts.b31 (laws_FnCharts.l30 k) k l0 w h l a b w2 h2 l2 (decide (¬ a = b)) = some true
  unfold laws_FnCharts.b31
  by_cases hab : a = b
  · rw [decide_eq_false (fun q => q hab), cond_false, hL]
  rw [decide_eq_true hab, cond_true]
  unfold chgR at hc
  split at hc
  · rename_i hg
    simp only [Bool.and_eq_true] at hg
    obtain ⟨⟨g1, ga⟩, gb⟩ := hg
    simp only [Prod.mk.injEq, and_true] at hc
    obtain ⟨rfl, rfl, rfl⟩ := hc
    obtain ⟨g2, g3, g4, g5⟩ := good_of g1
    have ca : 0 ≤ a ∧ a ≤ 5 := inB_iff.1 ga
    have cb : 0 ≤ b ∧ b ≤ 5 := inB_iff.1 gb
    have hlen2 : (chgL a b l).length = l.length := List.length_map _
    have hg2 : goodB w h (chgL a b l) = true := good_plain g2 g3 (fun x hx => by
      obtain ⟨y, hy, rfl⟩ := List.mem_map.1 hx
      by_cases e : y = a
      · rw [if_pos e]; exact cb
      · rw [if_neg e]; exact g5 y hy) (by rw [hlen2]; exact g4)
    rw [iCount_eq k w h (by omega) (by omega), iCount_eq k w h (l := l) (by omega) (by omega), if_pos hg2, if_pos g1]
    simp only [Option.bind_some]
    have c1 : chk (cntL (chgL a b l)).length a = some a.toNat := chk_int (by show 0 ≤ a ∧ a < 6; omega)
    have c2 : chk (cntL (chgL a b l)).length b = some b.toNat := chk_int (by show 0 ≤ b ∧ b < 6; omega)
    have c3 : chk (cntL l).length a = some a.toNat := chk_int (by show 0 ≤ a ∧ a < 6; omega)
    have c4 : chk (cntL l).length b = some b.toNat := chk_int (by show 0 ≤ b ∧ b < 6; omega)
    have l1 : ((cntL (chgL a b l)).length : Int) = 6 := rfl
    have l2 : ((cntL l).length : Int) = 6 := rfl
    have n1 : l.count a ≤ l.length := List.count_le_length
    have n2 : l.count b ≤ l.length := List.count_le_length
    rw [show (!true) = false from rfl, cond_false, cond_false, if_neg (fun q => q l1), if_neg (fun q => q l2), c1, Option.bind_some, cntL_get _ ca, chg_from hab, if_neg (fun q => q rfl), c2, Option.bind_some, c3, Option.bind_some, c4, Option.bind_some, cntL_get _ cb, cntL_get _ ca, cntL_get _ cb, chg_to hab, w64_id (by omega), if_neg (fun q => q (by omega)), hL]
  · cases hc
theorem cl20 {l0 : List Int} (hb : By l0) (k : Nat) (hk : 7000 ≤ k) : laws_FnCharts.l20 k l0 = some true := by
  obtain ⟨k, rfl⟩ := succ_of (show 0 < k by omega)
  show laws_FnCharts.b20 (laws_FnCharts.l31 k) k l0 = some true
  obtain ⟨⟨w, h, kn, a, b⟩, he, d1⟩ := drawChange_ok k hb (by omega)
  dsimp only at *
  unfold laws_FnCharts.b20
  rw [he, Option.bind_some]
  dsimp only
  rw [iChange_eq k w h a b (by omega) (by omega), Option.bind_some, sChange_eq k w h a b (by omega) (by omega), Option.bind_some, if_neg (fun q => q rfl)]
  rcases hR : chgR w h kn a b with ⟨w2, h2, l2, t⟩
  dsimp only
  have hl2 : l2.length ≤ 300 := by
    unfold chgR at hR
    split at hR
    · simp only [Prod.mk.injEq] at hR
      obtain ⟨_, _, rfl, _⟩ := hR
      unfold chgL
      rw [List.length_map]; exact d1
    · simp only [Prod.mk.injEq] at hR
      obtain ⟨_, _, rfl, _⟩ := hR
      simp
  rw [vChart_self k w2 h2 l2 (by omega) (by omega), Option.bind_some, show (!true) = false from rfl, cond_false]
  cases t
  · obtain ⟨k, rfl⟩ := succ_of (show 0 < k by omega)
    show laws_FnCharts.b31 (laws_FnCharts.l30 k) k l0 w h kn a b w2 h2 l2 false = some true
    unfold laws_FnCharts.b31
    rw [cond_false]
    exact cl30 hb k (by omega)
  · rw [cond_true]
    exact cl31 hb k (by omega) w h w2 h2 a b kn l2 d1 hR
theorem cl14 {l0 : List Int} (hb : By l0) (k : Nat) (hk : 8000 ≤ k) : laws_FnCharts.l14 k l0 = some true := by
  obtain ⟨k, rfl⟩ := succ_of (show 0 < k by omega)
  have hL20 := cl20 hb k (by omega)
  show laws_FnCharts.b14 (laws_FnCharts.l20 k) k l0 = some true
  obtain ⟨⟨w, h, kn⟩, he, d1, d2, d3, d4, d5⟩ := drawIs_ok k hb (by omega)
  dsimp only at *
  unfold laws_FnCharts.b14 spec_DrawCountColors.f spec_DrawCountColors.m
  rw [he, Option.bind_some, Option.bind_some]
  dsimp only
  rw [iCount_eq k w h (by omega) (by omega), Option.bind_some, sCount_eq k w h (by omega) (by omega), Option.bind_some, if_neg (fun q => q rfl)]
  cases hg : goodB w h kn
  · rw [if_neg (by simp)]
    dsimp only
    rw [vInts_self k [] (by simp) (by omega), Option.bind_some]
    exact hL20
  · obtain ⟨g1, g2, g3, g4⟩ := good_of hg
    have := mul_bd g1 g2
    rw [if_pos rfl]
    dsimp only
    rw [vInts_self k (cntL kn) (by show 6 ≤ 1000; omega) (by omega), Option.bind_some, show (!true) = false from rfl, cond_false, cond_true, vSum_cnt k (by omega) g4 (by omega), Option.bind_some, w64_id (by omega), if_neg (fun q => q g3)]
    exact hL20
theorem cl7 {l0 : List Int} (hb : By l0) (k : Nat) (hk : 9000 ≤ k) : laws_FnCharts.l7 k l0 = some true := by
  obtain ⟨k, rfl⟩ := succ_of (show 0 < k by omega)
  have hL14 := cl14 hb k (by omega)
  show laws_FnCharts.b7 (laws_FnCharts.l14 k) k l0 = some true
  obtain ⟨s, he, d1⟩ := drawParse_ok k hb (by omega)
  obtain ⟨t, rfl⟩ := bs_ex s
  rw [bs_size] at d1
  unfold laws_FnCharts.b7
  rw [he, Option.bind_some, iParse_eq k d1 (by omega), Option.bind_some]
  have hsz := split_size t
  have hkl : (parK t).length = (splitL 47 t).flatten.length := numL_len _
  by_cases ho : parOk t = true
  · obtain ⟨g1, g2⟩ := (parOk_iff t).1 ho
    have hR : parR t = ((parW t : Int), ((splitL 47 t).length : Int), parK t, true) := if_pos ho
    have hp := splitL_ne 47 t
    have hkk : (parK t).length ≤ 100 := by
      rcases Nat.eq_zero_or_pos (splitL 47 t).length with h | h
      · exact absurd (List.length_eq_zero_iff.1 h) hp
      · omega
    rw [hR]
    dsimp only
    rw [iText_eq k g1 (by omega), Option.bind_some, sParse_eq k d1 (by omega), Option.bind_some, hR, if_neg (fun q => q rfl)]
    dsimp only
    rw [vChart_self k _ _ _ (by omega) (by omega), Option.bind_some, show (!true) = false from rfl, cond_false, cond_true, cond_false, Int.toNat_natCast, g2, if_neg (fun q => q rfl)]
    exact hL14
  · have hR : parR t = (0, 0, [], false) := if_neg ho
    rw [hR]
    dsimp only
    rw [iText_not k (by rfl) (by simp) (by omega), Option.bind_some, sParse_eq k d1 (by omega), Option.bind_some, hR, if_neg (fun q => q rfl)]
    dsimp only
    rw [vChart_self k _ _ _ (by simp) (by omega), Option.bind_some]
    exact hL14
theorem pure_holds : Pure := by
  intro l0 hlen hwf
  have hb := By.of hwf
  refine ⟨20000, ?_⟩
  show laws_FnCharts.m (laws_FnCharts.l7 20000) 20000 l0 = some true
  have hL7' := cl7 hb 20000 (by omega)
  unfold laws_FnCharts.m laws_vBig.f laws_vBig.m
  rw [Option.bind_some]
  cases decide (65536 < (l0.length : Int))
  · rw [cond_false]
    obtain ⟨⟨w, h, kn⟩, he, d1, d2, d3, d4, d5⟩ := drawIs_ok 20000 hb (by omega)
    dsimp only at *
    unfold spec_DrawChartText.f spec_DrawChartText.m
    rw [he, Option.bind_some, Option.bind_some]
    dsimp only
    cases hg : goodB w h kn
    · rw [iText_not 20000 hg (by omega) (by omega), Option.bind_some]
      dsimp only
      rw [iParse_eq 20000 (by simp) (by omega), Option.bind_some, sText_not 20000 hg (by omega) (by omega), Option.bind_some, if_neg (fun q => q rfl), if_neg (fun q => q rfl), isChart_eq 20000 w h kn (by omega) (by omega), Option.bind_some, hg, if_neg (fun q => q rfl), cond_false]
      exact hL7'
    · obtain ⟨g1, g2, g3, g4⟩ := good_of hg
      have hg0 := hg
      have := mul_bd g1 g2
      obtain ⟨w, rfl⟩ := Int.eq_ofNat_of_zero_le (show 0 ≤ w by omega)
      obtain ⟨h, rfl⟩ := Int.eq_ofNat_of_zero_le (show 0 ≤ h by omega)
      have hP := par_txt hg
      have hs : (txt w 0 kn).length ≤ 100 := by
        have h9 := parOk_short (l := txt w 0 kn) (by
          have := hP
          unfold parR at this
          by_cases ho : parOk (txt w 0 kn) = true
          · exact ho
          · rw [if_neg ho] at this
            cases this)
        omega
      rw [iText_eq 20000 hg (by omega), Option.bind_some]
      dsimp only
      rw [Int.toNat_natCast, iParse_eq 20000 hs (by omega), Option.bind_some, sText_eq 20000 hg (by omega), Option.bind_some, Int.toNat_natCast, if_neg (fun q => q rfl), if_neg (fun q => q rfl), isChart_eq 20000 _ _ kn (by omega) (by omega), Option.bind_some, hg, if_neg (fun q => q rfl), cond_true, hP]
      dsimp only
      rw [show (!true) = false from rfl, cond_false, vChart_self 20000 _ _ _ (by omega) (by omega), Option.bind_some, show (!true) = false from rfl, cond_false]
      exact hL7'
  · rfl
end Go.Proofs.YtnggfjbmjlppgaaDoor.DFnCharts
