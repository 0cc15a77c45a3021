/- For every console FormatConsole gives what the reference gives. -/
import Derived.Test.YtiacidpjplmgaaaDoorDFnExactFormatConsole
set_option linter.unusedVariables false
set_option linter.unusedSimpArgs false
set_option maxRecDepth 100000
namespace Go.Proofs.YtiacidpjplmgaaaDoor.DFnExactFormatConsole
open Go Go.Proofs.YtiacidpjplmgaaaDoorD
theorem succ_of {k : Nat} (h : 0 < k) : ∃ j, k = j + 1 := ⟨k - 1, by omega⟩
theorem w64_id {x : Int} (h : -9223372036854775808 ≤ x ∧ x ≤ 9223372036854775807) : w64 x = x := by
  unfold w64 IntKind.wrap
  simp [IntKind.signed, IntKind.bits]
  omega
theorem chk_nat {n j : Nat} (h : j < n) : chk n (j : Int) = some j := by unfold chk; rw [if_pos (by omega)]; simp
theorem chk_int {n : Nat} {i : Int} (h : 0 ≤ i ∧ i < n) : chk n i = some i.toNat := by unfold chk; rw [if_pos h]
theorem cut_int {n : Nat} {i j : Int} (h : 0 ≤ i ∧ i ≤ j ∧ j ≤ n) : cut n i j = some (i.toNat, j.toNat - i.toNat) := by unfold cut; rw [if_pos h]
theorem cutTo_int {n : Nat} {j : Int} (h : 0 ≤ j ∧ j ≤ n) : cutTo n j = some j.toNat := by unfold cutTo; rw [if_pos h]
theorem mkl_int {L : Nat} {n c : Int} (h : 0 ≤ n ∧ n ≤ c ∧ c ≤ L) : mkl L n c = some n.toNat := by unfold mkl; rw [if_pos h]
section
variable {β : Type}
theorem app_ok {L : Nat} {xs ys : List β} (h : xs.length + ys.length ≤ L) : app L xs ys = some (xs ++ ys) := by unfold app; rw [if_pos h]
theorem getD_mid (p : List β) (a : β) (q : List β) (d : β) : (p ++ a :: q).getD p.length d = a := by
  rw [List.getD_eq_getElem?_getD, List.getElem?_append_right (Nat.le_refl _)]; simp
theorem upd_of {xs : List β} {j : Nat} {d : β} {f : β → β} : upd xs j d f = xs.set j (f (xs.getD j d)) := rfl
theorem getD_lt {xs : List β} {i : Nat} {d : β} (h : i < xs.length) : xs.getD i d = xs[i] := by
  rw [List.getD_eq_getElem?_getD, List.getElem?_eq_getElem h]; rfl
end
def inB (n lo hi : Int) : Bool := decide (lo ≤ n) && decide (n ≤ hi)
theorem inB_iff {n lo hi : Int} : inB n lo hi = true ↔ lo ≤ n ∧ n ≤ hi := by unfold inB; simp
theorem inB_of {n lo hi : Int} (h : lo ≤ n ∧ n ≤ hi) : inB n lo hi = true := inB_iff.2 h
theorem notB {b : Bool} (h : ¬ b = true) : b = false := by cases b <;> simp_all
theorem all_loop {β : Type} {L : Nat → Nat → Option β} {n K0 : Nat} {ok : Nat → Bool} {f : Option β} (hs : ∀ k i, K0 ≤ k → i < n → L (k + 1) i = if ok i = true then L k (i + 1) else f) :
    ∀ (d k i : Nat), i + d = n → K0 + d < k → (∀ e, (∀ k, K0 ≤ k → L (k + 1) n = e) → (∀ j, i ≤ j → j < n → ok j = true) → L k i = e) ∧ ((∃ j, i ≤ j ∧ j < n ∧ ok j = false) → L k i = f) := by
  intro d
  induction d with
  | zero =>
    intro k i h1 h2
    obtain ⟨k, rfl⟩ := succ_of (show 0 < k by omega)
    have : i = n := by omega
    subst this
    exact ⟨fun e he _ => he k (by omega), fun ⟨j, a, b, _⟩ => by omega⟩
  | succ d ih =>
    intro k i h1 h2
    obtain ⟨k, rfl⟩ := succ_of (show 0 < k by omega)
    have := ih k (i + 1) (by omega) (by omega)
    rw [hs k i (by omega) (by omega)]
    refine ⟨fun e he h => ?_, fun ⟨j, a, b, c⟩ => ?_⟩
    · rw [if_pos (h i (Nat.le_refl _) (by omega))]; exact this.1 e he fun j a b => h j (by omega) b
    · by_cases e : ok i = true
      · rw [if_pos e]
        refine this.2 ⟨j, ?_, b, c⟩
        rcases Nat.lt_or_ge i j with h | h
        · exact h
        · have : j = i := by omega
          subst this; rw [e] at c; cases c
      · rw [if_neg e]
theorem exists_bad {n : Nat} {ok : Nat → Bool} (h : ¬ ∀ i, i < n → ok i = true) : ∃ j, 0 ≤ j ∧ j < n ∧ ok j = false := by
  apply Classical.byContradiction; intro hn
  refine h fun j hj => ?_
  cases hc : ok j with
  | true => rfl
  | false => exact absurd ⟨j, Nat.zero_le _, hj, hc⟩ hn
theorem first_bad {n : Nat} {ok : Nat → Bool} (h : ¬ ∀ i, i < n → ok i = true) : ∃ j, j < n ∧ ok j = false ∧ ∀ i, i < j → ok i = true := by
  induction n with
  | zero => exact absurd (fun i hi => by omega) h
  | succ n ih =>
    by_cases h1 : ∀ i, i < n → ok i = true
    · refine ⟨n, by omega, ?_, h1⟩
      cases hc : ok n with
      | false => rfl
      | true => exact absurd (fun i hi => by
          rcases Nat.lt_or_ge i n with h' | h'
          · exact h1 i h'
          · have : i = n := by omega
            rw [this]; exact hc) h
    · obtain ⟨j, a, b, c⟩ := ih h1
      exact ⟨j, by omega, b, c⟩
theorem find_loop {L : Nat → Nat → Option Int} {n K0 : Nat} {ok : Nat → Bool} (hs : ∀ k i, K0 ≤ k → i < n → L (k + 1) i = if ok i = true then some (i : Int) else L k (i + 1)) (he : ∀ k, K0 ≤ k → L (k + 1) n = some (-1)) :
    ∀ (d k i : Nat), i + d = n → K0 + d < k → ((∀ j, i ≤ j → j < n → ok j = false) → L k i = some (-1)) ∧ (∀ m, i ≤ m → m < n → ok m = true → (∀ j, i ≤ j → j < m → ok j = false) → L k i = some (m : Int)) := by
  intro d
  induction d with
  | zero =>
    intro k i h1 h2
    obtain ⟨k, rfl⟩ := succ_of (show 0 < k by omega)
    have : i = n := by omega
    subst this
    exact ⟨fun _ => he k (by omega), fun m a b _ _ => by omega⟩
  | succ d ih =>
    intro k i h1 h2
    obtain ⟨k, rfl⟩ := succ_of (show 0 < k by omega)
    have := ih k (i + 1) (by omega) (by omega)
    rw [hs k i (by omega) (by omega)]
    refine ⟨fun h => ?_, fun m a b c h => ?_⟩
    · rw [if_neg (by rw [h i (Nat.le_refl _) (by omega)]; simp)]; exact this.1 fun j a b => h j (by omega) b
    · by_cases e : ok i = true
      · rw [if_pos e]
        rcases Nat.lt_or_ge i m with h' | h'
        · have := h i (Nat.le_refl _) h'; rw [e] at this; cases this
        · have : m = i := by omega
          rw [this]
      · rw [if_neg e]
        refine this.2 m ?_ b c fun j a b => h j (by omega) b
        rcases Nat.lt_or_ge i m with h' | h'
        · exact h'
        · have : m = i := by omega
          subst this; exact absurd c e
def bs (l : List UInt8) : ByteArray := ⟨l.toArray⟩
theorem bs_list (s : ByteArray) : bs s.data.toList = s := by
  cases s
  simp [bs]
theorem bs_ex (s : ByteArray) : ∃ l, s = bs l := ⟨_, (bs_list s).symm⟩
theorem bs_data (l : List UInt8) : (bs l).data.toList = l := by simp [bs]
theorem bs_size (l : List UInt8) : (bs l).size = l.length := by simp [bs, ByteArray.size]
theorem bs_inj {a b : List UInt8} : bs a = bs b ↔ a = b := ⟨fun h => by have := congrArg (fun s : ByteArray => s.data.toList) h; simpa [bs_data] using this, fun h => by rw [h]⟩
theorem bs_append (a b : List UInt8) : bs a ++ bs b = bs (a ++ b) := by
  apply ByteArray.ext
  rw [ByteArray.data_append]
  simp [bs]
theorem bs_extract (l : List UInt8) (i j : Nat) : (bs l).extract i j = bs ((l.drop i).take (j - i)) := by
  apply ByteArray.ext
  rw [ByteArray.data_extract]
  apply Array.toList_inj.1
  rw [Array.toList_extract]
  simp [bs, List.take_drop, List.extract_eq_drop_take']
theorem bs_nil : (⟨#[]⟩ : ByteArray) = bs [] := rfl
theorem catS_bs {a b : List UInt8} (h : a.length + b.length ≤ 140737488355328) : catS (bs a) (bs b) = some (bs (a ++ b)) := by
  unfold catS
  rw [bs_size, bs_size, if_pos h, bs_append]
theorem byteAt_bs {l : List UInt8} {j : Nat} (h : j < l.length) : byteAt (bs l) j = ((l.getD j 0).toNat : Int) := by
  unfold byteAt
  rw [dif_pos (by rw [bs_size]; exact h), getD_lt h]
  rfl
theorem bytesOf_bs (l : List UInt8) : bytesOf (bs l) = l.map fun b => (b.toNat : Int) := by
  unfold bytesOf
  rw [bs_data]
section
variable {β : Type} {l : List β} {d : β} {K0 : Nat}
theorem drop_getD {i : Nat} (h : i < l.length) : l.drop i = l.getD i d :: l.drop (i + 1) := by
  rw [getD_lt h]
  exact List.drop_eq_getElem_cons h
theorem scan_all {L : Nat → Nat → Option Bool} {ok : β → Bool} {e : Bool} (hs : ∀ k i, K0 ≤ k → i < l.length → L (k + 1) i = if ok (l.getD i d) = true then L k (i + 1) else some false) (he : ∀ k, K0 ≤ k → L (k + 1) l.length = some e) :
    ∀ k, K0 + l.length < k → L k 0 = some (l.all ok && e) := by
  have key : ∀ n i k, i + n = l.length → K0 + n < k → L k i = some ((l.drop i).all ok && e) := by
    intro n
    induction n with
    | zero =>
      intro i k h1 h2
      obtain ⟨k, rfl⟩ := succ_of (show 0 < k by omega)
      have : i = l.length := by omega
      subst this
      rw [he k (by omega), List.drop_length]
      rfl
    | succ n ih =>
      intro i k h1 h2
      obtain ⟨k, rfl⟩ := succ_of (show 0 < k by omega)
      rw [hs k i (by omega) (by omega), drop_getD (d := d) (show i < l.length by omega), List.all_cons]
      by_cases h : ok (l.getD i d) = true
      · rw [if_pos h, ih (i + 1) k (by omega) (by omega), h, Bool.true_and]
      · rw [if_neg h, notB h, Bool.false_and, Bool.false_and]
  intro k hk
  have := key l.length 0 k (by omega) (by omega)
  simpa using this
theorem scan_any {L : Nat → Nat → Option Bool} {p : β → Bool} (hs : ∀ k i, K0 ≤ k → i < l.length → L (k + 1) i = if p (l.getD i d) = true then some true else L k (i + 1)) (he : ∀ k, K0 ≤ k → L (k + 1) l.length = some false) :
    ∀ k, K0 + l.length < k → L k 0 = some (l.any p) := by
  have key : ∀ n i k, i + n = l.length → K0 + n < k → L k i = some ((l.drop i).any p) := by
    intro n
    induction n with
    | zero =>
      intro i k h1 h2
      obtain ⟨k, rfl⟩ := succ_of (show 0 < k by omega)
      have : i = l.length := by omega
      subst this
      rw [he k (by omega), List.drop_length]
      rfl
    | succ n ih =>
      intro i k h1 h2
      obtain ⟨k, rfl⟩ := succ_of (show 0 < k by omega)
      rw [hs k i (by omega) (by omega), drop_getD (d := d) (show i < l.length by omega), List.any_cons]
      by_cases h : p (l.getD i d) = true
      · rw [if_pos h, h, Bool.true_or]
      · rw [if_neg h, ih (i + 1) k (by omega) (by omega), notB h, Bool.false_or]
  intro k hk
  have := key l.length 0 k (by omega) (by omega)
  simpa using this
theorem scan_find {L : Nat → Nat → Option Int} {p : β → Bool} (hs : ∀ k i, K0 ≤ k → i < l.length → L (k + 1) i = if p (l.getD i d) = true then some (i : Int) else L k (i + 1)) (he : ∀ k, K0 ≤ k → L (k + 1) l.length = some (-1)) :
    ∀ k, K0 + l.length < k → ∃ r, L k 0 = some r ∧ decide (0 ≤ r) = l.any p := by
  have key : ∀ n i k, i + n = l.length → K0 + n < k → ∃ r, L k i = some r ∧ decide (0 ≤ r) = (l.drop i).any p := by
    intro n
    induction n with
    | zero =>
      intro i k h1 h2
      obtain ⟨k, rfl⟩ := succ_of (show 0 < k by omega)
      have : i = l.length := by omega
      subst this
      rw [he k (by omega), List.drop_length]
      exact ⟨-1, rfl, rfl⟩
    | succ n ih =>
      intro i k h1 h2
      obtain ⟨k, rfl⟩ := succ_of (show 0 < k by omega)
      rw [hs k i (by omega) (by omega), drop_getD (d := d) (show i < l.length by omega), List.any_cons]
      by_cases h : p (l.getD i d) = true
      · rw [if_pos h, h, Bool.true_or]
        exact ⟨i, rfl, by simp⟩
      · rw [if_neg h, notB h, Bool.false_or]
        exact ih (i + 1) k (by omega) (by omega)
  intro k hk
  have := key l.length 0 k (by omega) (by omega)
  simpa using this
theorem scan_fold {γ δ : Type} {P : γ → Prop} {L : Nat → Nat → γ → Option δ} {f : γ → β → γ} {g : γ → δ} (hs : ∀ k i a, K0 ≤ k → i < l.length → P a → L (k + 1) i a = L k (i + 1) (f a (l.getD i d))) (hp : ∀ a b, P a → P (f a b)) (he : ∀ k a, K0 ≤ k → P a → L (k + 1) l.length a = some (g a)) :
    ∀ k a, P a → K0 + l.length < k → L k 0 a = some (g (l.foldl f a)) := by
  have key : ∀ n i k a, P a → i + n = l.length → K0 + n < k → L k i a = some (g ((l.drop i).foldl f a)) := by
    intro n
    induction n with
    | zero =>
      intro i k a ha h1 h2
      obtain ⟨k, rfl⟩ := succ_of (show 0 < k by omega)
      have : i = l.length := by omega
      subst this
      rw [he k a (by omega) ha, List.drop_length]
      rfl
    | succ n ih =>
      intro i k a ha h1 h2
      obtain ⟨k, rfl⟩ := succ_of (show 0 < k by omega)
      rw [hs k i a (by omega) (by omega) ha, drop_getD (d := d) (show i < l.length by omega), List.foldl_cons]
      exact ih (i + 1) k _ (hp _ _ ha) (by omega) (by omega)
  intro k a ha hk
  have := key l.length 0 k a ha (by omega) (by omega)
  simpa using this
end
theorem digits_of (u : Nat) : Lib.decDigits u = if u < 10 then [UInt8.ofNat (48 + u)] else Lib.decDigits (u / 10) ++ [UInt8.ofNat (48 + u % 10)] := by
  rw [Lib.decDigits]
  split <;> simp_all
theorem digits_len (u j : Nat) (hj : 1 ≤ j) (h : u < 10 ^ j) : (Lib.decDigits u).length ≤ j ∧ 1 ≤ (Lib.decDigits u).length := by
  induction j generalizing u with
  | zero => omega
  | succ j ih =>
    rw [digits_of]
    split
    · simp
    · have h1 : u / 10 < 10 ^ j := by rw [Nat.pow_succ] at h; omega
      have h2 : 1 ≤ j := by
        rcases Nat.eq_zero_or_pos j with rfl | h0
        · simp at h1; omega
        · exact h0
      have := ih (u / 10) h2 h1
      simp
      omega
theorem digits_all (u : Nat) : ∀ b ∈ Lib.decDigits u, 48 ≤ b.toNat ∧ b.toNat ≤ 57 := by
  induction u using Nat.strongRecOn with
  | ind u ih =>
    rw [digits_of]
    have hd : ∀ x, x < 10 → 48 ≤ (UInt8.ofNat (48 + x)).toNat ∧ (UInt8.ofNat (48 + x)).toNat ≤ 57 := fun x hx => by
      rw [UInt8.toNat_ofNat']
      omega
    split
    · rename_i h
      intro b hb
      rw [List.mem_singleton] at hb
      rw [hb]
      exact hd u h
    · intro b hb
      rcases List.mem_append.1 hb with hb | hb
      · exact ih (u / 10) (by omega) b hb
      · rw [List.mem_singleton] at hb
        rw [hb]
        exact hd _ (by omega)
def digs : List UInt8 := [48, 49, 50, 51, 52, 53, 54, 55, 56, 57]
theorem digs_at : ∀ m : Fin 10, (digs.drop m.1).take 1 = [UInt8.ofNat (48 + m.1)] := by decide
theorem digs_bs : (⟨#[48, 49, 50, 51, 52, 53, 54, 55, 56, 57]⟩ : ByteArray) = bs digs := rfl
theorem num_ok (j : Nat) (hj : 1 ≤ j) (hj2 : j ≤ 20) (n : Nat) (h : n < 10 ^ j) (hn : n < 9223372036854775807) : ∀ k, j ≤ k → spec_l1Num.f k (n : Int) = some (bs (Lib.decDigits n)) := by
  induction j generalizing n with
  | zero => omega
  | succ j ih =>
    intro k hk
    obtain ⟨k, rfl⟩ := succ_of (show 0 < k by omega)
    have e1 : ∀ x : Nat, x < 10 → cut (bs digs).size (x : Int) (w64 ((x : Int) + 1)) = some (x, 1) := fun x hx => by
      rw [w64_id (by omega), bs_size, cut_int (by simp [digs]; omega)]
      simp
    rw [digits_of]
    unfold spec_l1Num.f spec_l1Num.m
    rw [if_neg (by omega), digs_bs]
    by_cases h10 : n < 10
    · rw [if_pos (by omega), if_pos h10, e1 n h10, Option.bind_some, bs_extract, show n + 1 - n = 1 by omega, digs_at ⟨n, h10⟩]
    · rw [if_neg (by omega), if_neg h10]
      have h1 : n / 10 < 10 ^ j := by rw [Nat.pow_succ] at h; omega
      have h2 : 1 ≤ j := by
        rcases Nat.eq_zero_or_pos j with rfl | h0
        · simp at h1; omega
        · exact h0
      have hq : quo .i64 (n : Int) 10 = some ((n / 10 : Nat) : Int) := by
        unfold quo
        rw [if_neg (by omega)]
        have : (IntKind.i64.wrap ((n : Int).tdiv 10)) = w64 ((n : Int).tdiv 10) := rfl
        rw [this, Int.tdiv_eq_ediv_of_nonneg (by omega), w64_id (by omega)]
        simp
      have hr : rem (n : Int) 10 = some ((n % 10 : Nat) : Int) := by
        unfold rem
        rw [if_neg (by omega), Int.tmod_eq_emod_of_nonneg (by omega)]
        simp
      rw [hq, Option.bind_some, ih h2 (by omega) (n / 10) h1 (by omega) k (by omega), Option.bind_some, hr, Option.bind_some, Option.bind_some, e1 _ (by omega), Option.bind_some, bs_extract, show n % 10 + 1 - n % 10 = 1 by omega, digs_at ⟨n % 10, by omega⟩]
      have := digits_len (n / 10) j h2 h1
      rw [catS_bs (by simp; omega), Option.bind_some]
theorem itoaF_nat {n : Nat} (h : n ≤ 9223372036854775807) : itoaF (n : Int) = some (bs (Lib.decDigits n)) := by
  unfold itoaF Lib.itoa
  rw [if_pos (by omega), if_neg (by omega)]
  simp [bs]
def okB (b : UInt8) : Bool := decide (32 ≤ b.toNat) && decide (b.toNat ≤ 126) && !(b == 35)
def plainL (l : List UInt8) : Bool := l.all okB
def goodE (c r : List UInt8) : Bool := decide (1 ≤ c.length) && decide (c.length ≤ 160) && plainL c && !c.any (· == 64) && decide (r.length ≤ 200) && plainL r
theorem byte_is {b : UInt8} {n : Nat} (h : n < 256) : ((b.toNat : Int) = (n : Int)) ↔ (b == UInt8.ofNat n) = true := by
  rw [beq_iff_eq]
  constructor
  · intro e
    apply UInt8.toNat_inj.1
    rw [UInt8.toNat_ofNat']
    omega
  · intro e
    rw [e, UInt8.toNat_ofNat']
    omega
theorem l1In_ok (k : Nat) (x a b : Int) : spec_l1In.f k x a b = some (decide (a ≤ x) && decide (x ≤ b)) := by
  unfold spec_l1In.f spec_l1In.m
  by_cases h : a ≤ x <;> simp [h]
theorem in_ok (k : Nat) (x a b : Int) : impl_in.f k x a b = some (decide (a ≤ x) && decide (x ≤ b)) := by
  unfold impl_in.f impl_in.m
  by_cases h : a ≤ x <;> simp [h]
theorem specPlain_ok (l : List UInt8) (m : Int) (hl : l.length ≤ 1152921504606846976) : ∀ k, l.length < k → spec_l27Plain.f k (bs l) m = some (plainL l && decide ((l.length : Int) ≤ m)) := by
  intro k hk
  unfold spec_l27Plain.f spec_l27Plain.m
  refine scan_all (L := fun k i => spec_l27Plain.l3 k (bs l) m (i : Int)) (d := (0 : UInt8)) (K0 := 0) (ok := okB) (fun k i _ hi => ?_) (fun k _ => ?_) k (by omega)
  · show spec_l27Plain.b3 (spec_l27Plain.l3 k) k (bs l) m (i : Int) = _
    unfold spec_l27Plain.b3
    have hb := (l.getD i 0).toNat_lt
    rw [bs_size, if_pos (by omega)]
    simp only [chk_nat hi, Option.bind_some, byteAt_bs hi]
    rw [w64_id (by omega), l1In_ok, Option.bind_some, w64_id (by omega), show ((i : Int) + 1) = ((i + 1 : Nat) : Int) by omega]
    unfold okB
    generalize spec_l27Plain.l3 k (bs l) m ((i + 1 : Nat) : Int) = X
    generalize l.getD i 0 = b at hb ⊢
    by_cases h : 32 ≤ b.toNat ∧ b.toNat ≤ 126
    · have h1 : (decide ((32 : Int) ≤ (b.toNat : Int)) && decide ((b.toNat : Int) ≤ 126)) = true := by simp; omega
      rw [h1, decide_eq_true h.1, decide_eq_true h.2, Bool.not_true, cond_false]
      have h2 := byte_is (b := b) (n := 35) (by omega)
      by_cases h3 : (b.toNat : Int) = 35
      · rw [if_pos h3, if_neg]
        have := h2.1 h3
        rw [show (UInt8.ofNat 35) = 35 from rfl] at this
        rw [this]
        simp
      · rw [if_neg h3, if_pos]
        · have : ¬ (b == UInt8.ofNat 35) = true := fun e => h3 (h2.2 e)
          rw [show (UInt8.ofNat 35) = 35 from rfl] at this
          rw [notB this]
          rfl
    · have h1 : (decide ((32 : Int) ≤ (b.toNat : Int)) && decide ((b.toNat : Int) ≤ 126)) = false := by
        apply notB
        intro e
        simp at e
        omega
      have h2 : (decide (32 ≤ b.toNat) && decide (b.toNat ≤ 126)) = false := by
        apply notB
        intro e
        simp at e
        omega
      rw [h1, h2, Bool.not_false, cond_true, if_neg (by simp)]
  · show spec_l27Plain.b3 (spec_l27Plain.l3 k) k (bs l) m (l.length : Int) = _
    unfold spec_l27Plain.b3
    rw [bs_size, if_neg (by omega)]
theorem specStands_ok (l : List UInt8) (n : Nat) (hn : n < 256) (hl : l.length ≤ 1152921504606846976) : ∀ k, l.length < k → spec_l1Stands.f k (bs l) (n : Int) = some (l.any (· == UInt8.ofNat n)) := by
  intro k hk
  unfold spec_l1Stands.f spec_l1Stands.m
  refine scan_any (L := fun k i => spec_l1Stands.l3 k (bs l) (n : Int) (i : Int)) (d := (0 : UInt8)) (K0 := 0) (p := (· == UInt8.ofNat n)) (fun k i _ hi => ?_) (fun k _ => ?_) k (by omega)
  · show spec_l1Stands.b3 (spec_l1Stands.l3 k) k (bs l) (n : Int) (i : Int) = _
    unfold spec_l1Stands.b3
    rw [bs_size, if_pos (by omega), chk_nat hi, Option.bind_some, byteAt_bs hi, w64_id (by omega)]
    by_cases h : ((l.getD i 0).toNat : Int) = n
    · rw [if_pos h, if_pos ((byte_is hn).1 h)]
    · rw [if_neg h, if_neg (fun e => h ((byte_is hn).2 e))]
      rfl
  · show spec_l1Stands.b3 (spec_l1Stands.l3 k) k (bs l) (n : Int) (l.length : Int) = _
    unfold spec_l1Stands.b3
    rw [bs_size, if_neg (by omega)]
theorem specGood_ok (c r : List UInt8) (hc : c.length ≤ 1152921504606846976) (hr : r.length ≤ 1152921504606846976) : ∀ k, c.length + r.length < k → spec_l27Good.f k (bs c) (bs r) = some (goodE c r) := by
  intro k hk
  unfold spec_l27Good.f spec_l27Good.m
  rw [specPlain_ok c 160 hc k (by omega), specPlain_ok r 200 hr k (by omega), show (64 : Int) = ((64 : Nat) : Int) from rfl, specStands_ok c 64 (by omega) hc k (by omega), Option.bind_some, Option.bind_some, Option.bind_some, bs_nil]
  unfold goodE
  rw [show (UInt8.ofNat 64) = 64 from rfl]
  cases c with
  | nil => rw [if_neg (fun h => h rfl)]; rfl
  | cons x c =>
    rw [if_pos (fun h => by have := bs_inj.1 h; cases this), decide_eq_true (show 1 ≤ (x :: c).length by simp), Bool.true_and]
    cases h1 : plainL (x :: c)
    · simp
    · by_cases h2 : (x :: c).length ≤ 160
      · rw [decide_eq_true h2, decide_eq_true (by omega)]
        rw [show decide ((r.length : Int) ≤ 200) = decide (r.length ≤ 200) from decide_eq_decide.2 (by omega)]
        cases (x :: c).any (· == 64) <;> cases plainL r <;> cases decide (r.length ≤ 200) <;> rfl
      · rw [decide_eq_false h2, decide_eq_false (by omega)]
        simp
theorem implOk_ok (k : Nat) (b : UInt8) : impl_isPlain_1.f k (b.toNat : Int) = some (okB b) := by
  unfold impl_isPlain_1.f impl_isPlain_1.m okB
  by_cases h : 32 ≤ b.toNat
  · rw [if_pos (by omega), decide_eq_true h]
    by_cases h2 : b.toNat ≤ 126
    · rw [if_pos (by omega), decide_eq_true h2]
      have h3 := byte_is (b := b) (n := 35) (by omega)
      rw [show (UInt8.ofNat 35) = 35 from rfl] at h3
      cases h4 : b == 35
      · have h5 : ¬ ((b.toNat : Int) = 35) := fun e => by rw [h3.1 e] at h4; cases h4
        simp [h5, h2]
      · have h5 : ((b.toNat : Int) = 35) := h3.2 h4
        simp [h5]
    · rw [if_neg (by omega), decide_eq_false h2]; rfl
  · rw [if_neg (by omega), decide_eq_false h]; rfl
theorem getD_map {β γ : Type} (f : β → γ) (l : List β) (i : Nat) (d : β) (e : γ) (h : i < l.length) : (l.map f).getD i e = f (l.getD i d) := by
  rw [getD_lt (by simpa using h), getD_lt h, List.getElem_map]
theorem implFind_ok (l : List UInt8) (hl : l.length ≤ 1152921504606846976) : ∀ k, l.length < k → ∃ r, slices_IndexFunc_byte_byte__impl_areAll_byte_1__impl_isPlain_1.f k (l.map fun b => (b.toNat : Int)) = some r ∧ decide (0 ≤ r) = l.any fun b => !okB b := by
  intro k hk
  unfold slices_IndexFunc_byte_byte__impl_areAll_byte_1__impl_isPlain_1.f slices_IndexFunc_byte_byte__impl_areAll_byte_1__impl_isPlain_1.m
  rw [List.length_map]
  refine scan_find (l := l) (L := fun k i => slices_IndexFunc_byte_byte__impl_areAll_byte_1__impl_isPlain_1.l3 k (l.map fun b => (b.toNat : Int)) (l.length : Int) (i : Int)) (d := (0 : UInt8)) (K0 := 0) (p := fun b => !okB b) (fun k i _ hi => ?_) (fun k _ => ?_) k (by omega)
  · show slices_IndexFunc_byte_byte__impl_areAll_byte_1__impl_isPlain_1.b3 (slices_IndexFunc_byte_byte__impl_areAll_byte_1__impl_isPlain_1.l3 k) k (l.map fun b => (b.toNat : Int)) (l.length : Int) (i : Int) = _
    unfold slices_IndexFunc_byte_byte__impl_areAll_byte_1__impl_isPlain_1.b3
    rw [if_pos (by omega), List.length_map, chk_nat hi, Option.bind_some, getD_map _ l i 0 0 hi]
    unfold impl_areAll_byte_1__impl_isPlain_1.f impl_areAll_byte_1__impl_isPlain_1.m
    rw [implOk_ok, Option.bind_some, Option.bind_some, w64_id (by omega)]
    cases okB (l.getD i 0) <;> simp
  · show slices_IndexFunc_byte_byte__impl_areAll_byte_1__impl_isPlain_1.b3 (slices_IndexFunc_byte_byte__impl_areAll_byte_1__impl_isPlain_1.l3 k) k (l.map fun b => (b.toNat : Int)) (l.length : Int) (l.length : Int) = _
    unfold slices_IndexFunc_byte_byte__impl_areAll_byte_1__impl_isPlain_1.b3
    rw [if_neg (by omega)]
theorem implPlain_ok (l : List UInt8) (hl : l.length ≤ 1152921504606846976) : ∀ k, l.length < k → impl_isPlain.f k (bs l) = some (plainL l) := by
  intro k hk
  unfold impl_isPlain.f impl_isPlain.m impl_areAll_byte__impl_isPlain_1.f impl_areAll_byte__impl_isPlain_1.m slices_ContainsFunc_byte_byte__impl_areAll_byte_1__impl_isPlain_1.f slices_ContainsFunc_byte_byte__impl_areAll_byte_1__impl_isPlain_1.m
  obtain ⟨r, h1, h2⟩ := implFind_ok l hl k hk
  rw [bytesOf_bs, h1, Option.bind_some, Option.bind_some, Option.bind_some, h2, List.not_any_eq_all_not]
  simp [plainL]
theorem indexByte_any (l : List UInt8) (c : UInt8) : decide (0 ≤ Lib.indexByte l c) = l.any (· == c) := by
  induction l with
  | nil => rfl
  | cons b l ih =>
    rw [List.any_cons, ← ih]
    have h1 := Lib.indexByte_ge l c
    show decide (0 ≤ (if b == c then 0 else if Lib.indexByte l c == -1 then -1 else Lib.indexByte l c + 1)) = _
    cases h : b == c
    · simp
      by_cases h2 : Lib.indexByte l c = -1
      · simp [h2]
      · simp [h2]; omega
    · simp
theorem contains_bs (l : List UInt8) (c : UInt8) : containsF (bs l) (bs [c]) = some (l.any (· == c)) := by
  unfold containsF
  rw [if_pos (by rw [bs_size]; rfl), bs_data, ← indexByte_any]
  rfl
theorem implGood_ok (c r : List UInt8) (hc : c.length ≤ 1152921504606846976) (hr : r.length ≤ 1152921504606846976) : ∀ k, c.length + r.length + 1 < k → impl_IsValidRecord.f k (bs c) (bs r) = some (goodE c r) := by
  intro k hk
  obtain ⟨k, rfl⟩ := succ_of (show 0 < k by omega)
  have hl : ∀ b, impl_IsValidRecord.l1 (k + 1) (bs c) (bs r) b = some (b && decide (r.length ≤ 200) && plainL r) := fun b => by
    show impl_IsValidRecord.b1 k (bs c) (bs r) b = _
    unfold impl_IsValidRecord.b1
    rw [bs_size, implPlain_ok r hr k (by omega), Option.bind_some]
    cases b
    · rfl
    · by_cases h : r.length ≤ 200
      · rw [decide_eq_true h, if_pos (by omega)]; rfl
      · rw [decide_eq_false h, if_neg (by omega)]; rfl
  unfold impl_IsValidRecord.f impl_IsValidRecord.m
  rw [in_ok, Option.bind_some, implPlain_ok c hc (k + 1) (by omega), Option.bind_some, show (⟨#[64]⟩ : ByteArray) = bs [64] from rfl]
  unfold strings_Contains.f
  rw [contains_bs, Option.bind_some, hl, hl, bs_size]
  unfold goodE
  have e1 : decide ((1 : Int) ≤ (c.length : Int)) = decide (1 ≤ c.length) := by simp; omega
  have e2 : decide ((c.length : Int) ≤ 160) = decide (c.length ≤ 160) := by simp; omega
  rw [e1, e2]
  cases decide (1 ≤ c.length) <;> cases decide (c.length ≤ 160) <;> cases plainL c <;> simp
def ckStep (a : Int) (b : UInt8) : Int := (41 * a + (b.toNat : Int) + 1) % 999979
def ckSum (l : List UInt8) : Int := l.foldl ckStep 7
theorem ckStep_le (a : Int) (b : UInt8) : 0 ≤ ckStep a b ∧ ckStep a b < 999979 := by unfold ckStep; omega
theorem ckSum_le (l : List UInt8) : 0 ≤ ckSum l ∧ ckSum l < 999979 := by
  unfold ckSum
  have : ∀ (l : List UInt8) (a : Int), 0 ≤ a ∧ a < 999979 → 0 ≤ l.foldl ckStep a ∧ l.foldl ckStep a < 999979 := by
    intro l
    induction l with
    | nil => intro a h; exact h
    | cons b l ih => intro a _; exact ih _ (ckStep_le a b)
  exact this l 7 (by omega)
theorem rem_step {a : Int} {b : UInt8} (h : 0 ≤ a ∧ a < 999979) : rem (w64 ((w64 ((w64 (41 * a)) + (w64 (b.toNat : Int)))) + 1)) 999979 = some (ckStep a b) := by
  have hb := b.toNat_lt
  rw [w64_id (x := (b.toNat : Int)) (by omega), w64_id (x := 41 * a) (by omega), w64_id (x := 41 * a + (b.toNat : Int)) (by omega), w64_id (by omega)]
  unfold rem ckStep
  rw [if_neg (by omega), Int.tmod_eq_emod_of_nonneg (by omega)]
theorem specSum_ok (l : List UInt8) (hl : l.length ≤ 1152921504606846976) : ∀ k, l.length < k → spec_l1Sum.f k (bs l) = some (ckSum l) := by
  intro k hk
  unfold spec_l1Sum.f spec_l1Sum.m
  refine scan_fold (l := l) (L := fun k i a => spec_l1Sum.l4 k (bs l) a (i : Int)) (P := fun a => 0 ≤ a ∧ a < 999979) (d := (0 : UInt8)) (K0 := 0) (f := ckStep) (g := fun a => a) (fun k i a _ hi ha => ?_) (fun a b _ => ckStep_le a b) (fun k a _ ha => ?_) k 7 (by omega) (by omega)
  · show spec_l1Sum.b4 (spec_l1Sum.l4 k) k (bs l) a (i : Int) = _
    unfold spec_l1Sum.b4
    rw [bs_size, if_pos (by omega)]
    simp only [chk_nat hi, Option.bind_some, byteAt_bs hi]
    rw [rem_step ha, Option.bind_some, w64_id (by omega)]
    rfl
  · show spec_l1Sum.b4 (spec_l1Sum.l4 k) k (bs l) a (l.length : Int) = _
    unfold spec_l1Sum.b4
    rw [bs_size, if_neg (by omega)]
theorem implSum_ok (l : List UInt8) (hl : l.length ≤ 4000) : ∀ k, l.length < k → impl_Checksum.f k (bs l) = some (ckSum l, true) := by
  intro k hk
  unfold impl_Checksum.f impl_Checksum.m
  rw [bs_size, if_neg (by omega)]
  refine scan_fold (l := l) (L := fun k i a => impl_Checksum.l7 k (bs l) a (l.length : Int) (i : Int)) (P := fun a => 0 ≤ a ∧ a < 999979) (d := (0 : UInt8)) (K0 := 0) (f := ckStep) (g := fun a => (a, true)) (fun k i a _ hi ha => ?_) (fun a b _ => ckStep_le a b) (fun k a _ ha => ?_) k 7 (by omega) (by omega)
  · show impl_Checksum.b7 (impl_Checksum.l7 k) k (bs l) a (l.length : Int) (i : Int) = _
    unfold impl_Checksum.b7
    rw [bs_size, if_pos (by omega)]
    simp only [chk_nat hi, Option.bind_some, byteAt_bs hi]
    rw [rem_step ha, Option.bind_some, w64_id (by omega)]
    rfl
  · show impl_Checksum.b7 (impl_Checksum.l7 k) k (bs l) a (l.length : Int) (l.length : Int) = _
    unfold impl_Checksum.b7
    rw [if_neg (by omega)]
theorem implSum_big (l : List UInt8) (hl : 4000 < l.length) (k : Nat) : impl_Checksum.f k (bs l) = some (0, false) := by
  unfold impl_Checksum.f impl_Checksum.m
  rw [bs_size, if_pos (by omega)]
/-- A text's number, and a text with it. -/
def sumN (l : List UInt8) : Nat := (ckSum l).toNat
theorem sumN_lt (l : List UInt8) : sumN l < 10 ^ 6 := by
  have := ckSum_le l
  unfold sumN
  omega
theorem sumN_eq (l : List UInt8) : ckSum l = (sumN l : Int) := by
  have := ckSum_le l
  unfold sumN
  omega
def sealL (l : List UInt8) : List UInt8 := l ++ 35 :: Lib.decDigits (sumN l)
theorem sealL_len (l : List UInt8) : l.length + 2 ≤ (sealL l).length ∧ (sealL l).length ≤ l.length + 7 := by
  have := digits_len (sumN l) 6 (by omega) (sumN_lt l)
  unfold sealL
  simp
  omega
theorem specSeal_ok (l : List UInt8) (hl : l.length ≤ 1048576) : ∀ k, l.length + 7 < k → spec_l1Seal.f k (bs l) = some (bs (sealL l)) := by
  intro k hk
  have h1 := digits_len (sumN l) 6 (by omega) (sumN_lt l)
  have h2 := sumN_lt l
  unfold spec_l1Seal.f spec_l1Seal.m
  rw [show (⟨#[35]⟩ : ByteArray) = bs [35] from rfl, catS_bs (by simp; omega), Option.bind_some, specSum_ok l (by omega) k (by omega), Option.bind_some, sumN_eq, num_ok 6 (by omega) (by omega) _ h2 (by omega) k (by omega), Option.bind_some, catS_bs (by simp; omega), Option.bind_some]
  unfold sealL
  simp
theorem decimal_ok (n k : Nat) (h : n ≤ 9223372036854775807) : impl_decimal.f k (n : Int) = some (bs (Lib.decDigits n)) := by
  unfold impl_decimal.f impl_decimal.m strconv_Itoa.f
  rw [itoaF_nat h]
  rfl
/-- When a text can be sealed. -/
def canSeal (l : List UInt8) : Bool := decide (l.length ≤ 4000) && !l.any (· == 35) && decide ((sealL l).length ≤ 4000)
theorem appendSum_ok (l : List UInt8) (hl : l.length ≤ 1048576) : ∀ k, l.length + 7 < k → impl_AppendChecksum.f k (bs l) = some (if canSeal l = true then (bs (sealL l), true) else (bs [], false)) := by
  intro k hk
  have h1 := digits_len (sumN l) 6 (by omega) (sumN_lt l)
  have h2 := sumN_lt l
  unfold impl_AppendChecksum.f impl_AppendChecksum.m
  rw [show (⟨#[35]⟩ : ByteArray) = bs [35] from rfl, bs_nil]
  unfold strings_Contains.f canSeal
  rw [contains_bs]
  by_cases h : l.length ≤ 4000
  · rw [implSum_ok l h k (by omega), Option.bind_some, catS_bs (by simp; omega), Option.bind_some]
    dsimp only
    rw [sumN_eq, decimal_ok _ _ (by omega), Option.bind_some, catS_bs (by simp; omega), Option.bind_some, Option.bind_some, Bool.not_true, cond_false, bs_size, show l ++ [35] ++ Lib.decDigits (sumN l) = sealL l by simp [sealL], decide_eq_true h]
    cases l.any (· == 35)
    · rw [cond_false]
      by_cases h3 : (sealL l).length ≤ 4000
      · rw [if_neg (by omega), decide_eq_true h3]; rfl
      · rw [if_pos (by omega), decide_eq_false h3]; rfl
    · rfl
  · rw [implSum_big l (by omega), Option.bind_some, catS_bs (by simp; omega), Option.bind_some]
    dsimp only
    rw [show (0 : Int) = ((0 : Nat) : Int) from rfl, decimal_ok _ _ (by omega), Option.bind_some]
    have h0 := digits_len 0 1 (by omega) (by omega)
    rw [catS_bs (by simp; omega), Option.bind_some, decide_eq_false h]
    rfl
/-- A record's text without its number, and its line. -/
def bodyL (n : Nat) (c r : List UInt8) : List UInt8 := Lib.decDigits n ++ 32 :: (c ++ 64 :: r)
def lineL (n : Nat) (c r : List UInt8) : List UInt8 := sealL (bodyL n c r) ++ [10]
theorem bodyL_len {n : Nat} (c r : List UInt8) (hn : n < 100) : c.length + r.length + 3 ≤ (bodyL n c r).length ∧ (bodyL n c r).length ≤ c.length + r.length + 4 := by
  have := digits_len n 2 (by omega) (by omega)
  unfold bodyL
  simp
  omega
theorem lineL_len {n : Nat} (c r : List UInt8) (hn : n < 100) : c.length + r.length + 6 ≤ (lineL n c r).length ∧ (lineL n c r).length ≤ c.length + r.length + 12 := by
  have h1 := bodyL_len c r hn
  have h2 := sealL_len (bodyL n c r)
  unfold lineL
  rw [List.length_append]
  simp only [List.length_cons, List.length_nil]
  omega
theorem specLine_ok (n : Nat) (c r : List UInt8) (hn : n < 100) (hl : c.length + r.length ≤ 1048570) : ∀ k, c.length + r.length + 12 < k → spec_l27Line.f k (n : Int) (bs c) (bs r) = some (bs (lineL n c r)) := by
  intro k hk
  have h0 := digits_len n 2 (by omega) (by omega)
  have h1 := bodyL_len c r hn
  have h2 := sealL_len (bodyL n c r)
  unfold spec_l27Line.f spec_l27Line.m
  rw [show (⟨#[32]⟩ : ByteArray) = bs [32] from rfl, show (⟨#[64]⟩ : ByteArray) = bs [64] from rfl, show (⟨#[10]⟩ : ByteArray) = bs [10] from rfl]
  rw [num_ok 2 (by omega) (by omega) n (by omega) (by omega) k (by omega), Option.bind_some, catS_bs (by simp; omega), Option.bind_some, catS_bs (by simp; omega), Option.bind_some, catS_bs (by simp; omega), Option.bind_some, catS_bs (by simp; omega), Option.bind_some]
  rw [show Lib.decDigits n ++ [32] ++ c ++ [64] ++ r = bodyL n c r by simp [bodyL], specSeal_ok _ (by omega) k (by omega), Option.bind_some, catS_bs (by simp; omega), Option.bind_some]
  rfl
theorem okB_of {b c : UInt8} (h : okB b = true) (hc : okB c = false) : b ≠ c := fun e => by subst e; rw [h] at hc; cases hc
theorem good_of {c r : List UInt8} (h : goodE c r = true) : 1 ≤ c.length ∧ c.length ≤ 160 ∧ r.length ≤ 200 ∧ (∀ b ∈ c, okB b = true) ∧ (∀ b ∈ r, okB b = true) ∧ (∀ b ∈ c, b ≠ 64) := by
  unfold goodE plainL at h
  simp only [Bool.and_eq_true, decide_eq_true_eq, List.all_eq_true, Bool.not_eq_true'] at h
  obtain ⟨⟨⟨⟨⟨h1, h2⟩, h3⟩, h4⟩, h5⟩, h6⟩ := h
  refine ⟨h1, h2, h5, h3, h6, fun b hb e => ?_⟩
  have := List.any_eq_false.1 h4 b hb
  simp [e] at this
theorem dig_ok {b : UInt8} (h : 48 ≤ b.toNat ∧ b.toNat ≤ 57) : okB b = true := by
  unfold okB
  rw [decide_eq_true (by omega), decide_eq_true (by omega)]
  cases h2 : b == 35
  · rfl
  · rw [beq_iff_eq] at h2
    rw [h2] at h
    exact absurd h.1 (by decide)
theorem body_all {n : Nat} {c r : List UInt8} (h : goodE c r = true) : ∀ b ∈ bodyL n c r, okB b = true := by
  obtain ⟨_, _, _, h1, h2, _⟩ := good_of h
  intro b hb
  unfold bodyL at hb
  simp only [List.mem_append, List.mem_cons] at hb
  rcases hb with hb | rfl | hb | rfl | hb
  · exact dig_ok (digits_all n b hb)
  · decide
  · exact h1 b hb
  · decide
  · exact h2 b hb
theorem body_canSeal {n : Nat} {c r : List UInt8} (hn : n < 100) (h : goodE c r = true) : canSeal (bodyL n c r) = true := by
  obtain ⟨_, h1, h2, _⟩ := good_of h
  have h3 := bodyL_len c r hn
  have h4 := sealL_len (bodyL n c r)
  unfold canSeal
  rw [decide_eq_true (by omega), decide_eq_true (by omega), List.any_eq_false.2 (fun b hb => ?_)]
  · rfl
  · have := okB_of (body_all h b hb) (c := 35) (by decide)
    simp [this]
def codeE (n : Int) (c r : List UInt8) : ByteArray × Bool := if 0 ≤ n ∧ n ≤ 59 ∧ goodE c r = true then (bs (lineL n.toNat c r), true) else (bs [], false)
theorem implEnc_ok (n : Int) (c r : List UInt8) (hl : c.length + r.length ≤ 1048576) : ∀ k, c.length + r.length + 12 < k → impl_EncodeRecord.f k n (bs c) (bs r) = some (codeE n c r) := by
  intro k hk
  unfold impl_EncodeRecord.f impl_EncodeRecord.m codeE
  rw [in_ok, Option.bind_some, implGood_ok c r (by omega) (by omega) k (by omega)]
  by_cases h : 0 ≤ n ∧ n ≤ 59
  · rw [decide_eq_true h.1, decide_eq_true h.2, Bool.and_true, Bool.not_true, cond_false, Option.bind_some]
    cases hg : goodE c r
    · rw [if_neg (by simp)]; rfl
    · obtain ⟨_, h1, h2, _⟩ := good_of hg
      obtain ⟨m, rfl⟩ : ∃ m : Nat, n = m := ⟨n.toNat, by omega⟩
      have h0 := digits_len m 2 (by omega) (by omega)
      have h3 := bodyL_len c r (show m < 100 by omega)
      have h4 := sealL_len (bodyL m c r)
      rw [if_pos ⟨h.1, h.2, rfl⟩, Bool.not_true, cond_false]
      rw [show (⟨#[32]⟩ : ByteArray) = bs [32] from rfl, show (⟨#[64]⟩ : ByteArray) = bs [64] from rfl, show (⟨#[10]⟩ : ByteArray) = bs [10] from rfl]
      rw [decimal_ok m k (by omega), Option.bind_some, catS_bs (by simp; omega), Option.bind_some, catS_bs (by simp; omega), Option.bind_some, catS_bs (by simp; omega), Option.bind_some, catS_bs (by simp; omega), Option.bind_some]
      rw [show Lib.decDigits m ++ [32] ++ c ++ [64] ++ r = bodyL m c r by simp [bodyL], appendSum_ok _ (by omega) k (by omega), Option.bind_some, if_pos (body_canSeal (by omega) hg)]
      dsimp only
      rw [catS_bs (by simp; omega), Option.bind_some]
      rfl
  · have : (decide (0 ≤ n) && decide (n ≤ 59)) = false := by
      apply notB
      intro e
      simp at e
      exact h e
    rw [this, if_neg (fun e => h ⟨e.1, e.2.1⟩)]
    rfl
def bef (c : UInt8) (l : List UInt8) : List UInt8 := l.takeWhile fun b => !(b == c)
def aft (c : UInt8) (l : List UInt8) : List UInt8 := (l.dropWhile fun b => !(b == c)).drop 1
def hasB (c : UInt8) (l : List UInt8) : Bool := l.any (· == c)
theorem bef_cons (c b : UInt8) (l : List UInt8) : bef c (b :: l) = if b == c then [] else b :: bef c l := by
  unfold bef
  rw [List.takeWhile_cons]
  cases b == c <;> simp
theorem aft_cons (c b : UInt8) (l : List UInt8) : aft c (b :: l) = if b == c then l else aft c l := by
  unfold aft
  rw [List.dropWhile_cons]
  cases b == c <;> simp
theorem has_cons (c b : UInt8) (l : List UInt8) : hasB c (b :: l) = (b == c || hasB c l) := List.any_cons
theorem bef_aft {c : UInt8} {l : List UInt8} (h : hasB c l = true) : l = bef c l ++ c :: aft c l := by
  induction l with
  | nil => cases h
  | cons b l ih =>
    rw [bef_cons, aft_cons]
    rw [has_cons] at h
    cases e : b == c
    · rw [e, Bool.false_or] at h
      simp
      exact ih h
    · rw [beq_iff_eq] at e
      simp [e]
theorem bef_none {c : UInt8} {l : List UInt8} (h : hasB c l = false) : bef c l = l ∧ aft c l = [] := by
  induction l with
  | nil => exact ⟨rfl, rfl⟩
  | cons b l ih =>
    rw [has_cons, Bool.or_eq_false_iff] at h
    rw [bef_cons, aft_cons, h.1]
    obtain ⟨h1, h2⟩ := ih h.2
    simp [h1, h2]
theorem bef_app {c : UInt8} {p : List UInt8} (h : ∀ b ∈ p, b ≠ c) (q : List UInt8) : bef c (p ++ c :: q) = p ∧ aft c (p ++ c :: q) = q ∧ hasB c (p ++ c :: q) = true := by
  induction p with
  | nil =>
    rw [List.nil_append, bef_cons, aft_cons, has_cons]
    simp
  | cons b p ih =>
    obtain ⟨h1, h2, h3⟩ := ih fun x hx => h x (List.mem_cons_of_mem _ hx)
    have hb : (b == c) = false := by
      have := h b List.mem_cons_self
      simpa using this
    rw [List.cons_append, bef_cons, aft_cons, has_cons, hb, h1, h2, h3]
    simp
theorem bef_len (c : UInt8) (l : List UInt8) : (bef c l).length ≤ l.length := by
  unfold bef
  exact (List.takeWhile_sublist _).length_le
theorem aft_len (c : UInt8) (l : List UInt8) : (aft c l).length ≤ l.length := by
  cases h : hasB c l
  · rw [(bef_none h).2]; simp
  · have := congrArg List.length (bef_aft h)
    rw [List.length_append, List.length_cons] at this
    omega
theorem index_bef (c : UInt8) (l : List UInt8) : Lib.index l [c] = if hasB c l = true then ((bef c l).length : Int) else -1 := by
  induction l with
  | nil => rfl
  | cons b l ih =>
    show (if [c].isPrefixOf (b :: l) then 0 else if Lib.index l [c] == -1 then -1 else Lib.index l [c] + 1) = _
    rw [ih, has_cons, bef_cons]
    have e : [c].isPrefixOf (b :: l) = (b == c) := by
      simp only [List.isPrefixOf, Bool.and_true]
      rw [Bool.eq_iff_iff, beq_iff_eq, beq_iff_eq]
      exact eq_comm
    rw [e]
    cases h : b == c
    · simp
      cases h2 : hasB c l
      · simp
      · simp
    · simp
theorem cut_bs (l : List UInt8) (c : UInt8) (h : l.length < 4294967281) : cutF (bs l) (bs [c]) = some (bs (bef c l), bs (aft c l), hasB c l) := by
  unfold cutF Lib.cut
  rw [if_pos (by rw [bs_size]; exact h), bs_data, bs_data, index_bef]
  cases h2 : hasB c l
  · rw [(bef_none h2).1, (bef_none h2).2]
    simp [bs]
  · have h3 := bef_aft h2
    rw [if_pos rfl, if_pos (by omega)]
    have e1 : l.take (bef c l).length = bef c l := by
      conv => lhs; rw [h3]
      conv => lhs; arg 1; rw [← h3]
      simp
    have e2 : l.drop ((bef c l).length + 1) = aft c l := by
      conv => lhs; rw [h3]
      conv => lhs; arg 1; rw [← h3]
      rw [← List.drop_drop]
      simp
    simp only [Int.toNat_natCast, List.length_cons, List.length_nil]
    rw [e1, e2]
    rfl
/-- The pieces between bytes: the first one, and whether there are more. -/
theorem split_ok (l : List UInt8) (n : Nat) (hn : n < 256) (hl : l.length ≤ 1152921504606) : ∀ k, l.length < k → ∃ q, spec_l1Split.f k (bs l) (n : Int) = some (bs (bef (UInt8.ofNat n) l) :: q) ∧ (q = [] ↔ hasB (UInt8.ofNat n) l = false) := by
  have key : ∀ d i k (acc : List ByteArray) (fr : Nat), i + d = l.length → d < k → fr ≤ i → acc.length ≤ i → ∃ q, spec_l1Split.l5 k (bs l) (n : Int) acc (fr : Int) (i : Int) = some (acc ++ bs ((l.drop fr).take (i + (bef (UInt8.ofNat n) (l.drop i)).length - fr)) :: q) ∧ (q = [] ↔ hasB (UInt8.ofNat n) (l.drop i) = false) := by
    intro d
    induction d with
    | zero =>
      intro i k acc fr h1 h2 h3 h4
      obtain ⟨k, rfl⟩ := succ_of (show 0 < k by omega)
      have : i = l.length := by omega
      subst this
      refine ⟨[], ?_, by simp [hasB]⟩
      show spec_l1Split.b5 (spec_l1Split.l5 k) k (bs l) (n : Int) acc (fr : Int) (l.length : Int) = _
      unfold spec_l1Split.b5
      rw [bs_size, if_neg (by omega), cut_int (by omega), Option.bind_some, app_ok (by simp; omega), Option.bind_some, bs_extract]
      simp [bef]
    | succ d ih =>
      intro i k acc fr h1 h2 h3 h4
      obtain ⟨k, rfl⟩ := succ_of (show 0 < k by omega)
      have hi : i < l.length := by omega
      have hd := drop_getD (d := (0 : UInt8)) hi
      have e0 : spec_l1Split.l5 (k + 1) (bs l) (n : Int) acc (fr : Int) (i : Int) = spec_l1Split.b5 (spec_l1Split.l5 k) k (bs l) (n : Int) acc (fr : Int) (i : Int) := rfl
      rw [e0]
      unfold spec_l1Split.b5
      rw [bs_size, if_pos (by omega)]
      simp only [chk_nat hi, Option.bind_some, byteAt_bs hi]
      rw [w64_id (by omega), show ((i : Int) + 1) = ((i + 1 : Nat) : Int) by omega, hd, bef_cons, has_cons]
      by_cases h : ((l.getD i 0).toNat : Int) = n
      · rw [if_pos h, (byte_is hn).1 h, cut_int (by omega), Option.bind_some, app_ok (by simp; omega), Option.bind_some, bs_extract]
        obtain ⟨q, hq, _⟩ := ih (i + 1) k (acc ++ [bs ((l.drop ((fr : Int)).toNat).take ((fr : Int).toNat + ((i : Int).toNat - (fr : Int).toNat) - (fr : Int).toNat))]) (i + 1) (by omega) (by omega) (Nat.le_refl _) (by simp; omega)
        rw [hq]
        refine ⟨bs (List.take (i + 1 + (bef (UInt8.ofNat n) (List.drop (i + 1) l)).length - (i + 1)) (List.drop (i + 1) l)) :: q, ?_, by simp⟩
        rw [if_pos rfl, show ((fr : Int)).toNat + ((i : Int).toNat - (fr : Int).toNat) - (fr : Int).toNat = i - fr by omega, show ((fr : Int)).toNat = fr by omega]
        simp
      · have hb : (l.getD i 0 == UInt8.ofNat n) = false := notB fun e => h ((byte_is hn).2 e)
        rw [if_neg h, hb]
        obtain ⟨q, hq, hq2⟩ := ih (i + 1) k acc fr (by omega) (by omega) (by omega) (by omega)
        refine ⟨q, ?_, by simpa using hq2⟩
        rw [hq]
        simp
        congr 2
        omega
  intro k hk
  obtain ⟨q, h1, h2⟩ := key l.length 0 k [] 0 (by omega) (by omega) (Nat.le_refl _) (by simp)
  refine ⟨q, ?_, by simpa using h2⟩
  unfold spec_l1Split.f spec_l1Split.m
  rw [show (0 : Int) = ((0 : Nat) : Int) from rfl, h1]
  simp
  congr 1
  unfold bef
  exact (List.prefix_iff_eq_take.1 (List.takeWhile_prefix _)).symm
theorem bef_aft_len (c : UInt8) (l : List UInt8) : (bef c l).length + (aft c l).length ≤ l.length := by
  cases h : hasB c l
  · rw [(bef_none h).1, (bef_none h).2]; simp
  · have := congrArg List.length (bef_aft h)
    rw [List.length_append, List.length_cons] at this
    omega
def aheadL (n : Nat) : List UInt8 := Lib.decDigits n ++ [32]
def readL (n : Nat) (l : List UInt8) : Option (List UInt8 × List UInt8) :=
  if (bef 35 l).length < (aheadL n).length then none
  else if ¬ (bef 35 l).take (aheadL n).length = aheadL n then none
  else if (bef 64 ((bef 35 l).drop (aheadL n).length)).length = ((bef 35 l).drop (aheadL n).length).length then none
  else if goodE (bef 64 ((bef 35 l).drop (aheadL n).length)) (((bef 35 l).drop (aheadL n).length).drop ((bef 64 ((bef 35 l).drop (aheadL n).length)).length + 1)) = true ∧ lineL n (bef 64 ((bef 35 l).drop (aheadL n).length)) (((bef 35 l).drop (aheadL n).length).drop ((bef 64 ((bef 35 l).drop (aheadL n).length)).length + 1)) = l ++ [10] then some (bef 64 ((bef 35 l).drop (aheadL n).length), ((bef 35 l).drop (aheadL n).length).drop ((bef 64 ((bef 35 l).drop (aheadL n).length)).length + 1))
  else none
theorem body_split {n : Nat} {c r : List UInt8} (h : goodE c r = true) : bef 35 (sealL (bodyL n c r)) = bodyL n c r ∧ bodyL n c r = aheadL n ++ (c ++ 64 :: r) ∧ bef 64 (c ++ 64 :: r) = c ∧ aft 64 (c ++ 64 :: r) = r ∧ aft 32 (bodyL n c r) = c ++ 64 :: r := by
  obtain ⟨_, _, _, _, _, h1⟩ := good_of h
  have h2 := bef_app (c := 35) (fun b hb => okB_of (body_all (n := n) h b hb) (c := 35) (by decide)) (Lib.decDigits (sumN (bodyL n c r)))
  have h3 := bef_app (c := 64) h1 r
  have h4 := bef_app (c := 32) (p := Lib.decDigits n) (fun b hb e => by have := digits_all n b hb; rw [e] at this; exact absurd this.1 (by decide)) (c ++ 64 :: r)
  exact ⟨h2.1, by simp [bodyL, aheadL], h3.1, h3.2.1, h4.2.1⟩
theorem seal_no10 {n : Nat} {c r : List UInt8} (h : goodE c r = true) : ∀ b ∈ sealL (bodyL n c r), b ≠ 10 := by
  intro b hb
  unfold sealL at hb
  rcases List.mem_append.1 hb with hb | hb
  · exact okB_of (body_all h b hb) (by decide)
  · rcases List.mem_cons.1 hb with rfl | hb
    · decide
    · exact okB_of (dig_ok (digits_all _ b hb)) (by decide)
theorem readL_iff {n : Nat} {l c r : List UInt8} : readL n l = some (c, r) ↔ goodE c r = true ∧ lineL n c r = l ++ [10] := by
  constructor
  · intro h
    unfold readL at h
    split at h
    · cases h
    · split at h
      · cases h
      · split at h
        · cases h
        · split at h
          · rename_i h4
            simp only [Option.some.injEq, Prod.mk.injEq] at h
            rw [← h.1, ← h.2]
            exact h4
          · cases h
  · intro ⟨h1, h2⟩
    have e : l = sealL (bodyL n c r) := by
      unfold lineL at h2
      exact (List.append_cancel_right h2).symm
    subst e
    obtain ⟨k1, k2, k3, k4, _⟩ := body_split (n := n) h1
    have k5 : (bodyL n c r).drop (aheadL n).length = c ++ 64 :: r := by rw [k2]; simp
    unfold readL
    rw [k1, k5, k3]
    have k6 : (c ++ 64 :: r).drop (c.length + 1) = r := by rw [← List.drop_drop]; simp
    rw [k6, if_neg (by rw [k2]; simp), if_neg (by rw [k2]; simp), if_neg (by simp), if_pos ⟨h1, h2⟩]
theorem specRead_ok (n : Nat) (l : List UInt8) (hn : n < 100) (hl : l.length ≤ 1048500) : ∀ k, l.length + 20 < k → ∃ x y, spec_l27Read.f k (bs l) (n : Int) = some (x, y, (readL n l).isSome) ∧ ∀ c r, readL n l = some (c, r) → x = bs c ∧ y = bs r := by
  intro k hk
  have h0 := digits_len n 2 (by omega) (by omega)
  unfold spec_l27Read.f spec_l27Read.m
  rw [show (⟨#[32]⟩ : ByteArray) = bs [32] from rfl, show (⟨#[10]⟩ : ByteArray) = bs [10] from rfl]
  rw [num_ok 2 (by omega) (by omega) n (by omega) (by omega) k (by omega), Option.bind_some, catS_bs (by simp; omega), Option.bind_some]
  obtain ⟨q, hq, _⟩ := split_ok l 35 (by omega) (by omega) k (by omega)
  rw [show (35 : Int) = ((35 : Nat) : Int) from rfl, hq, Option.bind_some, chk_int (by simp), Option.bind_some]
  simp only [Int.toNat_zero, List.getD_cons_zero]
  rw [show (UInt8.ofNat 35) = 35 from rfl, show Lib.decDigits n ++ [32] = aheadL n from rfl, bs_size, bs_size]
  have hb := bef_len 35 l
  unfold readL
  generalize bef 35 l = t at hb ⊢
  by_cases h1 : t.length < (aheadL n).length
  · rw [if_pos (by omega), if_pos h1]
    exact ⟨_, _, rfl, fun c r h => by cases h⟩
  rw [if_neg (by omega), if_neg h1, cutTo_int (by omega), Option.bind_some, bs_extract]
  have e1 : (t.drop 0).take ((((aheadL n).length : Nat) : Int).toNat - 0) = t.take (aheadL n).length := by simp
  rw [e1]
  by_cases h2n : ¬ t.take (aheadL n).length = aheadL n
  · rw [if_pos (fun h => h2n (bs_inj.1 h)), if_pos h2n]
    exact ⟨_, _, rfl, fun c r h => by cases h⟩
  have h2 := Classical.not_not.1 h2n
  rw [if_neg (fun h => h (bs_inj.2 h2)), if_neg (fun h => h h2), cut_int (by omega), Option.bind_some]
  dsimp only
  have e2 : (bs t).extract (((aheadL n).length : Nat) : Int).toNat ((((aheadL n).length : Nat) : Int).toNat + (((t.length : Nat) : Int).toNat - (((aheadL n).length : Nat) : Int).toNat)) = bs (t.drop (aheadL n).length) := by
    rw [bs_extract, bs_inj, List.take_of_length_le (by simp)]
    simp
  rw [e2]
  generalize hu : t.drop (aheadL n).length = u
  have hul : u.length ≤ l.length := by rw [← hu, List.length_drop]; omega
  obtain ⟨q2, hq2, _⟩ := split_ok u 64 (by omega) (by omega) k (by omega)
  rw [show (64 : Int) = ((64 : Nat) : Int) from rfl, hq2, Option.bind_some, chk_int (by simp), Option.bind_some]
  simp only [Int.toNat_zero, List.getD_cons_zero]
  rw [show (UInt8.ofNat 64) = 64 from rfl, bs_size, bs_size]
  have hv := bef_len 64 u
  generalize bef 64 u = v at hv ⊢
  by_cases h3 : v.length = u.length
  · rw [if_pos (by omega), if_pos h3]
    exact ⟨_, _, rfl, fun c r h => by cases h⟩
  rw [if_neg (by omega), if_neg h3, w64_id (by omega), cut_int (by omega), Option.bind_some]
  dsimp only
  have e3 : (bs u).extract (((v.length : Nat) : Int) + 1).toNat ((((v.length : Nat) : Int) + 1).toNat + (((u.length : Nat) : Int).toNat - (((v.length : Nat) : Int) + 1).toNat)) = bs (u.drop (v.length + 1)) := by
    rw [bs_extract, bs_inj, List.take_of_length_le (by simp)]
    congr 1
  rw [e3]
  generalize hw : u.drop (v.length + 1) = w
  have hwl : v.length + w.length ≤ l.length := by rw [← hw, List.length_drop]; omega
  rw [specGood_ok v w (by omega) (by omega) k (by omega), Option.bind_some]
  cases hg : goodE v w
  · rw [if_neg (by simp)]
    exact ⟨_, _, rfl, fun c r h => by cases h⟩
  · rw [cond_true, specLine_ok n v w hn (by omega) k (by omega), Option.bind_some, catS_bs (by simp; omega), Option.bind_some]
    by_cases h4 : lineL n v w = l ++ [10]
    · rw [if_pos ⟨rfl, h4⟩, decide_eq_true (bs_inj.2 h4)]
      exact ⟨_, _, rfl, fun c r h => by cases h; exact ⟨rfl, rfl⟩⟩
    · rw [if_neg (fun h => h4 h.2), decide_eq_false (fun h => h4 (bs_inj.1 h))]
      exact ⟨_, _, rfl, fun c r h => by cases h⟩
def bodyOf (t : List UInt8) : List UInt8 := if canSeal (bef 35 t) = true ∧ sealL (bef 35 t) = t then bef 35 t else []
def decS (s : List UInt8) : List UInt8 × List UInt8 := (bef 64 (aft 32 (bodyOf (bef 10 s))), aft 64 (aft 32 (bodyOf (bef 10 s))))
def recL (n : Nat) (s : List UInt8) : Option (List UInt8 × List UInt8) := if goodE (decS s).1 (decS s).2 = true ∧ s.take (lineL n (decS s).1 (decS s).2).length = lineL n (decS s).1 (decS s).2 then some (decS s) else none
theorem line_dec {n : Nat} {c r q : List UInt8} (hn : n < 100) (h : goodE c r = true) : bef 10 (lineL n c r ++ q) = sealL (bodyL n c r) ∧ aft 10 (lineL n c r ++ q) = q ∧ hasB 10 (lineL n c r ++ q) = true ∧ decS (lineL n c r ++ q) = (c, r) := by
  have h1 := bef_app (c := 10) (seal_no10 (n := n) h) q
  have e : lineL n c r ++ q = sealL (bodyL n c r) ++ 10 :: q := by simp [lineL]
  rw [← e] at h1
  refine ⟨h1.1, h1.2.1, h1.2.2, ?_⟩
  obtain ⟨k1, k2, k3, k4, k5⟩ := body_split (n := n) h
  unfold decS bodyOf
  rw [h1.1, k1, if_pos ⟨body_canSeal hn h, rfl⟩, k5, k3, k4]
theorem recL_iff {n : Nat} {s c r : List UInt8} (hn : n < 100) : recL n s = some (c, r) ↔ goodE c r = true ∧ ∃ q, s = lineL n c r ++ q := by
  constructor
  · intro h
    unfold recL at h
    split at h
    · rename_i h1
      simp only [Option.some.injEq] at h
      rw [h] at h1
      refine ⟨h1.1, s.drop (lineL n c r).length, ?_⟩
      conv => lhs; rw [← List.take_append_drop (lineL n c r).length s]
      rw [h1.2]
    · cases h
  · rintro ⟨h, q, rfl⟩
    unfold recL
    rw [(line_dec hn h).2.2.2]
    rw [if_pos ⟨h, by simp⟩]
theorem verify_ok (t : List UInt8) (hl : t.length ≤ 1048576) : ∀ k, t.length + 7 < k → ∃ b, impl_VerifyChecksum.f k (bs t) = some (bs (bodyOf t), b) := by
  intro k hk
  have hb := bef_len 35 t
  unfold impl_VerifyChecksum.f impl_VerifyChecksum.m strings_Cut.f bodyOf
  rw [show (⟨#[35]⟩ : ByteArray) = bs [35] from rfl, cut_bs t 35 (by omega), Option.bind_some]
  dsimp only
  rw [appendSum_ok _ (by omega) k (by omega), Option.bind_some]
  by_cases h : canSeal (bef 35 t) = true
  · rw [if_pos h]
    dsimp only
    rw [Bool.not_true, cond_false]
    by_cases h2 : sealL (bef 35 t) = t
    · rw [if_neg (fun e => e (bs_inj.2 h2)), if_pos ⟨h, h2⟩]
      exact ⟨_, rfl⟩
    · rw [if_pos (fun e => h2 (bs_inj.1 e)), if_neg (fun e => h2 e.2)]
      exact ⟨_, rfl⟩
  · rw [if_neg h]
    dsimp only
    rw [Bool.not_false, cond_true, if_neg (show ¬ (canSeal (bef 35 t) = true ∧ sealL (bef 35 t) = t) from fun e => h e.1)]
    exact ⟨_, rfl⟩
theorem hasPrefix_ok (s t : List UInt8) (k : Nat) : strings_HasPrefix.f k (bs s) (bs t) = some (decide (s.take t.length = t)) := by
  unfold strings_HasPrefix.f strings_HasPrefix.m internal_stringslite_HasPrefix.f internal_stringslite_HasPrefix.m
  rw [bs_size, bs_size]
  by_cases h : t.length ≤ s.length
  · rw [if_pos (by omega), cutTo_int (by omega), Option.bind_some, bs_extract, Option.bind_some]
    congr 1
    apply decide_eq_decide.2
    rw [bs_inj]
    simp
  · rw [if_neg (by omega), Option.bind_some, decide_eq_false]
    intro e
    have := congrArg List.length e
    rw [List.length_take] at this
    omega
theorem implCut_ok (n : Nat) (s : List UInt8) (hn : n ≤ 59) (hl : s.length ≤ 1048576) : ∀ k, s.length + 20 < k → impl_cutRecord.f k (bs s) (n : Int) = some (match recL n s with | some x => (bs x.1, bs x.2, ((lineL n x.1 x.2).length : Int)) | none => (bs [], bs [], 0)) := by
  intro k hk
  have h1 := bef_len 10 s
  unfold impl_cutRecord.f impl_cutRecord.m strings_Cut.f
  rw [show (⟨#[32]⟩ : ByteArray) = bs [32] from rfl, show (⟨#[10]⟩ : ByteArray) = bs [10] from rfl, show (⟨#[64]⟩ : ByteArray) = bs [64] from rfl, cut_bs s 10 (by omega), Option.bind_some]
  dsimp only
  obtain ⟨b, hb⟩ := verify_ok (bef 10 s) (by omega) k (by omega)
  have h2 : (bodyOf (bef 10 s)).length ≤ s.length := by
    have := bef_len 35 (bef 10 s)
    unfold bodyOf
    split
    · omega
    · simp
  have h3 := aft_len 32 (bodyOf (bef 10 s))
  have h4 := bef_aft_len 64 (aft 32 (bodyOf (bef 10 s)))
  rw [hb, Option.bind_some]
  dsimp only
  rw [cut_bs _ 32 (by omega), Option.bind_some]
  dsimp only
  rw [cut_bs _ 64 (by omega), Option.bind_some]
  dsimp only
  rw [show bef 64 (aft 32 (bodyOf (bef 10 s))) = (decS s).1 from rfl, show aft 64 (aft 32 (bodyOf (bef 10 s))) = (decS s).2 from rfl] at *
  rw [implEnc_ok _ _ _ (by omega) k (by omega), Option.bind_some]
  unfold codeE recL
  by_cases hg : goodE (decS s).1 (decS s).2 = true
  · rw [if_pos ⟨by omega, by omega, hg⟩]
    dsimp only
    rw [Bool.not_true, cond_false, hasPrefix_ok, Option.bind_some, Int.toNat_natCast]
    by_cases h5 : s.take (lineL n (decS s).1 (decS s).2).length = lineL n (decS s).1 (decS s).2
    · rw [decide_eq_true h5, if_pos ⟨hg, h5⟩, bs_size]
      rfl
    · rw [decide_eq_false h5, if_neg (fun e => h5 e.2)]
      rfl
  · rw [if_neg (fun e => hg e.2.2), if_neg (fun e => hg e.1)]
    rfl
def consO {β : Type} (o : Option β) (f : β → List β) : List β := match o with
  | none => []
  | some x => x :: f x
def openL : Nat → Nat → List UInt8 → List (List UInt8 × List UInt8)
  | 0, _, _ => []
  | m + 1, n, s => consO (recL n s) fun x => openL m (n + 1) (s.drop (lineL n x.1 x.2).length)
theorem openL_none {m n : Nat} {s : List UInt8} (h : recL n s = none) : openL (m + 1) n s = [] := by
  show consO (recL n s) _ = []
  rw [h]
  rfl
theorem openL_some {m n : Nat} {s : List UInt8} {x : List UInt8 × List UInt8} (h : recL n s = some x) : openL (m + 1) n s = x :: openL m (n + 1) (s.drop (lineL n x.1 x.2).length) := by
  show consO (recL n s) _ = _
  rw [h]
  rfl
theorem openL_zero (n : Nat) (s : List UInt8) : openL 0 n s = [] := rfl
def textL : Nat → List (List UInt8 × List UInt8) → List UInt8
  | _, [] => []
  | n, x :: es => lineL n x.1 x.2 ++ textL (n + 1) es
def bsE (es : List (List UInt8 × List UInt8)) : List (ByteArray × ByteArray) := es.map fun x => (bs x.1, bs x.2)
def endsL : Nat → Nat → List (List UInt8 × List UInt8) → List Int
  | _, _, [] => []
  | n, e, x :: es => ((e + (lineL n x.1 x.2).length : Nat) : Int) :: endsL (n + 1) (e + (lineL n x.1 x.2).length) es
def goods (es : List (List UInt8 × List UInt8)) : Prop := ∀ x ∈ es, goodE x.1 x.2 = true
theorem recL_some {n : Nat} {s : List UInt8} {x : List UInt8 × List UInt8} (hn : n < 100) (h : recL n s = some x) : goodE x.1 x.2 = true ∧ ∃ q, s = lineL n x.1 x.2 ++ q := (recL_iff (c := x.1) (r := x.2) hn).1 h
theorem openL_good : ∀ {m n : Nat} {s : List UInt8}, n + m ≤ 60 → goods (openL m n s)
  | 0, _, _, _ => by intro x hx; cases hx
  | m + 1, n, s, h => by
    cases hx : recL n s with
    | none =>
      rw [openL_none hx]
      intro x hx; cases hx
    | some x =>
      rw [openL_some hx]
      intro y hy
      rcases List.mem_cons.1 hy with rfl | hy
      · exact (recL_some (by omega) hx).1
      · exact openL_good (m := m) (n := n + 1) (by omega) y hy
theorem openL_text : ∀ {m n : Nat} {s : List UInt8}, n + m ≤ 60 → ∃ q, s = textL n (openL m n s) ++ q
  | 0, _, s, _ => ⟨s, rfl⟩
  | m + 1, n, s, h => by
    cases hx : recL n s with
    | none =>
      rw [openL_none hx]
      exact ⟨s, rfl⟩
    | some x =>
      rw [openL_some hx]
      obtain ⟨_, q, rfl⟩ := recL_some (by omega) hx
      rw [List.drop_left]
      obtain ⟨q2, hq2⟩ := openL_text (m := m) (n := n + 1) (s := q) (by omega)
      refine ⟨q2, ?_⟩
      unfold textL
      rw [List.append_assoc, ← hq2]
theorem openL_len : ∀ {m n : Nat} {s : List UInt8}, (openL m n s).length ≤ m
  | 0, _, _ => Nat.le_refl _
  | m + 1, n, s => by
    cases hx : recL n s with
    | none => rw [openL_none hx]; simp
    | some x =>
      rw [openL_some hx, List.length_cons]
      have := openL_len (m := m) (n := n + 1) (s := s.drop (lineL n x.1 x.2).length)
      omega
theorem openL_app : ∀ {es : List (List UInt8 × List UInt8)} {m n : Nat} {q : List UInt8}, goods es → n + es.length ≤ 60 → openL (es.length + m) n (textL n es ++ q) = es ++ openL m (n + es.length) q
  | [], m, n, q, _, _ => by
    show openL (0 + m) n q = openL m n q
    rw [Nat.zero_add]
  | x :: es, m, n, q, hg, hn => by
    have h1 : recL n (textL n (x :: es) ++ q) = some x := (recL_iff (c := x.1) (r := x.2) (by simp at hn; omega)).2 ⟨hg x List.mem_cons_self, textL (n + 1) es ++ q, by rw [textL, List.append_assoc]⟩
    have h2 : (textL n (x :: es) ++ q).drop (lineL n x.1 x.2).length = textL (n + 1) es ++ q := by
      rw [textL, List.append_assoc, List.drop_left]
    rw [List.length_cons, show es.length + 1 + m = (es.length + m) + 1 by omega, openL_some h1, h2, openL_app (fun y hy => hg y (List.mem_cons_of_mem _ hy)) (by simp at hn; omega), show n + 1 + es.length = n + (es.length + 1) by omega]
    rfl
theorem recL_nil {n : Nat} (hn : n < 100) : recL n [] = none := by
  cases h : recL n []
  · rfl
  · rename_i x
    obtain ⟨_, q, hq⟩ := recL_some hn h
    have := congrArg List.length hq
    have h2 := lineL_len x.1 x.2 hn
    rw [List.length_append] at this
    simp at this
    omega
theorem openL_nil {m n : Nat} (h : n + m ≤ 60) : openL m n [] = [] := by
  cases m
  · rfl
  · exact openL_none (recL_nil (by omega))
theorem rec_read {n : Nat} {u : List UInt8} (hn : n < 100) : recL n u = if hasB 10 u = true then readL n (bef 10 u) else none := by
  apply Option.ext
  intro ⟨c, r⟩
  rw [recL_iff hn]
  constructor
  · rintro ⟨h, q, rfl⟩
    obtain ⟨h1, h2, h3, _⟩ := line_dec (n := n) (q := q) hn h
    rw [if_pos h3, h1]
    exact readL_iff.2 ⟨h, rfl⟩
  · intro h
    split at h
    · rename_i h1
      obtain ⟨h2, h3⟩ := readL_iff.1 h
      refine ⟨h2, aft 10 u, ?_⟩
      rw [h3]
      conv => lhs; rw [bef_aft h1]
      simp
    · cases h
theorem bsE_len (es : List (List UInt8 × List UInt8)) : (bsE es).length = es.length := by simp [bsE]
theorem implRead_ok (s : List UInt8) (hl : s.length ≤ 1048500) : ∀ k, s.length + 90 < k → impl_readLog.f k (bs s) = some (bsE (openL 60 0 s), endsL 0 0 (openL 60 0 s)) := by
  have key : ∀ m n k (acc : List (ByteArray × ByteArray)) (ens : List Int) (e : Nat), n + m = 60 → m + s.length + 25 < k → acc.length = n → ens.length = n → e ≤ s.length → impl_readLog.l3 k (bs s) acc ens (e : Int) = some (acc ++ bsE (openL m n (s.drop e)), ens ++ endsL n e (openL m n (s.drop e))) := by
    intro m
    induction m with
    | zero =>
      intro n k acc ens e h1 h2 h3 h4 h5
      obtain ⟨k, rfl⟩ := succ_of (show 0 < k by omega)
      show impl_readLog.b3 (impl_readLog.l3 k) k (bs s) acc ens (e : Int) = _
      unfold impl_readLog.b3
      rw [if_neg (by omega)]
      simp [openL_zero, bsE, endsL]
    | succ m ih =>
      intro n k acc ens e h1 h2 h3 h4 h5
      obtain ⟨k, rfl⟩ := succ_of (show 0 < k by omega)
      show impl_readLog.b3 (impl_readLog.l3 k) k (bs s) acc ens (e : Int) = _
      unfold impl_readLog.b3
      rw [if_pos (by omega), bs_size, cut_int (by omega), Option.bind_some]
      dsimp only
      have e1 : (bs s).extract ((e : Int)).toNat (((e : Int)).toNat + (((s.length : Nat) : Int).toNat - ((e : Int)).toNat)) = bs (s.drop e) := by
        rw [bs_extract, bs_inj, List.take_of_length_le (by simp)]
        simp
      rw [e1, h3, implCut_ok n (s.drop e) (by omega) (by simp; omega) k (by simp; omega), Option.bind_some]
      cases hr : recL n (s.drop e) with
      | none =>
        rw [openL_none hr]
        dsimp only
        rw [if_pos rfl]
        simp [bsE, endsL]
      | some x =>
        rw [openL_some hr]
        dsimp only
        obtain ⟨_, q, hq⟩ := recL_some (by omega) hr
        have h6 := lineL_len x.1 x.2 (show n < 100 by omega)
        have h7 := congrArg List.length hq
        rw [List.length_append, List.length_drop] at h7
        rw [if_neg (by omega), w64_id (by omega), app_ok (by simp; omega), Option.bind_some, app_ok (by simp; omega), Option.bind_some, show ((e : Int) + ((lineL n x.1 x.2).length : Int)) = ((e + (lineL n x.1 x.2).length : Nat) : Int) by omega]
        rw [ih (n + 1) k _ _ (e + (lineL n x.1 x.2).length) (by omega) (by omega) (by simp; omega) (by simp; omega) (by omega), List.drop_drop]
        simp [bsE, endsL]
  intro k hk
  unfold impl_readLog.f impl_readLog.m
  have := key 60 0 k [] [] 0 rfl (by omega) rfl rfl (by omega)
  simpa using this
theorem specOpen_ok (s : List UInt8) (hl : s.length ≤ 1048500) : ∀ k, s.length + 90 < k → spec_l27Open.f k (bs s) = some (bsE (openL 60 0 s), ((textL 0 (openL 60 0 s)).length : Int)) := by
  have key : ∀ m n k (acc : List (ByteArray × ByteArray)) (e : Nat), n + m = 60 → m + s.length + 25 < k → acc.length = n → e ≤ s.length → spec_l27Open.l4 k (bs s) acc (e : Int) = some (acc ++ bsE (openL m n (s.drop e)), ((e + (textL n (openL m n (s.drop e))).length : Nat) : Int)) := by
    intro m
    induction m with
    | zero =>
      intro n k acc e h1 h2 h3 h5
      obtain ⟨k, rfl⟩ := succ_of (show 0 < k by omega)
      show spec_l27Open.b4 (spec_l27Open.l4 k) k (bs s) acc (e : Int) = _
      unfold spec_l27Open.b4
      rw [if_neg (show ¬ ((acc.length : Int) < 60) by omega)]
      simp [openL_zero, bsE, textL]
    | succ m ih =>
      intro n k acc e h1 h2 h3 h5
      obtain ⟨k, rfl⟩ := succ_of (show 0 < k by omega)
      show spec_l27Open.b4 (spec_l27Open.l4 k) k (bs s) acc (e : Int) = _
      unfold spec_l27Open.b4
      by_cases he : e = s.length
      · rw [bs_size, if_neg (by omega)]
        subst he
        rw [List.drop_length, openL_nil (by omega)]
        simp [bsE, textL]
      rw [bs_size, if_pos (by omega), if_pos (by omega), cut_int (by omega), Option.bind_some]
      dsimp only
      have e1 : (bs s).extract ((e : Int)).toNat (((e : Int)).toNat + (((s.length : Nat) : Int).toNat - ((e : Int)).toNat)) = bs (s.drop e) := by
        rw [bs_extract, bs_inj, List.take_of_length_le (by simp)]
        simp
      obtain ⟨q, hq, hq2⟩ := split_ok (s.drop e) 10 (by omega) (by simp; omega) k (by simp; omega)
      rw [show (UInt8.ofNat 10) = 10 from rfl] at hq hq2
      have hb := bef_len 10 (s.drop e)
      rw [List.length_drop] at hb
      obtain ⟨x, y, hx, hx2⟩ := specRead_ok n (bef 10 (s.drop e)) (by omega) (by omega) k (by omega)
      rw [e1, h3, show (10 : Int) = ((10 : Nat) : Int) from rfl, hq, Option.bind_some, chk_int (by simp), Option.bind_some]
      simp only [Int.toNat_zero, List.getD_cons_zero]
      rw [hx, Option.bind_some]
      dsimp only
      have hrr := rec_read (u := s.drop e) (show n < 100 by omega)
      cases hh : hasB 10 (s.drop e)
      · rw [hh, if_neg (by simp)] at hrr
        rw [hq2.2 hh, if_pos (by simp), openL_none hrr]
        simp [bsE, textL]
      · have hqn : q ≠ [] := fun h => by rw [hq2.1 h] at hh; cases hh
        have hql : 0 < q.length := by cases q <;> simp_all
        rw [hh, if_pos rfl] at hrr
        rw [if_neg (by simp; omega)]
        cases hr : readL n (bef 10 (s.drop e)) with
        | none =>
          rw [hr] at hrr
          rw [openL_none hrr]
          dsimp only [Option.isSome]
          rw [Bool.not_false, cond_true]
          simp [bsE, textL]
        | some z =>
          rw [hr] at hrr
          rw [openL_some hrr]
          obtain ⟨h6, h7⟩ := hx2 z.1 z.2 hr
          obtain ⟨h8, h9⟩ := (readL_iff (c := z.1) (r := z.2)).1 hr
          have h10 := congrArg List.length h9
          have h11 := congrArg List.length (bef_aft hh)
          rw [List.length_append] at h10 h11
          simp only [List.length_cons, List.length_nil, List.length_drop] at h10 h11
          dsimp only [Option.isSome]
          rw [Bool.not_true, cond_false, app_ok (by simp; omega), Option.bind_some]
          simp only [Option.bind_some, List.getD_cons_zero]
          rw [bs_size, w64_id (x := (e : Int) + ((bef 10 (s.drop e)).length : Int)) (by omega), w64_id (by omega), show ((e : Int) + ((bef 10 (s.drop e)).length : Int) + 1) = ((e + (lineL n z.1 z.2).length : Nat) : Int) by omega]
          rw [ih (n + 1) k _ (e + (lineL n z.1 z.2).length) (by omega) (by omega) (by simp; omega) (by omega), List.drop_drop, h6, h7]
          simp [bsE, textL]
          omega
  intro k hk
  unfold spec_l27Open.f spec_l27Open.m
  have := key 60 0 k [] 0 rfl (by omega) rfl (by omega)
  simpa using this
def validL (D Q : List UInt8) (cnt : Int) : Bool := decide (D.length + Q.length ≤ 30000) && (decide ((textL 0 (openL 60 0 (D ++ Q))).length = D.length + Q.length) && (decide ((textL 0 (openL 60 0 D)).length = D.length) && decide (((openL 60 0 (D ++ Q)).length : Int) = cnt)))
theorem specLog_ok (D Q : List UInt8) (cnt : Int) (hl : D.length + Q.length ≤ 1152921504606846976) : ∀ k, D.length + Q.length + 90 < k → spec_l27Log.f k (bs D) (bs Q) cnt = some (validL D Q cnt) := by
  intro k hk
  unfold spec_l27Log.f spec_l27Log.m validL
  rw [bs_size, bs_size, w64_id (by omega)]
  by_cases h : D.length + Q.length ≤ 30000
  · rw [if_neg (by omega), decide_eq_true h, Bool.true_and, catS_bs (by omega), Option.bind_some, specOpen_ok _ (by simp; omega) k (by simp; omega), Option.bind_some, specOpen_ok _ (by omega) k (by omega), Option.bind_some]
    dsimp only
    rw [bsE_len]
    by_cases h1 : (textL 0 (openL 60 0 (D ++ Q))).length = D.length + Q.length
    · rw [if_pos (by omega), decide_eq_true h1, Bool.true_and]
      by_cases h2 : (textL 0 (openL 60 0 D)).length = D.length
      · rw [if_pos (by omega), decide_eq_true h2, Bool.true_and]
      · rw [if_neg (by omega), decide_eq_false h2]; rfl
    · rw [if_neg (by omega), decide_eq_false h1]; rfl
  · rw [if_pos (by omega), decide_eq_false h]; rfl
def stepD (d : Int) (a : Int × Bool) (n : Int) : Int × Bool := (n, a.2 || decide (n = d))
theorem ends_fold (d : Int) : ∀ (es : List (List UInt8 × List UInt8)) (n e : Nat) (b : Bool), (endsL n e es).foldl (stepD d) ((e : Int), b) = (((e + (textL n es).length : Nat) : Int), b || (endsL n e es).any fun x => decide (x = d))
  | [], n, e, b => by simp [endsL, textL]
  | x :: es, n, e, b => by
    rw [endsL, List.foldl_cons]
    have : stepD d ((e : Int), b) ((e + (lineL n x.1 x.2).length : Nat) : Int) = (((e + (lineL n x.1 x.2).length : Nat) : Int), b || decide (((e + (lineL n x.1 x.2).length : Nat) : Int) = d)) := rfl
    rw [this, ends_fold d es (n + 1) (e + (lineL n x.1 x.2).length), List.any_cons, textL, List.length_append, Bool.or_assoc]
    congr 2
    omega
theorem implRecords_ok (D Q : List UInt8) (cnt : Int) (hl : D.length + Q.length ≤ 1152921504606846976) : ∀ k, D.length + Q.length + 200 < k → impl_Log_records.f k (bs D) (bs Q) cnt = some (if D.length + Q.length ≤ 30000 then (bsE (openL 60 0 (D ++ Q)), (decide (D = []) || (endsL 0 0 (openL 60 0 (D ++ Q))).any fun x => decide (x = (D.length : Int))) && (decide ((textL 0 (openL 60 0 (D ++ Q))).length = D.length + Q.length) && decide (cnt = ((openL 60 0 (D ++ Q)).length : Int)))) else ([], false)) := by
  intro k hk
  unfold impl_Log_records.f impl_Log_records.m
  rw [bs_size, bs_size, w64_id (by omega)]
  by_cases h : D.length + Q.length ≤ 30000
  · rw [if_neg (by omega), if_pos h, catS_bs (by omega), Option.bind_some, implRead_ok _ (by simp; omega) k (by simp; omega), Option.bind_some]
    dsimp only
    have hd : decide (bs D = (⟨#[]⟩ : ByteArray)) = decide (D = []) := decide_eq_decide.2 (by rw [bs_nil, bs_inj])
    have hlen : (endsL 0 0 (openL 60 0 (D ++ Q))).length ≤ 60 := by
      have : ∀ (es : List (List UInt8 × List UInt8)) (n e : Nat), (endsL n e es).length = es.length := by
        intro es
        induction es with
        | nil => intro n e; rfl
        | cons x es ih => intro n e; simp [endsL, ih]
      rw [this]
      exact openL_len
    have hf := ends_fold (D.length : Int) (openL 60 0 (D ++ Q)) 0 0 (decide (D = []))
    rw [hd]
    generalize endsL 0 0 (openL 60 0 (D ++ Q)) = ens at hlen hf ⊢
    have key := scan_fold (l := ens) (L := fun k i (a : Int × Bool) => impl_Log_records.l8 k (bs D) (bs Q) cnt (bsE (openL 60 0 (D ++ Q))) a.1 a.2 ens (ens.length : Int) (i : Int)) (P := fun _ => True) (d := (0 : Int)) (K0 := 0) (f := stepD (D.length : Int)) (g := fun a => (bsE (openL 60 0 (D ++ Q)), a.2 && (decide (a.1 = (D.length : Int) + (Q.length : Int)) && decide (cnt = ((openL 60 0 (D ++ Q)).length : Int))))) (fun k i a _ hi _ => by
      show impl_Log_records.b8 (impl_Log_records.l8 k) k (bs D) (bs Q) cnt (bsE (openL 60 0 (D ++ Q))) a.1 a.2 ens (ens.length : Int) (i : Int) = _
      unfold impl_Log_records.b8
      rw [if_pos (by omega), chk_nat hi, Option.bind_some, w64_id (by omega), bs_size]
      unfold stepD
      cases a.2
      · rfl
      · rfl) (fun _ _ _ => trivial) (fun k a _ _ => by
      show impl_Log_records.b8 (impl_Log_records.l8 k) k (bs D) (bs Q) cnt (bsE (openL 60 0 (D ++ Q))) a.1 a.2 ens (ens.length : Int) (ens.length : Int) = _
      unfold impl_Log_records.b8
      rw [if_neg (by omega), bs_size, bs_size, w64_id (by omega), bsE_len]
      cases a.2
      · rfl
      · rw [cond_true]
        by_cases h1 : a.1 = (D.length : Int) + (Q.length : Int)
        · rw [if_pos h1, decide_eq_true h1]; rfl
        · rw [if_neg h1, decide_eq_false h1]; rfl) k ((0 : Int), decide (D = [])) trivial (by omega)
    rw [show ((0 : Int), decide (D = [])) = (((0 : Nat) : Int), decide (D = [])) from rfl, hf] at key
    refine Eq.trans key ?_
    dsimp only
    rw [show decide (((0 + (textL 0 (openL 60 0 (D ++ Q))).length : Nat) : Int) = (D.length : Int) + (Q.length : Int)) = decide ((textL 0 (openL 60 0 (D ++ Q))).length = D.length + Q.length) from decide_eq_decide.2 (by omega)]
  · rw [if_pos (by omega), if_neg h]
theorem goods_take {es : List (List UInt8 × List UInt8)} (h : goods es) (j : Nat) : goods (es.take j) := fun x hx => h x (List.mem_of_mem_take hx)
theorem textL_app : ∀ (a b : List (List UInt8 × List UInt8)) (n : Nat), textL n (a ++ b) = textL n a ++ textL (n + a.length) b
  | [], b, n => rfl
  | x :: a, b, n => by
    rw [List.cons_append, textL, textL, textL_app a b (n + 1), List.append_assoc, List.length_cons, show n + 1 + a.length = n + (a.length + 1) by omega]
theorem ends_any : ∀ (es : List (List UInt8 × List UInt8)) (n e d : Nat), ((endsL n e es).any fun x => decide (x = (d : Int))) = true ↔ ∃ j, 1 ≤ j ∧ j ≤ es.length ∧ e + (textL n (es.take j)).length = d
  | [], n, e, d => by
    constructor
    · intro h; cases h
    · rintro ⟨j, h1, h2, _⟩
      simp at h2
      omega
  | x :: es, n, e, d => by
    rw [endsL, List.any_cons, Bool.or_eq_true, ends_any es (n + 1) (e + (lineL n x.1 x.2).length) d, decide_eq_true_eq]
    constructor
    · rintro (h | ⟨j, h1, h2, h3⟩)
      · refine ⟨1, Nat.le_refl _, by simp, ?_⟩
        rw [List.take_succ_cons, textL, List.take_zero, textL, List.append_nil]
        omega
      · refine ⟨j + 1, by omega, by simpa using h2, ?_⟩
        rw [List.take_succ_cons, textL, List.length_append]
        omega
    · rintro ⟨j, h1, h2, h3⟩
      obtain ⟨j, rfl⟩ := succ_of (show 0 < j by omega)
      rw [List.take_succ_cons, textL, List.length_append] at h3
      cases j with
      | zero =>
        left
        rw [List.take_zero, textL] at h3
        simp at h3
        omega
      | succ j => exact .inr ⟨j + 1, by omega, by simpa using h2, by omega⟩
/-- Some records end where the durable part ends, exactly if it is read whole. -/
theorem durable_iff {D Q : List UInt8} (ht : (textL 0 (openL 60 0 (D ++ Q))).length = D.length + Q.length) : (decide (D = []) || (endsL 0 0 (openL 60 0 (D ++ Q))).any fun x => decide (x = (D.length : Int))) = decide ((textL 0 (openL 60 0 D)).length = D.length) := by
  obtain ⟨q, hq⟩ := openL_text (m := 60) (n := 0) (s := D ++ Q) (by omega)
  have hq0 : q = [] := by
    have := congrArg List.length hq
    simp only [List.length_append] at this ht
    exact List.length_eq_zero_iff.1 (by omega)
  rw [hq0, List.append_nil] at hq
  have hg := openL_good (m := 60) (n := 0) (s := D ++ Q) (by omega)
  have hle := openL_len (m := 60) (n := 0) (s := D ++ Q)
  have e : ((decide (D = []) || (endsL 0 0 (openL 60 0 (D ++ Q))).any fun x => decide (x = (D.length : Int))) = true) ↔ ∃ j, j ≤ (openL 60 0 (D ++ Q)).length ∧ (textL 0 ((openL 60 0 (D ++ Q)).take j)).length = D.length := by
    rw [Bool.or_eq_true, ends_any, decide_eq_true_eq]
    constructor
    · rintro (rfl | ⟨j, _, h2, h3⟩)
      · exact ⟨0, Nat.zero_le _, rfl⟩
      · exact ⟨j, h2, by omega⟩
    · rintro ⟨j, h2, h3⟩
      cases j with
      | zero => left; rw [List.take_zero, textL] at h3; exact List.length_eq_zero_iff.1 h3.symm
      | succ j => exact .inr ⟨j + 1, by omega, h2, by omega⟩
  rw [Bool.eq_iff_iff, e, decide_eq_true_eq]
  constructor
  · rintro ⟨j, h2, h3⟩
    have h4 : textL 0 ((openL 60 0 (D ++ Q)).take j) = D := by
      have h5 : D ++ Q = textL 0 ((openL 60 0 (D ++ Q)).take j) ++ textL (0 + ((openL 60 0 (D ++ Q)).take j).length) ((openL 60 0 (D ++ Q)).drop j) := by
        rw [← textL_app, List.take_append_drop]
        exact hq
      exact (List.append_inj_left h5 h3.symm).symm
    have hjl : ((openL 60 0 (D ++ Q)).take j).length = j := by rw [List.length_take]; omega
    have h6 := openL_app (q := []) (m := 60 - j) (n := 0) (goods_take hg j) (by omega)
    rw [h4, List.append_nil, hjl, show j + (60 - j) = 60 by omega, openL_nil (by omega), List.append_nil] at h6
    rw [h6, h3]
  · intro h
    obtain ⟨q2, hq2⟩ := openL_text (m := 60) (n := 0) (s := D) (by omega)
    have hq3 : q2 = [] := by
      have := congrArg List.length hq2
      rw [List.length_append] at this
      exact List.length_eq_zero_iff.1 (by omega)
    rw [hq3, List.append_nil] at hq2
    have hg2 := openL_good (m := 60) (n := 0) (s := D) (by omega)
    have hle2 := openL_len (m := 60) (n := 0) (s := D)
    have h6 := openL_app (q := Q) (m := 60 - (openL 60 0 D).length) (n := 0) hg2 (by omega)
    rw [← hq2, show (openL 60 0 D).length + (60 - (openL 60 0 D).length) = 60 by omega] at h6
    refine ⟨(openL 60 0 D).length, ?_, ?_⟩
    · have := congrArg List.length h6
      rw [List.length_append] at this
      omega
    · rw [h6, List.take_left]
      exact h
theorem implValid_eq (D Q : List UInt8) (cnt : Int) (h : D.length + Q.length ≤ 30000) : ((decide (D = []) || (endsL 0 0 (openL 60 0 (D ++ Q))).any fun x => decide (x = (D.length : Int))) && (decide ((textL 0 (openL 60 0 (D ++ Q))).length = D.length + Q.length) && decide (cnt = ((openL 60 0 (D ++ Q)).length : Int)))) = validL D Q cnt := by
  unfold validL
  rw [decide_eq_true h, Bool.true_and, show decide (cnt = ((openL 60 0 (D ++ Q)).length : Int)) = decide (((openL 60 0 (D ++ Q)).length : Int) = cnt) from decide_eq_decide.2 eq_comm]
  by_cases ht : (textL 0 (openL 60 0 (D ++ Q))).length = D.length + Q.length
  · rw [durable_iff ht, decide_eq_true ht, Bool.true_and, Bool.true_and]
  · rw [decide_eq_false ht, Bool.false_and, Bool.and_false, Bool.false_and]
def logRes (D Q : List UInt8) : List (List UInt8 × List UInt8) := if D.length + Q.length ≤ 30000 then openL 60 0 (D ++ Q) else []
theorem implRecs_ok (D Q : List UInt8) (cnt : Int) (hl : D.length + Q.length ≤ 1152921504606846976) : ∀ k, D.length + Q.length + 200 < k → impl_Log_records.f k (bs D) (bs Q) cnt = some (bsE (logRes D Q), validL D Q cnt) := by
  intro k hk
  rw [implRecords_ok D Q cnt hl k hk]
  unfold logRes
  by_cases h : D.length + Q.length ≤ 30000
  · rw [if_pos h, if_pos h, implValid_eq D Q cnt h]
  · rw [if_neg h, if_neg h]
    unfold validL
    rw [decide_eq_false h]
    rfl
theorem implValid_ok (D Q : List UInt8) (cnt : Int) (hl : D.length + Q.length ≤ 1152921504606846976) : ∀ k, D.length + Q.length + 200 < k → impl_IsValidLog.f k (bs D) (bs Q) cnt = some (validL D Q cnt) := by
  intro k hk
  unfold impl_IsValidLog.f impl_IsValidLog.m
  rw [implRecs_ok D Q cnt hl k hk]
  rfl
theorem szLog_ok (D Q : List UInt8) (cnt left : Int) (h : 0 ≤ left ∧ left ≤ 1048576) (hc : D.length ≤ 140737488351232) (hr : Q.length ≤ 140737488351232) (k : Nat) : laws_szLog.f k (bs D) (bs Q) cnt left = some (if left < (D.length : Int) + (Q.length : Int) then -1 else left - D.length - Q.length) := by
  unfold laws_szLog.f laws_szLog.m
  rw [bs_size, bs_size, w64_id (x := left - (D.length : Int)) (by omega), w64_id (by omega)]
  by_cases h1 : left < (D.length : Int) + (Q.length : Int)
  · rw [if_pos h1]
    by_cases h2 : left - (D.length : Int) < 0
    · rw [if_pos h2]
    · rw [if_neg h2, if_pos (by omega)]
  · rw [if_neg h1, if_neg (by omega), if_neg (by omega)]
theorem eqLog_self (k : Nat) (a b : ByteArray) (c : Int) : laws_eqLog.f k a b c a b c = some true := by
  unfold laws_eqLog.f laws_eqLog.m
  rw [if_neg (fun h => h rfl), if_neg (fun h => h rfl), if_neg (fun h => h rfl)]
abbrev C5 := Int × Int × Int × Int × Int
def rdC (xs : List C5) (i : Int) : C5 := xs.getD i.toNat (0, 0, 0, 0, 0)
theorem rdC_nat (xs : List C5) (i : Nat) : rdC xs (i : Int) = xs.getD i (0, 0, 0, 0, 0) := by unfold rdC; rw [Int.toNat_natCast]
def carpB (day looms : Int) (c : C5) : Bool := inB c.1 1 500 && inB c.2.1 0 c.1 && inB c.2.2.1 0 4 && inB c.2.2.2.2 0 day && (if c.2.2.1 = 1 then inB c.2.2.2.1 1 looms else if c.2.2.1 = 0 then decide (c.2.1 = 0) && decide (c.2.2.2.1 = 0) else decide (c.2.1 = c.1) && decide (c.2.2.2.1 = 0))
/-- No earlier carpet is on the same loom. -/
def soloB (cs : List C5) (i : Nat) (c : C5) : Bool := (cs.take i).all fun d => !(decide (c.2.2.2.1 > 0) && decide (d.2.2.2.1 = c.2.2.2.1))
def rowsB (day looms : Int) (cs : List C5) : Bool := (List.range cs.length).all fun i => carpB day looms (cs.getD i ⟨0, 0, 0, 0, 0⟩) && soloB cs i (cs.getD i ⟨0, 0, 0, 0, 0⟩)
def shopB (day looms : Int) (cs : List C5) (money : Int) : Bool := inB day 0 4000 && inB looms 1 4 && inB money 0 1000000 && decide (cs.length ≤ 8) && rowsB day looms cs
theorem carpB_woven {day looms : Int} {c : C5} (h : carpB day looms c = true) : c.2.2.2.1 > 0 ↔ c.2.2.1 = 1 := by
  unfold carpB at h
  simp only [Bool.and_eq_true, inB_iff] at h
  obtain ⟨_, h5⟩ := h
  constructor
  · intro hp
    by_cases e : c.2.2.1 = 1
    · exact e
    · rw [if_neg e] at h5
      split at h5 <;> simp at h5 <;> omega
  · intro e; rw [if_pos e, inB_iff] at h5; omega
theorem rowsB_iff {day looms : Int} {cs : List C5} : rowsB day looms cs = true ↔ ∀ (i : Nat) (c : C5), cs[i]? = some c → carpB day looms c = true ∧ ∀ (j : Nat) (d : C5), j < i → cs[j]? = some d → c.2.2.2.1 > 0 → d.2.2.2.1 ≠ c.2.2.2.1 := by
  unfold rowsB
  rw [List.all_eq_true]
  constructor
  · intro h i c hc
    have hi := (List.getElem?_eq_some_iff.1 hc).1
    have := h i (List.mem_range.2 hi)
    rw [List.getD_eq_getElem?_getD, hc] at this
    simp only [Option.getD_some, Bool.and_eq_true] at this
    refine ⟨this.1, fun j d hj hd hp he => ?_⟩
    have h2 := this.2
    unfold soloB at h2
    rw [List.all_eq_true] at h2
    have hm : d ∈ cs.take i := List.mem_of_getElem? (i := j) (by rw [List.getElem?_take, if_pos hj, hd])
    have := h2 d hm
    simp [hp, he] at this
  · intro h i hi
    rw [List.mem_range] at hi
    have hc : cs[i]? = some cs[i] := List.getElem?_eq_getElem hi
    obtain ⟨h1, h2⟩ := h i _ hc
    rw [List.getD_eq_getElem?_getD, hc]
    simp only [Option.getD_some, Bool.and_eq_true]
    refine ⟨h1, ?_⟩
    unfold soloB
    rw [List.all_eq_true]
    intro d hd
    obtain ⟨j, hj⟩ := List.mem_iff_getElem?.1 hd
    rw [List.getElem?_take] at hj
    split at hj
    · next hji =>
      by_cases hp : cs[i].2.2.2.1 > 0
      · have := h2 j d hji hj hp
        simp [this]
      · simp [hp]
    · exact absurd hj (by simp)
/-- The first carpet on a loom, or -1. -/
def onB (cs : List C5) (loom : Int) : Int := match cs.findIdx? (fun c => decide (c.2.2.1 = 1) && decide (c.2.2.2.1 = loom)) with | some i => (i : Int) | none => -1
theorem onB_eq {cs : List C5} {loom : Int} {i : Nat} {c : C5} (hc : cs[i]? = some c) (h1 : c.2.2.1 = 1) (h2 : c.2.2.2.1 = loom) : onB cs loom = (i : Int) ↔ ∀ (j : Nat) (d : C5), j < i → cs[j]? = some d → ¬ (d.2.2.1 = 1 ∧ d.2.2.2.1 = loom) := by
  have hi := (List.getElem?_eq_some_iff.1 hc).1
  have hg := (List.getElem?_eq_some_iff.1 hc).2
  unfold onB
  split
  · next k h =>
    rw [List.findIdx?_eq_some_iff_getElem] at h
    obtain ⟨hk, hp, hq⟩ := h
    simp only [Bool.and_eq_true, decide_eq_true_eq] at hp
    constructor
    · intro e j d hj hd hh
      have : k = i := by omega
      subst this
      have := hq j hj
      rw [(List.getElem?_eq_some_iff.1 hd).2] at this
      simp [hh.1, hh.2] at this
    · intro hall
      rcases Nat.lt_trichotomy k i with hlt | e | hgt
      · exact absurd hp (hall k _ hlt (List.getElem?_eq_getElem hk))
      · rw [e]
      · have := hq i hgt
        rw [hg] at this; simp [h1, h2] at this
  · next h =>
    rw [List.findIdx?_eq_none_iff] at h
    have := h c (List.mem_of_getElem? hc)
    simp [h1, h2] at this
/-- What the program asks of each carpet. -/
def rowsI (day looms : Int) (cs : List C5) : Bool := (List.range cs.length).all fun i => carpB day looms (cs.getD i ⟨0, 0, 0, 0, 0⟩) && !(decide ((cs.getD i ⟨0, 0, 0, 0, 0⟩).2.2.1 = 1) && decide (onB cs (cs.getD i ⟨0, 0, 0, 0, 0⟩).2.2.2.1 ≠ (i : Int)))
theorem rowsI_eq (day looms : Int) (cs : List C5) : rowsI day looms cs = rowsB day looms cs := by
  rw [Bool.eq_iff_iff, rowsB_iff]
  unfold rowsI; rw [List.all_eq_true]
  have key : (∀ i ∈ List.range cs.length, (carpB day looms (cs.getD i ⟨0, 0, 0, 0, 0⟩) && !(decide ((cs.getD i ⟨0, 0, 0, 0, 0⟩).2.2.1 = 1) && decide (onB cs (cs.getD i ⟨0, 0, 0, 0, 0⟩).2.2.2.1 ≠ (i : Int)))) = true) ↔ ∀ (i : Nat) (c : C5), cs[i]? = some c → carpB day looms c = true ∧ (c.2.2.1 = 1 → onB cs c.2.2.2.1 = (i : Int)) := by
    constructor
    · intro h i c hc
      have := h i (List.mem_range.2 (List.getElem?_eq_some_iff.1 hc).1)
      rw [List.getD_eq_getElem?_getD, hc] at this
      simp only [Option.getD_some, Bool.and_eq_true] at this
      refine ⟨this.1, fun e => ?_⟩
      have h2 := this.2
      simpa [e] using h2
    · intro h i hi
      rw [List.mem_range] at hi
      obtain ⟨h1, h2⟩ := h i _ (List.getElem?_eq_getElem hi)
      rw [List.getD_eq_getElem?_getD, List.getElem?_eq_getElem hi]
      simp only [Option.getD_some, Bool.and_eq_true]
      refine ⟨h1, ?_⟩
      by_cases e : cs[i].2.2.1 = 1
      · simp [e, h2 e]
      · simp [e]
  rw [key]
  constructor
  · intro h i c hc
    obtain ⟨h1, h2⟩ := h i c hc
    refine ⟨h1, fun j d hj hd hp he => ?_⟩
    have hw := (carpB_woven h1).1 hp
    have hd1 := (h j d hd).1
    exact (onB_eq hc hw rfl).1 (h2 hw) j d hj hd ⟨(carpB_woven hd1).1 (by omega), he⟩
  · intro h i c hc
    obtain ⟨h1, h2⟩ := h i c hc
    refine ⟨h1, fun hw => (onB_eq hc hw rfl).2 fun j d hj hd hh => ?_⟩
    exact h2 j d hj hd ((carpB_woven h1).2 hw) hh.2
theorem shopB_of {day looms money : Int} {cs : List C5} (h : shopB day looms cs money = true) : (0 ≤ day ∧ day ≤ 4000) ∧ (1 ≤ looms ∧ looms ≤ 4) ∧ (0 ≤ money ∧ money ≤ 1000000) ∧ cs.length ≤ 8 ∧ rowsB day looms cs = true := by
  unfold shopB at h; simp only [Bool.and_eq_true, inB_iff, decide_eq_true_eq] at h
  exact ⟨h.1.1.1.1, h.1.1.1.2, h.1.1.2, h.1.2, h.2⟩
theorem implIn_eq (k : Nat) (n lo hi : Int) : impl_in.f k n lo hi = some (inB n lo hi) := by
  unfold impl_in.f impl_in.m inB; by_cases h : lo ≤ n <;> simp [h]
theorem specIn_eq (k : Nat) (n lo hi : Int) : spec_l1In.f k n lo hi = some (inB n lo hi) := by
  unfold spec_l1In.f spec_l1In.m inB; by_cases h : lo ≤ n <;> simp [h]
theorem implCarpet_eq (k : Nat) (day looms money : Int) (cs : List C5) (a b c d e : Int) : impl_Shop_isCarpet.f k day looms cs money a b c d e = some (carpB day looms ⟨a, b, c, d, e⟩) := by
  unfold impl_Shop_isCarpet.f impl_Shop_isCarpet.m carpB
  simp only [implIn_eq, Option.bind_some]
  cases h1 : inB a 1 500 <;> simp only [Bool.not_true, Bool.not_false, cond_true, cond_false, Bool.true_and, Bool.false_and, Bool.and_true, Bool.and_false, Bool.false_eq_true, Bool.true_or, Bool.or_true, Bool.false_or, Bool.or_false, Bool.or_self, Bool.and_self, decide_true, decide_false, if_true, if_false, not_true, not_false_eq_true, not_true_eq_false, false_or, or_false, true_and, and_true, Bool.not_eq_true, Bool.true_eq_false, reduceCtorEq]
  cases h2 : inB b 0 a <;> simp only [Bool.not_true, Bool.not_false, cond_true, cond_false, Bool.true_and, Bool.false_and, Bool.and_true, Bool.and_false, Bool.false_eq_true, Bool.true_or, Bool.or_true, Bool.false_or, Bool.or_false, Bool.or_self, Bool.and_self, decide_true, decide_false, if_true, if_false, not_true, not_false_eq_true, not_true_eq_false, false_or, or_false, true_and, and_true, Bool.not_eq_true, Bool.true_eq_false, reduceCtorEq]
  cases h3 : inB c 0 4 <;> simp only [Bool.not_true, Bool.not_false, cond_true, cond_false, Bool.true_and, Bool.false_and, Bool.and_true, Bool.and_false, Bool.false_eq_true, Bool.true_or, Bool.or_true, Bool.false_or, Bool.or_false, Bool.or_self, Bool.and_self, decide_true, decide_false, if_true, if_false, not_true, not_false_eq_true, not_true_eq_false, false_or, or_false, true_and, and_true, Bool.not_eq_true, Bool.true_eq_false, reduceCtorEq]
  cases h4 : inB e 0 day <;> simp only [Bool.not_true, Bool.not_false, cond_true, cond_false, Bool.true_and, Bool.false_and, Bool.and_true, Bool.and_false, Bool.false_eq_true, Bool.true_or, Bool.or_true, Bool.false_or, Bool.or_false, Bool.or_self, Bool.and_self, decide_true, decide_false, if_true, if_false, not_true, not_false_eq_true, not_true_eq_false, false_or, or_false, true_and, and_true, Bool.not_eq_true, Bool.true_eq_false, reduceCtorEq]
  by_cases h5 : c = 0
  · subst h5; by_cases h6 : b = 0 <;> simp [h6]
  · by_cases h6 : c = 1
    · simp [h5, h6]
    · by_cases h7 : b = a <;> simp [h5, h6, h7]
theorem specCarpet_eq (k : Nat) (day looms money : Int) (cs : List C5) (a b c d e : Int) : spec_l25Carpet.f k day looms cs money a b c d e = some (carpB day looms ⟨a, b, c, d, e⟩) := by
  unfold spec_l25Carpet.f spec_l25Carpet.m carpB
  simp only [specIn_eq, Option.bind_some]
  cases h1 : inB a 1 500 <;> simp only [Bool.not_true, Bool.not_false, cond_true, cond_false, Bool.true_and, Bool.false_and, Bool.and_true, Bool.and_false, Bool.false_eq_true, Bool.true_or, Bool.or_true, Bool.false_or, Bool.or_false, Bool.or_self, Bool.and_self, decide_true, decide_false, if_true, if_false, not_true, not_false_eq_true, not_true_eq_false, false_or, or_false, true_and, and_true, Bool.not_eq_true, Bool.true_eq_false, reduceCtorEq]
  cases h2 : inB b 0 a <;> simp only [Bool.not_true, Bool.not_false, cond_true, cond_false, Bool.true_and, Bool.false_and, Bool.and_true, Bool.and_false, Bool.false_eq_true, Bool.true_or, Bool.or_true, Bool.false_or, Bool.or_false, Bool.or_self, Bool.and_self, decide_true, decide_false, if_true, if_false, not_true, not_false_eq_true, not_true_eq_false, false_or, or_false, true_and, and_true, Bool.not_eq_true, Bool.true_eq_false, reduceCtorEq]
  cases h3 : inB c 0 4 <;> simp only [Bool.not_true, Bool.not_false, cond_true, cond_false, Bool.true_and, Bool.false_and, Bool.and_true, Bool.and_false, Bool.false_eq_true, Bool.true_or, Bool.or_true, Bool.false_or, Bool.or_false, Bool.or_self, Bool.and_self, decide_true, decide_false, if_true, if_false, not_true, not_false_eq_true, not_true_eq_false, false_or, or_false, true_and, and_true, Bool.not_eq_true, Bool.true_eq_false, reduceCtorEq]
  cases h4 : inB e 0 day <;> simp only [Bool.not_true, Bool.not_false, cond_true, cond_false, Bool.true_and, Bool.false_and, Bool.and_true, Bool.and_false, Bool.false_eq_true, Bool.true_or, Bool.or_true, Bool.false_or, Bool.or_false, Bool.or_self, Bool.and_self, decide_true, decide_false, if_true, if_false, not_true, not_false_eq_true, not_true_eq_false, false_or, or_false, true_and, and_true, Bool.not_eq_true, Bool.true_eq_false, reduceCtorEq]
  by_cases h6 : c = 1
  · simp [h6]
  · by_cases h5 : c = 0
    · subst h5; by_cases h7 : d = 0 <;> simp [h7]
    · by_cases h7 : d = 0 <;> simp [h5, h6, h7]
theorem onLoom_eq (k : Nat) (day looms money : Int) (cs : List C5) (hl : cs.length ≤ 100000000000000) (hk : cs.length + 50 < k) (loom : Int) : impl_Shop_onLoom.f k day looms cs money loom = some (onB cs loom) := by
  unfold impl_Shop_onLoom.f impl_Shop_onLoom.m slices_IndexFunc_impl_Carpet_impl_Carpet__impl_Shop_onLoom_1.f slices_IndexFunc_impl_Carpet_impl_Carpet__impl_Shop_onLoom_1.m
  have h := (find_loop (L := fun k i => slices_IndexFunc_impl_Carpet_impl_Carpet__impl_Shop_onLoom_1.l3 k cs loom cs.length (i : Int)) (n := cs.length) (K0 := 20) (ok := fun i => decide ((cs.getD i (0, 0, 0, 0, 0)).2.2.1 = 1) && decide ((cs.getD i (0, 0, 0, 0, 0)).2.2.2.1 = loom)) (fun k i hk hi => ?_) (fun k hk => ?_)) cs.length k 0 (by omega) (by omega)
  · rw [show ((0 : Nat) : Int) = 0 from rfl] at h
    by_cases ha : ∀ i, i < cs.length → (!(decide ((cs.getD i (0, 0, 0, 0, 0)).2.2.1 = 1) && decide ((cs.getD i (0, 0, 0, 0, 0)).2.2.2.1 = loom))) = true
    · rw [h.1 (fun j _ hj => by have := ha j hj; rwa [Bool.not_eq_true'] at this)]
      have : onB cs loom = -1 := by
        unfold onB
        have hn : cs.findIdx? (fun c => decide (c.2.2.1 = 1) && decide (c.2.2.2.1 = loom)) = none := by
          rw [List.findIdx?_eq_none_iff]; intro c hc
          obtain ⟨j, hj, rfl⟩ := List.mem_iff_getElem.1 hc
          have := ha j hj
          rw [getD_lt hj, Bool.not_eq_true'] at this; exact this
        rw [hn]
      rw [this]; rfl
    · obtain ⟨t, h1, h2, h3⟩ := first_bad ha
      rw [Bool.not_eq_false'] at h2
      rw [h.2 t (Nat.zero_le _) h1 h2 (fun j _ hj => by have := h3 j hj; rwa [Bool.not_eq_true'] at this)]
      simp only [Bool.and_eq_true, decide_eq_true_eq] at h2
      rw [getD_lt h1] at h2
      have := (onB_eq (List.getElem?_eq_getElem h1) h2.1 h2.2).2 (fun j d hj hd hc => by
        have := h3 j hj
        rw [getD_lt (by omega), (List.getElem?_eq_some_iff.1 hd).2] at this
        simp [hc.1, hc.2] at this)
      rw [this]; rfl
  · simp (disch := omega) only [slices_IndexFunc_impl_Carpet_impl_Carpet__impl_Shop_onLoom_1.l3, slices_IndexFunc_impl_Carpet_impl_Carpet__impl_Shop_onLoom_1.b3, impl_Shop_onLoom_1.f, impl_Shop_onLoom_1.m, if_pos, chk_nat, Option.bind_some, w64_id, Int.natCast_add, Int.cast_ofNat_Int]
    by_cases e : (cs.getD i (0, 0, 0, 0, 0)).2.2.1 = 1 <;> by_cases e2 : (cs.getD i (0, 0, 0, 0, 0)).2.2.2.1 = loom <;> simp only [e, e2, Bool.not_true, Bool.not_false, cond_true, cond_false, Bool.true_and, Bool.false_and, Bool.and_true, Bool.and_false, Bool.false_eq_true, Bool.true_or, Bool.or_true, Bool.false_or, Bool.or_false, Bool.or_self, Bool.and_self, decide_true, decide_false, if_true, if_false, not_true, not_false_eq_true, not_true_eq_false, false_or, or_false, true_and, and_true, Bool.not_eq_true, Bool.true_eq_false, reduceCtorEq, Option.bind_some]
  · simp (disch := omega) only [slices_IndexFunc_impl_Carpet_impl_Carpet__impl_Shop_onLoom_1.l3, slices_IndexFunc_impl_Carpet_impl_Carpet__impl_Shop_onLoom_1.b3, if_neg]
theorem isShop_eq (k : Nat) (day looms money : Int) (cs : List C5) (hk : 300 ≤ k) : impl_IsShop.f k day looms cs money = some (shopB day looms cs money) := by
  unfold impl_IsShop.f impl_IsShop.m shopB impl_isDay.f impl_isDay.m
  simp only [implIn_eq, Option.bind_some]
  cases h1 : inB day 0 4000 <;> simp only [Bool.not_true, Bool.not_false, cond_true, cond_false, Bool.true_and, Bool.false_and, Bool.and_true, Bool.and_false, Bool.false_eq_true, Bool.true_or, Bool.or_true, Bool.false_or, Bool.or_false, Bool.or_self, Bool.and_self, decide_true, decide_false, if_true, if_false, not_true, not_false_eq_true, not_true_eq_false, false_or, or_false, true_and, and_true, Bool.not_eq_true, Bool.true_eq_false, reduceCtorEq]
  cases h2 : inB looms 1 4 <;> simp only [Bool.not_true, Bool.not_false, cond_true, cond_false, Bool.true_and, Bool.false_and, Bool.and_true, Bool.and_false, Bool.false_eq_true, Bool.true_or, Bool.or_true, Bool.false_or, Bool.or_false, Bool.or_self, Bool.and_self, decide_true, decide_false, if_true, if_false, not_true, not_false_eq_true, not_true_eq_false, false_or, or_false, true_and, and_true, Bool.not_eq_true, Bool.true_eq_false, reduceCtorEq]
  by_cases h4 : 8 < (cs.length : Int)
  · rw [if_pos h4, decide_eq_false (show ¬ cs.length ≤ 8 by omega)]; simp only [Bool.not_true, Bool.not_false, cond_true, cond_false, Bool.true_and, Bool.false_and, Bool.and_true, Bool.and_false, Bool.false_eq_true, Bool.true_or, Bool.or_true, Bool.false_or, Bool.or_false, Bool.or_self, Bool.and_self, decide_true, decide_false, if_true, if_false, not_true, not_false_eq_true, not_true_eq_false, false_or, or_false, true_and, and_true, Bool.not_eq_true, Bool.true_eq_false, reduceCtorEq]
  · rw [if_neg h4, decide_eq_true (show cs.length ≤ 8 by omega)]
    cases h3 : inB money 0 1000000 <;> simp only [Bool.not_true, Bool.not_false, cond_true, cond_false, Bool.true_and, Bool.false_and, Bool.and_true, Bool.and_false, Bool.false_eq_true, Bool.true_or, Bool.or_true, Bool.false_or, Bool.or_false, Bool.or_self, Bool.and_self, decide_true, decide_false, if_true, if_false, not_true, not_false_eq_true, not_true_eq_false, false_or, or_false, true_and, and_true, Bool.not_eq_true, Bool.true_eq_false, reduceCtorEq]
    rw [← rowsI_eq]
    have hq := (all_loop (L := fun k i => impl_IsShop.l6 k day looms cs money cs cs.length (i : Int)) (n := cs.length) (K0 := 200) (ok := fun i => carpB day looms (cs.getD i (0, 0, 0, 0, 0)) && !(decide ((cs.getD i (0, 0, 0, 0, 0)).2.2.1 = 1) && decide (onB cs (cs.getD i (0, 0, 0, 0, 0)).2.2.2.1 ≠ (i : Int)))) (f := some false) (fun k i hk hi => ?_)) cs.length k 0 (by omega) (by omega)
    · rw [show ((0 : Nat) : Int) = 0 from rfl] at hq
      unfold rowsI
      by_cases hc : (List.range cs.length).all (fun i => carpB day looms (cs.getD i (0, 0, 0, 0, 0)) && !(decide ((cs.getD i (0, 0, 0, 0, 0)).2.2.1 = 1) && decide (onB cs (cs.getD i (0, 0, 0, 0, 0)).2.2.2.1 ≠ (i : Int)))) = true
      · rw [hc]
        rw [List.all_eq_true] at hc
        exact hq.1 (some true) (fun k hk => by simp (disch := omega) only [impl_IsShop.l6, impl_IsShop.b6, if_neg]) (fun j _ hj => hc j (List.mem_range.2 hj))
      · rw [notB hc]
        exact hq.2 (exists_bad fun hn => hc (by rw [List.all_eq_true]; intro j hj; exact hn j (List.mem_range.1 hj)))
    · simp (disch := omega) only [impl_IsShop.l6, impl_IsShop.b6, if_pos, chk_nat, Option.bind_some, w64_id, implCarpet_eq, onLoom_eq, Int.natCast_add, Int.cast_ofNat_Int]
      cases q1 : carpB day looms (cs.getD i (0, 0, 0, 0, 0)) <;> simp only [q1, Bool.not_true, Bool.not_false, cond_true, cond_false, Bool.true_and, Bool.false_and, Bool.and_true, Bool.and_false, Bool.false_eq_true, Bool.true_or, Bool.or_true, Bool.false_or, Bool.or_false, Bool.or_self, Bool.and_self, decide_true, decide_false, if_true, if_false, not_true, not_false_eq_true, not_true_eq_false, false_or, or_false, true_and, and_true, Bool.not_eq_true, Bool.true_eq_false, reduceCtorEq]
      by_cases q2 : (cs.getD i (0, 0, 0, 0, 0)).2.2.1 = 1
      · by_cases q3 : onB cs (cs.getD i (0, 0, 0, 0, 0)).2.2.2.1 = (i : Int) <;> simp only [q2, q3, Bool.not_true, Bool.not_false, cond_true, cond_false, Bool.true_and, Bool.false_and, Bool.and_true, Bool.and_false, Bool.false_eq_true, Bool.true_or, Bool.or_true, Bool.false_or, Bool.or_false, Bool.or_self, Bool.and_self, decide_true, decide_false, if_true, if_false, not_true, not_false_eq_true, not_true_eq_false, false_or, or_false, true_and, and_true, Bool.not_eq_true, Bool.true_eq_false, reduceCtorEq, ne_eq]
      · simp only [q2, Bool.not_true, Bool.not_false, cond_true, cond_false, Bool.true_and, Bool.false_and, Bool.and_true, Bool.and_false, Bool.false_eq_true, Bool.true_or, Bool.or_true, Bool.false_or, Bool.or_false, Bool.or_self, Bool.and_self, decide_true, decide_false, if_true, if_false, not_true, not_false_eq_true, not_true_eq_false, false_or, or_false, true_and, and_true, Bool.not_eq_true, Bool.true_eq_false, reduceCtorEq]
theorem good_l1 (day looms money : Int) (cs : List C5) (hl : cs.length ≤ 1000) (i : Nat) (hi : i < cs.length) : ∀ (d k j : Nat), j + d = i → d + 2 < k → (∀ c ∈ cs.take j, ¬ ((rdC cs (i : Int)).2.2.2.1 > 0 ∧ c.2.2.2.1 = (rdC cs (i : Int)).2.2.2.1)) → ((soloB cs i (rdC cs (i : Int)) = true ∧ spec_l25Good.l14 k day looms cs money (i : Int) (j : Int) = spec_l25Good.l6 (k - d - 1) day looms cs money ((i + 1 : Nat) : Int)) ∨ (soloB cs i (rdC cs (i : Int)) = false ∧ spec_l25Good.l14 k day looms cs money (i : Int) (j : Int) = some false)) := by
  intro d
  induction d with
  | zero =>
    intro k j h1 h2 h3
    obtain ⟨k, rfl⟩ := succ_of (show 0 < k by omega)
    have : j = i := by omega
    subst this
    refine .inl ⟨?_, ?_⟩
    · unfold soloB; rw [List.all_eq_true]; intro c hc; have := h3 c hc; rw [Bool.not_eq_true', ← Bool.not_eq_true]; simp only [Bool.and_eq_true, decide_eq_true_eq]; exact this
    · simp (disch := omega) only [spec_l25Good.l14, spec_l25Good.b14, if_neg, w64_id]; rfl
  | succ d ih =>
    intro k j h1 h2 h3
    obtain ⟨k, rfl⟩ := succ_of (show 0 < k by omega)
    have hj : j < cs.length := by omega
    have haj : cs.getD j (0, 0, 0, 0, 0) = cs[j] := getD_lt hj
    have htake : cs.take (j + 1) = cs.take j ++ [cs[j]] := List.take_succ_eq_append_getElem hj
    have hmem : cs[j] ∈ cs.take i := List.mem_of_getElem? (i := j) (by rw [List.getElem?_take, if_pos (by omega), List.getElem?_eq_getElem hj])
    simp (disch := omega) only [spec_l25Good.l14, spec_l25Good.b14, if_pos, chk_nat, Option.bind_some, w64_id, haj]
    rw [← rdC_nat, show ((j : Int) + 1) = ((j + 1 : Nat) : Int) by omega]
    have hcont : ¬ ((rdC cs (i : Int)).2.2.2.1 > 0 ∧ cs[j].2.2.2.1 = (rdC cs (i : Int)).2.2.2.1) → ((soloB cs i (rdC cs (i : Int)) = true ∧ spec_l25Good.l14 k day looms cs money (i : Int) ((j + 1 : Nat) : Int) = spec_l25Good.l6 (k + 1 - (d + 1) - 1) day looms cs money ((i + 1 : Nat) : Int)) ∨ (soloB cs i (rdC cs (i : Int)) = false ∧ spec_l25Good.l14 k day looms cs money (i : Int) ((j + 1 : Nat) : Int) = some false)) := by
      intro hn
      rw [show k + 1 - (d + 1) - 1 = k - d - 1 by omega]
      exact ih k (j + 1) (by omega) (by omega) (fun c hc => by
        rw [htake, List.mem_append, List.mem_singleton] at hc
        rcases hc with hc | rfl
        · exact h3 c hc
        · exact hn)
    by_cases e1 : 0 < (rdC cs (i : Int)).2.2.2.1
    · simp only [e1, Bool.not_true, Bool.not_false, cond_true, cond_false, Bool.true_and, Bool.false_and, Bool.and_true, Bool.and_false, Bool.false_eq_true, Bool.true_or, Bool.or_true, Bool.false_or, Bool.or_false, Bool.or_self, Bool.and_self, decide_true, decide_false, if_true, if_false, not_true, not_false_eq_true, not_true_eq_false, false_or, or_false, true_and, and_true, Bool.not_eq_true, Bool.true_eq_false, reduceCtorEq]
      by_cases e2 : cs[j].2.2.2.1 = (rdC cs (i : Int)).2.2.2.1
      · simp only [e2, Bool.not_true, Bool.not_false, cond_true, cond_false, Bool.true_and, Bool.false_and, Bool.and_true, Bool.and_false, Bool.false_eq_true, Bool.true_or, Bool.or_true, Bool.false_or, Bool.or_false, Bool.or_self, Bool.and_self, decide_true, decide_false, if_true, if_false, not_true, not_false_eq_true, not_true_eq_false, false_or, or_false, true_and, and_true, Bool.not_eq_true, Bool.true_eq_false, reduceCtorEq]
        refine .inr ?_
        unfold soloB; rw [← Bool.not_eq_true, List.all_eq_true]; intro hh
        have := hh _ hmem
        simp [e1, e2] at this
      · simp only [e2, Bool.not_true, Bool.not_false, cond_true, cond_false, Bool.true_and, Bool.false_and, Bool.and_true, Bool.and_false, Bool.false_eq_true, Bool.true_or, Bool.or_true, Bool.false_or, Bool.or_false, Bool.or_self, Bool.and_self, decide_true, decide_false, if_true, if_false, not_true, not_false_eq_true, not_true_eq_false, false_or, or_false, true_and, and_true, Bool.not_eq_true, Bool.true_eq_false, reduceCtorEq]; exact hcont (fun h => e2 h.2)
    · simp only [e1, Bool.not_true, Bool.not_false, cond_true, cond_false, Bool.true_and, Bool.false_and, Bool.and_true, Bool.and_false, Bool.false_eq_true, Bool.true_or, Bool.or_true, Bool.false_or, Bool.or_false, Bool.or_self, Bool.and_self, decide_true, decide_false, if_true, if_false, not_true, not_false_eq_true, not_true_eq_false, false_or, or_false, true_and, and_true, Bool.not_eq_true, Bool.true_eq_false, reduceCtorEq]; exact hcont (fun h => e1 h.1)
def pS (day looms : Int) (cs : List C5) (i : Nat) : Bool := carpB day looms (rdC cs (i : Int)) && soloB cs i (rdC cs (i : Int))
theorem rowsB_pS (day looms : Int) (cs : List C5) : rowsB day looms cs = (List.range cs.length).all (pS day looms cs) := by unfold rowsB pS; simp only [rdC_nat]
theorem good_l (day looms money : Int) (cs : List C5) (hl : cs.length ≤ 8) : ∀ (d k i : Nat), i + d = cs.length → 12 * d + 5 < k → (∀ j, j < i → pS day looms cs j = true) → spec_l25Good.l6 k day looms cs money (i : Int) = some (rowsB day looms cs) := by
  intro d
  induction d with
  | zero =>
    intro k i h1 h2 h3
    obtain ⟨k, rfl⟩ := succ_of (show 0 < k by omega)
    simp (disch := omega) only [spec_l25Good.l6, spec_l25Good.b6, if_neg]; rw [rowsB_pS]
    congr 1; symm; rw [List.all_eq_true]; intro j hj; rw [List.mem_range] at hj; exact h3 j (by omega)
  | succ d ih =>
    intro k i h1 h2 h3
    obtain ⟨k, rfl⟩ := succ_of (show 0 < k by omega)
    simp (disch := omega) only [spec_l25Good.l6, spec_l25Good.b6, if_pos, chk_nat, Option.bind_some, specCarpet_eq]
    rw [← rdC_nat]
    have hfail : pS day looms cs i = false → rowsB day looms cs = false := by
      intro hp; rw [rowsB_pS, ← Bool.not_eq_true, List.all_eq_true]; intro hh
      have := hh i (by rw [List.mem_range]; omega); rw [hp] at this; exact absurd this (by simp)
    by_cases e1 : carpB day looms (rdC cs (i : Int)) = true
    · rw [show ((rdC cs (i : Int)).1, (rdC cs (i : Int)).2.1, (rdC cs (i : Int)).2.2.1, (rdC cs (i : Int)).2.2.2.1, (rdC cs (i : Int)).2.2.2.2) = rdC cs (i : Int) from rfl, e1]; simp only [Bool.not_true, Bool.not_false, cond_true, cond_false, Bool.true_and, Bool.false_and, Bool.and_true, Bool.and_false, Bool.false_eq_true, Bool.true_or, Bool.or_true, Bool.false_or, Bool.or_false, Bool.or_self, Bool.and_self, decide_true, decide_false, if_true, if_false, not_true, not_false_eq_true, not_true_eq_false, false_or, or_false, true_and, and_true, Bool.not_eq_true, Bool.true_eq_false, reduceCtorEq]
      have f2 := good_l1 day looms money cs (by omega) i (by omega) i k 0 (by omega) (by omega) (by simp)
      rw [show ((0 : Nat) : Int) = 0 from rfl] at f2
      rcases f2 with ⟨g1, g2⟩ | ⟨g1, g2⟩
      · rw [g2]
        refine ih _ (i + 1) (by omega) (by omega) fun j hj => ?_
        by_cases e : j = i
        · subst e; unfold pS; simp [e1, g1]
        · exact h3 j (by omega)
      · rw [g2, hfail (by unfold pS; simp [g1])]
    · rw [show ((rdC cs (i : Int)).1, (rdC cs (i : Int)).2.1, (rdC cs (i : Int)).2.2.1, (rdC cs (i : Int)).2.2.2.1, (rdC cs (i : Int)).2.2.2.2) = rdC cs (i : Int) from rfl, notB e1]; simp only [Bool.not_true, Bool.not_false, cond_true, cond_false, Bool.true_and, Bool.false_and, Bool.and_true, Bool.and_false, Bool.false_eq_true, Bool.true_or, Bool.or_true, Bool.false_or, Bool.or_false, Bool.or_self, Bool.and_self, decide_true, decide_false, if_true, if_false, not_true, not_false_eq_true, not_true_eq_false, false_or, or_false, true_and, and_true, Bool.not_eq_true, Bool.true_eq_false, reduceCtorEq]
      rw [hfail (by unfold pS; simp [e1])]
theorem good_eq (k : Nat) (day looms money : Int) (cs : List C5) (hk : 300 ≤ k) : spec_l25Good.f k day looms cs money = some (shopB day looms cs money) := by
  unfold spec_l25Good.f spec_l25Good.m shopB spec_l2Day.f spec_l2Day.m
  simp only [specIn_eq, Option.bind_some]
  cases h1 : inB day 0 4000 <;> simp only [Bool.not_true, Bool.not_false, cond_true, cond_false, Bool.true_and, Bool.false_and, Bool.and_true, Bool.and_false, Bool.false_eq_true, Bool.true_or, Bool.or_true, Bool.false_or, Bool.or_false, Bool.or_self, Bool.and_self, decide_true, decide_false, if_true, if_false, not_true, not_false_eq_true, not_true_eq_false, false_or, or_false, true_and, and_true, Bool.not_eq_true, Bool.true_eq_false, reduceCtorEq]
  cases h2 : inB looms 1 4 <;> simp only [Bool.not_true, Bool.not_false, cond_true, cond_false, Bool.true_and, Bool.false_and, Bool.and_true, Bool.and_false, Bool.false_eq_true, Bool.true_or, Bool.or_true, Bool.false_or, Bool.or_false, Bool.or_self, Bool.and_self, decide_true, decide_false, if_true, if_false, not_true, not_false_eq_true, not_true_eq_false, false_or, or_false, true_and, and_true, Bool.not_eq_true, Bool.true_eq_false, reduceCtorEq]
  cases h3 : inB money 0 1000000 <;> simp only [Bool.not_true, Bool.not_false, cond_true, cond_false, Bool.true_and, Bool.false_and, Bool.and_true, Bool.and_false, Bool.false_eq_true, Bool.true_or, Bool.or_true, Bool.false_or, Bool.or_false, Bool.or_self, Bool.and_self, decide_true, decide_false, if_true, if_false, not_true, not_false_eq_true, not_true_eq_false, false_or, or_false, true_and, and_true, Bool.not_eq_true, Bool.true_eq_false, reduceCtorEq]
  by_cases h4 : 8 < (cs.length : Int)
  · rw [if_pos h4, decide_eq_false (show ¬ cs.length ≤ 8 by omega)]; simp only [Bool.not_true, Bool.not_false, cond_true, cond_false, Bool.true_and, Bool.false_and, Bool.and_true, Bool.and_false, Bool.false_eq_true, Bool.true_or, Bool.or_true, Bool.false_or, Bool.or_false, Bool.or_self, Bool.and_self, decide_true, decide_false, if_true, if_false, not_true, not_false_eq_true, not_true_eq_false, false_or, or_false, true_and, and_true, Bool.not_eq_true, Bool.true_eq_false, reduceCtorEq]
  · rw [if_neg h4, decide_eq_true (show cs.length ≤ 8 by omega)]; simp only [Bool.not_true, Bool.not_false, cond_true, cond_false, Bool.true_and, Bool.false_and, Bool.and_true, Bool.and_false, Bool.false_eq_true, Bool.true_or, Bool.or_true, Bool.false_or, Bool.or_false, Bool.or_self, Bool.and_self, decide_true, decide_false, if_true, if_false, not_true, not_false_eq_true, not_true_eq_false, false_or, or_false, true_and, and_true, Bool.not_eq_true, Bool.true_eq_false, reduceCtorEq]
    exact good_l day looms money cs (by omega) cs.length k 0 (by omega) (by omega) (fun j hj => absurd hj (by omega))
theorem toCarpet_eq (k : Nat) (a0_0 : Int) (a0_1 : Int) (a0_2 : Int) (a0_3 : Int) (a0_4 : Int) : laws_toCarpet.f k a0_0 a0_1 a0_2 a0_3 a0_4 = some (a0_0, a0_1, a0_2, a0_3, a0_4) := by
  unfold laws_toCarpet.f laws_toCarpet.m
  rfl
theorem toCarpetS_l (l0 : List (Int × Int × Int × Int × Int)) (hl : l0.length ≤ 4194304) : ∀ (d k i : Nat) (acc : List (Int × Int × Int × Int × Int)), i + d = l0.length → acc.length = l0.length → acc.take i = l0.take i → d < k → laws_toCarpetS.l4 k l0 acc (i : Int) = some l0 := by
  intro d
  induction d with
  | zero =>
    intro k i acc h1 h2 h3 h4
    obtain ⟨k, rfl⟩ := succ_of (show 0 < k by omega)
    simp (disch := omega) only [laws_toCarpetS.l4, laws_toCarpetS.b4, if_neg]
    rw [List.take_of_length_le (by omega), List.take_of_length_le (by omega)] at h3
    rw [h3]
  | succ d ih =>
    intro k i acc h1 h2 h3 h4
    obtain ⟨k, rfl⟩ := succ_of (show 0 < k by omega)
    have hi : i < l0.length := by omega
    have h := ih k (i + 1) (acc.set i (l0.getD i (0, 0, 0, 0, 0))) (by omega) (by rw [List.length_set]; exact h2) (by
      rw [List.take_succ_eq_append_getElem (by rw [List.length_set]; omega), List.take_succ_eq_append_getElem hi, List.getElem_set_self, List.take_set_of_le (Nat.le_refl i), h3, getD_lt hi]) (by omega)
    rw [show ((i + 1 : Nat) : Int) = (i : Int) + 1 by omega] at h
    simp (disch := omega) only [laws_toCarpetS.l4, laws_toCarpetS.b4, if_pos, chk_nat, Option.bind_some, w64_id, toCarpet_eq, upd_of]
    exact h
theorem toCarpetS_eq (k : Nat) (l0 : List (Int × Int × Int × Int × Int)) (h_l0 : l0.length ≤ 4194304) (hk : 5000000 ≤ k) : laws_toCarpetS.f k l0 = some l0 := by
  unfold laws_toCarpetS.f laws_toCarpetS.m
  rw [mkl_int (by omega)]; simp only [Option.bind_some]
  exact toCarpetS_l l0 h_l0 l0.length k 0 _ (by omega) (by simp) (by simp) (by omega)
theorem toShop_eq (k : Nat) (a0_0 : Int) (a0_1 : Int) (l0_2 : List (Int × Int × Int × Int × Int)) (a0_3 : Int) (h_l0_2 : l0_2.length ≤ 4194304) (hk : 5000000 ≤ k) : laws_toShop.f k a0_0 a0_1 l0_2 a0_3 = some (a0_0, a0_1, l0_2, a0_3) := by
  unfold laws_toShop.f laws_toShop.m
  simp (disch := omega) only [toCarpetS_eq, Option.bind_some]
theorem eqCarpet_eq (k : Nat) (a0_0 : Int) (a0_1 : Int) (a0_2 : Int) (a0_3 : Int) (a0_4 : Int) : laws_eqCarpet.f k a0_0 a0_1 a0_2 a0_3 a0_4 a0_0 a0_1 a0_2 a0_3 a0_4 = some true := by
  unfold laws_eqCarpet.f laws_eqCarpet.m
  simp (disch := omega) only [Option.bind_some, Bool.not_true, Bool.not_false, cond_true, cond_false, Bool.true_and, Bool.false_and, Bool.and_true, Bool.and_false, Bool.false_eq_true, Bool.true_or, Bool.or_true, Bool.false_or, Bool.or_false, Bool.or_self, Bool.and_self, decide_true, decide_false, if_true, if_false, not_true, not_false_eq_true, not_true_eq_false, false_or, or_false, true_and, and_true, Bool.not_eq_true, Bool.true_eq_false, reduceCtorEq, eq_self]
theorem eqCarpetS_eq (k : Nat) (l0 : List (Int × Int × Int × Int × Int)) (h_l0 : l0.length ≤ 4194304) (hk : 5000000 ≤ k) : laws_eqCarpetS.f k l0 l0 = some true := by
  unfold laws_eqCarpetS.f laws_eqCarpetS.m
  have h := (all_loop (L := fun k i => laws_eqCarpetS.l6 k l0 l0 (i : Int)) (n := l0.length) (K0 := 20) (ok := fun _ => true) (f := some false) (fun k i hk hi => ?_)) l0.length k 0 (by omega) (by omega)
  · rw [show ((0 : Nat) : Int) = 0 from rfl] at h
    simp only [Bool.not_true, Bool.not_false, cond_true, cond_false, Bool.true_and, Bool.false_and, Bool.and_true, Bool.and_false, Bool.false_eq_true, Bool.true_or, Bool.or_true, Bool.false_or, Bool.or_false, Bool.or_self, Bool.and_self, decide_true, decide_false, if_true, if_false, not_true, not_false_eq_true, not_true_eq_false, false_or, or_false, true_and, and_true, Bool.not_eq_true, Bool.true_eq_false, reduceCtorEq, eq_self]
    exact h.1 (some true) (fun k hk => by simp (disch := omega) only [laws_eqCarpetS.l6, laws_eqCarpetS.b6, if_neg]) (fun _ _ _ => rfl)
  · simp (disch := omega) only [laws_eqCarpetS.l6, laws_eqCarpetS.b6, if_pos, chk_nat, Option.bind_some, w64_id, eqCarpet_eq, Bool.not_true, Bool.not_false, cond_true, cond_false, Bool.true_and, Bool.false_and, Bool.and_true, Bool.and_false, Bool.false_eq_true, Bool.true_or, Bool.or_true, Bool.false_or, Bool.or_false, Bool.or_self, Bool.and_self, decide_true, decide_false, if_true, if_false, not_true, not_false_eq_true, not_true_eq_false, false_or, or_false, true_and, and_true, Bool.not_eq_true, Bool.true_eq_false, reduceCtorEq, eq_self, Int.natCast_add, Int.cast_ofNat_Int]
theorem eqShop_eq (k : Nat) (a0_0 : Int) (a0_1 : Int) (l0_2 : List (Int × Int × Int × Int × Int)) (a0_3 : Int) (h_l0_2 : l0_2.length ≤ 4194304) (hk : 5000000 ≤ k) : laws_eqShop.f k a0_0 a0_1 l0_2 a0_3 a0_0 a0_1 l0_2 a0_3 = some true := by
  unfold laws_eqShop.f laws_eqShop.m
  simp (disch := omega) only [eqCarpetS_eq, Option.bind_some, Bool.not_true, Bool.not_false, cond_true, cond_false, Bool.true_and, Bool.false_and, Bool.and_true, Bool.and_false, Bool.false_eq_true, Bool.true_or, Bool.or_true, Bool.false_or, Bool.or_false, Bool.or_self, Bool.and_self, decide_true, decide_false, if_true, if_false, not_true, not_false_eq_true, not_true_eq_false, false_or, or_false, true_and, and_true, Bool.not_eq_true, Bool.true_eq_false, reduceCtorEq, eq_self]
theorem shopSz_ok (k : Nat) (d lo m : Int) (cs : List C5) (h : cs.length * 40 ≤ 140737488351232) : laws_szShop.f k d lo cs m 1048576 = some (if (1048576 : Int) < (cs.length : Int) then -1 else 1048576 - (cs.length : Int)) := by
  unfold laws_szShop.f laws_szShop.m laws_szCarpetS.f laws_szCarpetS.m
  rw [w64_id (by omega)]
  by_cases h1 : (1048576 : Int) < (cs.length : Int)
  · rw [if_pos (by omega), if_pos h1, Option.bind_some, if_pos (by omega)]
  · rw [if_neg (by omega), if_neg h1, Option.bind_some, if_neg (by omega)]
theorem carp_at {day lo : Int} {cs : List C5} (h : rowsB day lo cs = true) {i : Nat} (hi : i < cs.length) : carpB day lo (cs.getD i (0, 0, 0, 0, 0)) = true := by
  rw [rowsB_iff] at h
  rw [getD_lt hi]
  exact (h i cs[i] (List.getElem?_eq_getElem hi)).1
theorem carp_bd {day lo : Int} {c : C5} (h : carpB day lo c = true) : (1 ≤ c.1 ∧ c.1 ≤ 500) ∧ (0 ≤ c.2.1 ∧ c.2.1 ≤ c.1) ∧ (0 ≤ c.2.2.1 ∧ c.2.2.1 ≤ 4) ∧ (0 ≤ c.2.2.2.2 ∧ c.2.2.2.2 ≤ day) ∧ (1 ≤ lo → 0 ≤ c.2.2.2.1 ∧ (c.2.2.2.1 = 0 ∨ c.2.2.2.1 ≤ lo)) := by
  unfold carpB at h
  simp only [Bool.and_eq_true, inB_iff] at h
  refine ⟨h.1.1.1.1, h.1.1.1.2, h.1.1.2, h.1.2, fun hlo => ?_⟩
  have h2 := h.2
  split at h2
  · rw [inB_iff] at h2; omega
  · split at h2
    · simp only [Bool.and_eq_true, decide_eq_true_eq] at h2; omega
    · simp only [Bool.and_eq_true, decide_eq_true_eq] at h2; omega
def nameL (s : Int) : List UInt8 := if s = 0 then [119, 97, 105, 116, 115] else if s = 1 then [119, 111, 118, 101, 110] else if s = 2 then [111, 102, 102] else if s = 3 then [119, 97, 115, 104, 101, 100] else [115, 111, 108, 100]
theorem nameL_len (s : Int) : (nameL s).length ≤ 6 := by
  unfold nameL
  (repeat' split) <;> simp
def textC (c : C5) : List UInt8 := nameL c.2.2.1 ++ [32] ++ Lib.decDigits c.2.1.toNat ++ [47] ++ Lib.decDigits c.1.toNat
def onC (c : C5) : List UInt8 := if 0 < c.2.2.2.1 then textC c ++ ([32, 111, 110, 32] ++ Lib.decDigits c.2.2.2.1.toNat) else textC c
theorem textC_len {c : C5} (h1 : 0 ≤ c.2.1 ∧ c.2.1 ≤ 500) (h2 : 0 ≤ c.1 ∧ c.1 ≤ 500) : (textC c).length ≤ 30 := by
  have d1 := digits_len c.2.1.toNat 3 (by omega) (by omega)
  have d2 := digits_len c.1.toNat 3 (by omega) (by omega)
  have : (nameL c.2.2.1).length ≤ 6 := nameL_len _
  unfold textC
  simp only [List.length_append, List.length_cons, List.length_nil]
  omega
theorem numI_ok (n : Int) (h : 0 ≤ n ∧ n ≤ 500) : ∀ k, 3 ≤ k → spec_l1Num.f k n = some (bs (Lib.decDigits n.toNat)) := by
  intro k hk
  obtain ⟨j, rfl⟩ : ∃ j : Nat, n = j := ⟨n.toNat, by omega⟩
  rw [num_ok 3 (by omega) (by omega) j (by omega) (by omega) k hk, Int.toNat_natCast]
theorem decI_ok (n : Int) (h : 0 ≤ n ∧ n ≤ 500) (k : Nat) : impl_decimal.f k n = some (bs (Lib.decDigits n.toNat)) := by
  obtain ⟨j, rfl⟩ : ∃ j : Nat, n = j := ⟨n.toNat, by omega⟩
  unfold impl_decimal.f impl_decimal.m strconv_Itoa.f
  rw [itoaF_nat (by omega), Int.toNat_natCast]
  rfl
theorem digI_len (n : Int) (h : 0 ≤ n ∧ n ≤ 500) : (Lib.decDigits n.toNat).length ≤ 3 := (digits_len n.toNat 3 (by omega) (by omega)).1
theorem cat4 (a : List UInt8) (p q : List UInt8) (ha : a.length ≤ 10) (hp : p.length ≤ 3) (hq : q.length ≤ 3) {β : Type} (f : ByteArray → Option β) (X Y : Option ByteArray) (hX : X = some (bs p)) (hY : Y = some (bs q)) :
    ((catS (bs a) (⟨#[32]⟩ : ByteArray)).bind fun s1 => (X.bind fun r1 => ((catS s1 r1).bind fun s2 => ((catS s2 (⟨#[47]⟩ : ByteArray)).bind fun s3 => (Y.bind fun r2 => ((catS s3 r2).bind fun s4 => f s4)))))) = f (bs (a ++ [32] ++ p ++ [47] ++ q)) := by
  rw [show (⟨#[32]⟩ : ByteArray) = bs [32] from rfl, show (⟨#[47]⟩ : ByteArray) = bs [47] from rfl, catS_bs (by simp; omega), Option.bind_some, hX, Option.bind_some, catS_bs (by simp; omega), Option.bind_some, catS_bs (by simp; omega), Option.bind_some, hY, Option.bind_some, catS_bs (by simp; omega), Option.bind_some]
theorem specText_ok (k : Nat) (c : C5) (h1 : 0 ≤ c.2.1 ∧ c.2.1 ≤ 500) (h2 : 0 ≤ c.1 ∧ c.1 ≤ 500) (h3 : 0 ≤ c.2.2.1 ∧ c.2.2.1 ≤ 4) (h4 : 0 ≤ c.2.2.2.1 ∧ c.2.2.2.1 ≤ 500) (hk : 3 ≤ k) : spec_l25Text.f k c.1 c.2.1 c.2.2.1 c.2.2.2.1 c.2.2.2.2 = some (bs (onC c)) := by
  have hl := textC_len h1 h2
  have d1 := digI_len _ h1
  have d2 := digI_len _ h2
  have d3 := digI_len _ h4
  have fin : ((if 0 < c.2.2.2.1 then ((catS (bs (textC c)) (⟨#[32, 111, 110, 32]⟩ : ByteArray)).bind fun s8 => ((spec_l1Num.f k c.2.2.2.1).bind fun r9 => ((catS s8 r9).bind fun s10 => (some s10)))) else (some (bs (textC c))))) = some (bs (onC c)) := by
    unfold onC
    by_cases e : 0 < c.2.2.2.1
    · rw [if_pos e, if_pos e, show (⟨#[32, 111, 110, 32]⟩ : ByteArray) = bs [32, 111, 110, 32] from rfl, catS_bs (by simp; omega), Option.bind_some, numI_ok _ h4 k hk, Option.bind_some, catS_bs (by simp; omega), Option.bind_some, List.append_assoc]
    · rw [if_neg e, if_neg e]
  unfold spec_l25Text.f spec_l25Text.m
  have hn : (chk [(⟨#[119, 97, 105, 116, 115]⟩ : ByteArray), (⟨#[119, 111, 118, 101, 110]⟩ : ByteArray), (⟨#[111, 102, 102]⟩ : ByteArray), (⟨#[119, 97, 115, 104, 101, 100]⟩ : ByteArray), (⟨#[115, 111, 108, 100]⟩ : ByteArray)].length c.2.2.1) = some c.2.2.1.toNat := chk_int (by simp; omega)
  have hg : [(⟨#[119, 97, 105, 116, 115]⟩ : ByteArray), (⟨#[119, 111, 118, 101, 110]⟩ : ByteArray), (⟨#[111, 102, 102]⟩ : ByteArray), (⟨#[119, 97, 115, 104, 101, 100]⟩ : ByteArray), (⟨#[115, 111, 108, 100]⟩ : ByteArray)].getD c.2.2.1.toNat ByteArray.empty = bs (nameL c.2.2.1) := by
    have : c.2.2.1 = 0 ∨ c.2.2.1 = 1 ∨ c.2.2.1 = 2 ∨ c.2.2.1 = 3 ∨ c.2.2.1 = 4 := by omega
    rcases this with e | e | e | e | e <;> rw [e] <;> rfl
  have hnl : (nameL c.2.2.1).length ≤ 6 := nameL_len _
  rw [hn, Option.bind_some, hg]
  refine Eq.trans (cat4 (nameL c.2.2.1) _ _ (by omega) d1 d2 _ _ _ (numI_ok _ h1 k hk) (numI_ok _ h2 k hk)) ?_
  exact fin
theorem implText_l (k : Nat) (c : C5) (h1 : 0 ≤ c.2.1 ∧ c.2.1 ≤ 500) (h2 : 0 ≤ c.1 ∧ c.1 ≤ 500) (h4 : 0 ≤ c.2.2.2.1 ∧ c.2.2.2.1 ≤ 500) : impl_CarpetText.l6 (k + 1) c.1 c.2.1 c.2.2.1 c.2.2.2.1 c.2.2.2.2 (bs (textC c)) = some (bs (onC c), true) := by
  have hl := textC_len h1 h2
  have d3 := digI_len _ h4
  show impl_CarpetText.b6 k c.1 c.2.1 c.2.2.1 c.2.2.2.1 c.2.2.2.2 (bs (textC c)) = _
  unfold impl_CarpetText.b6 onC
  by_cases e : 0 < c.2.2.2.1
  · rw [if_pos e, if_pos e, decI_ok _ h4, Option.bind_some, show (⟨#[32, 111, 110, 32]⟩ : ByteArray) = bs [32, 111, 110, 32] from rfl, catS_bs (by simp; omega), Option.bind_some, catS_bs (by simp; omega), Option.bind_some]
  · rw [if_neg e, if_neg e]
def carpetR (day lo m : Int) (cs : List C5) (i : Int) : ByteArray × Bool := if shopB day lo cs m = true ∧ 0 ≤ i ∧ i ≤ (cs.length : Int) - 1 then (bs (onC (cs.getD i.toNat (0, 0, 0, 0, 0))), true) else (bs [], false)
theorem implCarpetText_ok (k : Nat) (day lo m : Int) (cs : List C5) (i : Int) (hl : cs.length ≤ 1000) (hk : 2000 ≤ k) : impl_CarpetText.f k day lo cs m i = some (carpetR day lo m cs i) := by
  obtain ⟨k, rfl⟩ := succ_of (show 0 < k by omega)
  unfold impl_CarpetText.f impl_CarpetText.m carpetR
  rw [isShop_eq _ _ _ _ _ (by omega), Option.bind_some]
  cases hs : shopB day lo cs m with
  | false => rw [if_neg (by simp)]; rfl
  | true =>
    obtain ⟨b1, b2, b3, b4, b5⟩ := shopB_of hs
    rw [Bool.not_true, cond_false, w64_id (by omega), implIn_eq, Option.bind_some]
    by_cases h : 0 ≤ i ∧ i ≤ (cs.length : Int) - 1
    · have hi : i.toNat < cs.length := by omega
      have hc := carp_bd (carp_at b5 hi)
      have hlm := hc.2.2.2.2 (by omega)
      rw [inB_of h, Bool.not_true, cond_false, chk_int (by omega), Option.bind_some, if_pos (show true = true ∧ 0 ≤ i ∧ i ≤ (cs.length : Int) - 1 from ⟨rfl, h⟩)]
      generalize cs.getD i.toNat (0, 0, 0, 0, 0) = c at hc hlm ⊢
      have d1 := digI_len c.2.1 (by omega)
      have d2 := digI_len c.1 (by omega)
      have fin := implText_l k c (by omega) (by omega) (by omega)
      have n1 := decI_ok c.2.1 (by omega) (k + 1)
      have n2 := decI_ok c.1 (by omega) (k + 1)
      unfold textC nameL at fin
      have : c.2.2.1 = 0 ∨ c.2.2.1 = 1 ∨ c.2.2.1 = 2 ∨ c.2.2.1 = 3 ∨ c.2.2.1 = 4 := by omega
      rcases this with e | e | e | e | e
      · rw [e] at fin ⊢
        exact Eq.trans (cat4 [119, 97, 105, 116, 115] _ _ (by simp) d1 d2 _ _ _ n1 n2) fin
      · rw [e] at fin ⊢
        exact Eq.trans (cat4 [119, 111, 118, 101, 110] _ _ (by simp) d1 d2 _ _ _ n1 n2) fin
      · rw [e] at fin ⊢
        exact Eq.trans (cat4 [111, 102, 102] _ _ (by simp) d1 d2 _ _ _ n1 n2) fin
      · rw [e] at fin ⊢
        exact Eq.trans (cat4 [119, 97, 115, 104, 101, 100] _ _ (by simp) d1 d2 _ _ _ n1 n2) fin
      · rw [e] at fin ⊢
        exact Eq.trans (cat4 [115, 111, 108, 100] _ _ (by simp) d1 d2 _ _ _ n1 n2) fin
    · rw [notB (fun e => h (inB_iff.1 e)), if_neg (fun e => h e.2)]
      rfl
theorem decI2 {n : Int} (h : 0 ≤ n ∧ n ≤ 999999999) (k : Nat) : impl_decimal.f k n = some (bs (Lib.decDigits n.toNat)) := by
  have := decimal_ok n.toNat k (by omega)
  rw [show ((n.toNat : Nat) : Int) = n by omega] at this
  exact this
theorem numI2 {n : Int} (h : 0 ≤ n ∧ n ≤ 999999999) (k : Nat) (hk : 20 ≤ k) : spec_l1Num.f k n = some (bs (Lib.decDigits n.toNat)) := by
  have := num_ok 9 (by omega) (by omega) n.toNat (by omega) (by omega) k (by omega)
  rw [show ((n.toNat : Nat) : Int) = n by omega] at this
  exact this
theorem implCons_ok (d lo m : Int) (cs : List C5) (D Q : List UInt8) (n : Int) (hl : D.length + Q.length ≤ 1048576) (f : Nat) (hf : 2000000 ≤ f) : impl_IsValidConsole.f f d lo cs m (bs D) (bs Q) n = some (shopB d lo cs m && validL D Q n) := by
  unfold impl_IsValidConsole.f impl_IsValidConsole.m
  rw [isShop_eq f d lo m cs (by omega), Option.bind_some]
  cases shopB d lo cs m
  · rfl
  · rw [cond_true, implValid_ok D Q n (by omega) f (by omega)]; rfl
theorem specCons_ok (d lo m : Int) (cs : List C5) (D Q : List UInt8) (n : Int) (hl : D.length + Q.length ≤ 1048576) (f : Nat) (hf : 2000000 ≤ f) : spec_l28Good.f f d lo cs m (bs D) (bs Q) n = some (shopB d lo cs m && validL D Q n) := by
  unfold spec_l28Good.f spec_l28Good.m
  rw [good_eq f d lo m cs (by omega), Option.bind_some]
  cases shopB d lo cs m
  · rfl
  · rw [cond_true, specLog_ok D Q n (by omega) f (by omega)]; rfl
def lineC (i : Nat) (c : C5) : List UInt8 := Lib.decDigits i ++ [58, 32] ++ onC c ++ [10]
def linesL : Nat → List C5 → List UInt8
  | _, [] => []
  | i, c :: cs => lineC i c ++ linesL (i + 1) cs
theorem linesL_cons (i : Nat) (c : C5) (cs : List C5) : linesL i (c :: cs) = lineC i c ++ linesL (i + 1) cs := rfl
def endL (d m n : Int) : List UInt8 := [100, 97, 121, 32] ++ Lib.decDigits d.toNat ++ [59, 32, 109, 111, 110, 101, 121, 32] ++ Lib.decDigits m.toNat ++ [59, 32, 114, 101, 99, 111, 114, 100, 115, 32] ++ Lib.decDigits n.toNat ++ [10]
def formatR (d lo : Int) (cs : List C5) (m : Int) (D Q : List UInt8) (n : Int) : ByteArray × Bool := if (shopB d lo cs m && validL D Q n) = true then (bs (linesL 0 cs ++ endL d m n), true) else (bs [], false)
theorem onC_len {c : C5} (h1 : 0 ≤ c.2.1 ∧ c.2.1 ≤ 500) (h2 : 0 ≤ c.1 ∧ c.1 ≤ 500) (h4 : 0 ≤ c.2.2.2.1 ∧ c.2.2.2.1 ≤ 500) : (onC c).length ≤ 40 := by
  have := textC_len h1 h2
  have := digI_len _ h4
  unfold onC
  split
  · simp only [List.length_append, List.length_cons, List.length_nil]; omega
  · omega
theorem lineC_len {i : Nat} (hi : i ≤ 500) {c : C5} (h1 : 0 ≤ c.2.1 ∧ c.2.1 ≤ 500) (h2 : 0 ≤ c.1 ∧ c.1 ≤ 500) (h4 : 0 ≤ c.2.2.2.1 ∧ c.2.2.2.1 ≤ 500) : (lineC i c).length ≤ 50 := by
  have := onC_len h1 h2 h4
  have := digI_len (i : Int) (by omega)
  rw [Int.toNat_natCast] at this
  unfold lineC
  simp only [List.length_append, List.length_cons, List.length_nil]
  omega
theorem carp_parts {day lo m : Int} {cs : List C5} (hs : shopB day lo cs m = true) {i : Nat} (hi : i < cs.length) : (0 ≤ (cs.getD i (0, 0, 0, 0, 0)).2.1 ∧ (cs.getD i (0, 0, 0, 0, 0)).2.1 ≤ 500) ∧ (0 ≤ (cs.getD i (0, 0, 0, 0, 0)).1 ∧ (cs.getD i (0, 0, 0, 0, 0)).1 ≤ 500) ∧ (0 ≤ (cs.getD i (0, 0, 0, 0, 0)).2.2.1 ∧ (cs.getD i (0, 0, 0, 0, 0)).2.2.1 ≤ 4) ∧ (0 ≤ (cs.getD i (0, 0, 0, 0, 0)).2.2.2.1 ∧ (cs.getD i (0, 0, 0, 0, 0)).2.2.2.1 ≤ 500) := by
  obtain ⟨b1, b2, b3, b4, b5⟩ := shopB_of hs
  have hc := carp_bd (carp_at b5 hi)
  have hlm := hc.2.2.2.2 (by omega)
  exact ⟨by omega, by omega, hc.2.2.1, by omega⟩
theorem lit2 : (⟨#[58, 32]⟩ : ByteArray) = bs [58, 32] := rfl
theorem lit10 : (⟨#[10]⟩ : ByteArray) = bs [10] := rfl
theorem implFmt_l (k : Nat) (hk : 2000 ≤ k) (d lo m : Int) (cs : List C5) (hs : shopB d lo cs m = true) : ∀ (q P : List C5) (acc : List UInt8), cs = P ++ q → acc.length + 60 * q.length ≤ 10000 → fmtLoop (impl_CarpetText.f k d lo cs m) (impl_decimal.f k) q.length P.length (bs acc) = some (bs (acc ++ linesL P.length q))
  | [], P, acc, _, _ => by
    unfold linesL
    rw [List.append_nil]
    rfl
  | c :: q, P, acc, h1, h2 => by
    obtain ⟨b1, b2, b3, b4, b5⟩ := shopB_of hs
    have hlen : cs.length = P.length + (q.length + 1) := by rw [h1]; simp
    have hget : cs.getD P.length (0, 0, 0, 0, 0) = c := by rw [h1, getD_mid]
    obtain ⟨p1, p2, p3, p4⟩ := carp_parts hs (i := P.length) (by omega)
    rw [hget] at p1 p2 p3 p4
    have hll := lineC_len (i := P.length) (by omega) p1 p2 p4
    rw [List.length_cons] at h2
    have hline : fmtLine (impl_CarpetText.f k d lo cs m) (impl_decimal.f k) (P.length : Int) = some (bs (lineC P.length c)) := by
      have hon := onC_len p1 p2 p4
      have hdg := digI_len (P.length : Int) (by omega)
      rw [Int.toNat_natCast] at hdg
      unfold fmtLine
      rw [decI_ok _ (by omega), Int.toNat_natCast, Option.bind_some, lit2, catS_bs (by simp; omega), Option.bind_some, implCarpetText_ok _ _ _ _ _ _ (by omega) hk]
      unfold carpetR
      rw [if_pos ⟨hs, by omega, by omega⟩, Int.toNat_natCast, hget, Option.bind_some]
      dsimp only
      rw [catS_bs (by simp; omega), Option.bind_some, lit10, catS_bs (by simp; omega)]
      rfl
    show fmtLoop _ _ (q.length + 1) P.length (bs acc) = _
    unfold fmtLoop
    rw [hline, Option.bind_some, catS_bs (by omega), Option.bind_some]
    have := implFmt_l k hk d lo m cs hs q (P ++ [c]) (acc ++ lineC P.length c) (by rw [h1]; simp) (by rw [List.length_append]; omega)
    rw [List.length_append, List.length_singleton] at this
    rw [this, linesL_cons, List.append_assoc]
theorem validL_n {D Q : List UInt8} {n : Int} (h : validL D Q n = true) : 0 ≤ n ∧ n ≤ 60 := by
  unfold validL at h
  simp only [Bool.and_eq_true, decide_eq_true_eq] at h
  have := openL_len (m := 60) (n := 0) (s := D ++ Q)
  omega
theorem linesL_len {d lo m : Int} {cs : List C5} (hs : shopB d lo cs m = true) : ∀ (q P : List C5), cs = P ++ q → (linesL P.length q).length ≤ 50 * q.length
  | [], P, _ => by simp [linesL]
  | c :: q, P, h1 => by
    obtain ⟨b1, b2, b3, b4, b5⟩ := shopB_of hs
    have hlen : cs.length = P.length + (q.length + 1) := by rw [h1]; simp
    have hget : cs.getD P.length (0, 0, 0, 0, 0) = c := by rw [h1, getD_mid]
    obtain ⟨p1, p2, p3, p4⟩ := carp_parts hs (i := P.length) (by omega)
    rw [hget] at p1 p2 p3 p4
    have hll := lineC_len (i := P.length) (by omega) p1 p2 p4
    have := linesL_len hs q (P ++ [c]) (by rw [h1]; simp)
    rw [List.length_append, List.length_singleton] at this
    rw [linesL_cons, List.length_append, List.length_cons]
    omega
theorem dig7 {n : Int} (h : 0 ≤ n ∧ n ≤ 1000000) : (Lib.decDigits n.toNat).length ≤ 7 := (digits_len n.toNat 7 (by omega) (by omega)).1
theorem implFmt_end (k : Nat) {d m n : Int} (h1 : 0 ≤ d ∧ d ≤ 4000) (h2 : 0 ≤ m ∧ m ≤ 1000000) (h3 : 0 ≤ n ∧ n ≤ 60) (acc : List UInt8) (ha : acc.length ≤ 10000) : fmtEnd (impl_decimal.f k) d m n (bs acc) = some (bs (acc ++ endL d m n)) := by
  have e1 := dig7 (n := d) (by omega)
  have e2 := dig7 (n := m) (by omega)
  have e3 := dig7 (n := n) (by omega)
  unfold fmtEnd
  rw [decI2 (by omega), Option.bind_some, show (⟨#[100, 97, 121, 32]⟩ : ByteArray) = bs [100, 97, 121, 32] from rfl, catS_bs (by simp; omega), Option.bind_some,
    show (⟨#[59, 32, 109, 111, 110, 101, 121, 32]⟩ : ByteArray) = bs [59, 32, 109, 111, 110, 101, 121, 32] from rfl, catS_bs (by simp; omega), Option.bind_some, decI2 (by omega), Option.bind_some, catS_bs (by simp; omega), Option.bind_some,
    show (⟨#[59, 32, 114, 101, 99, 111, 114, 100, 115, 32]⟩ : ByteArray) = bs [59, 32, 114, 101, 99, 111, 114, 100, 115, 32] from rfl, catS_bs (by simp; omega), Option.bind_some, decI2 (by omega), Option.bind_some, catS_bs (by simp; omega), Option.bind_some, lit10, catS_bs (by simp; omega), Option.bind_some, catS_bs (by simp; omega)]
  rfl
theorem implFmt_ok (d lo m : Int) (cs : List C5) (D Q : List UInt8) (n : Int) (hl : D.length + Q.length ≤ 1048576) (k : Nat) (hk : 2000000 ≤ k) : impl_FormatConsole.f k d lo cs m (bs D) (bs Q) n = some (formatR d lo cs m D Q n) := by
  unfold impl_FormatConsole.f fmtF formatR
  rw [implCons_ok d lo m cs D Q n hl k hk, Option.bind_some]
  cases hv : shopB d lo cs m && validL D Q n
  · rw [cond_false, if_neg (by simp)]; rfl
  · rw [cond_true, if_pos rfl]
    obtain ⟨hs, hv⟩ := Bool.and_eq_true_iff.1 hv
    obtain ⟨b1, b2, b3, b4, b5⟩ := shopB_of hs
    have hll := linesL_len hs cs [] rfl
    have hF := implFmt_l k (by omega) d lo m cs hs cs [] [] rfl (by simp; omega)
    rw [List.nil_append] at hF
    rw [if_pos (by omega), show (⟨#[]⟩ : ByteArray) = bs [] from rfl, show (0 : Nat) = ([] : List C5).length from rfl, hF, Option.bind_some, implFmt_end k b1 b3 (validL_n hv) _ (by omega), Option.bind_some]
theorem specFmt_l (d lo m n : Int) (cs : List C5) (D Q : List UInt8) (hs : shopB d lo cs m = true) (hn : 0 ≤ n ∧ n ≤ 60) : ∀ (q P : List C5) (acc : List UInt8) (k : Nat), cs = P ++ q → acc.length + 60 * q.length ≤ 10000 → 2000 + q.length < k → spec_FormatConsole.l7 k d lo cs m (bs D) (bs Q) n (bs acc) (P.length : Int) = some (bs (acc ++ (linesL P.length q ++ endL d m n)), true)
  | [], P, acc, k, h1, h2, h3 => by
    obtain ⟨k, rfl⟩ := succ_of (show 0 < k by omega)
    obtain ⟨b1, b2, b3, b4, b5⟩ := shopB_of hs
    rw [List.append_nil] at h1
    subst h1
    have e1 := dig7 (n := d) (by omega)
    have e2 := dig7 (n := m) (by omega)
    have e3 := dig7 (n := n) (by omega)
    rw [List.length_nil] at h2 h3
    show spec_FormatConsole.b7 (spec_FormatConsole.l7 k) k d lo cs m (bs D) (bs Q) n (bs acc) (cs.length : Int) = _
    unfold spec_FormatConsole.b7
    rw [if_neg (by omega), numI2 (n := d) (by omega) k (by omega), numI2 (n := m) (by omega) k (by omega), numI2 (n := n) (by omega) k (by omega), show (⟨#[100, 97, 121, 32]⟩ : ByteArray) = bs [100, 97, 121, 32] from rfl, catS_bs (by simp; omega), Option.bind_some, Option.bind_some, catS_bs (by simp; omega), Option.bind_some,
      show (⟨#[59, 32, 109, 111, 110, 101, 121, 32]⟩ : ByteArray) = bs [59, 32, 109, 111, 110, 101, 121, 32] from rfl, catS_bs (by simp; omega), Option.bind_some, Option.bind_some, catS_bs (by simp; omega), Option.bind_some,
      show (⟨#[59, 32, 114, 101, 99, 111, 114, 100, 115, 32]⟩ : ByteArray) = bs [59, 32, 114, 101, 99, 111, 114, 100, 115, 32] from rfl, catS_bs (by simp; omega), Option.bind_some, Option.bind_some, catS_bs (by simp; omega), Option.bind_some, lit10, catS_bs (by simp; omega), Option.bind_some]
    unfold linesL endL
    simp only [List.append_assoc, List.nil_append]
  | c :: q, P, acc, k, h1, h2, h3 => by
    obtain ⟨k, rfl⟩ := succ_of (show 0 < k by omega)
    obtain ⟨b1, b2, b3, b4, b5⟩ := shopB_of hs
    have hlen : cs.length = P.length + (q.length + 1) := by rw [h1]; simp
    have hget : cs.getD P.length (0, 0, 0, 0, 0) = c := by rw [h1, getD_mid]
    obtain ⟨p1, p2, p3, p4⟩ := carp_parts hs (i := P.length) (by omega)
    rw [hget] at p1 p2 p3 p4
    have hll := lineC_len (i := P.length) (by omega) p1 p2 p4
    have hon := onC_len p1 p2 p4
    have hdg := digI_len (P.length : Int) (by omega)
    rw [Int.toNat_natCast] at hdg
    rw [List.length_cons] at h2 h3
    show spec_FormatConsole.b7 (spec_FormatConsole.l7 k) k d lo cs m (bs D) (bs Q) n (bs acc) (P.length : Int) = _
    unfold spec_FormatConsole.b7
    rw [if_pos (by omega), numI_ok _ (by omega) k (by omega), Int.toNat_natCast, Option.bind_some, catS_bs (by omega), Option.bind_some, lit2, catS_bs (by simp; omega), Option.bind_some, chk_nat (by omega), Option.bind_some, hget,
      specText_ok k c p1 p2 p3 p4 (by omega), Option.bind_some, catS_bs (by simp; omega), Option.bind_some, lit10, catS_bs (by simp; omega), Option.bind_some, w64_id (by omega)]
    have := specFmt_l d lo m n cs D Q hs hn q (P ++ [c]) (acc ++ lineC P.length c) k (by rw [h1]; simp) (by rw [List.length_append]; omega) (by omega)
    rw [List.length_append, List.length_singleton, show ((P.length + 1 : Nat) : Int) = (P.length : Int) + 1 by omega] at this
    rw [linesL_cons, show acc ++ Lib.decDigits P.length ++ [58, 32] ++ onC c ++ [10] = acc ++ lineC P.length c by unfold lineC; simp only [List.append_assoc], this]
    simp only [List.append_assoc]
theorem specFmt_ok (d lo m : Int) (cs : List C5) (D Q : List UInt8) (n : Int) (hl : D.length + Q.length ≤ 1048576) (k : Nat) (hk : 2000000 ≤ k) : spec_FormatConsole.f k d lo cs m (bs D) (bs Q) n = some (formatR d lo cs m D Q n) := by
  unfold spec_FormatConsole.f spec_FormatConsole.m formatR
  rw [specCons_ok d lo m cs D Q n hl k hk, Option.bind_some]
  cases hv : shopB d lo cs m && validL D Q n
  · rw [Bool.not_false, cond_true, if_neg (by simp)]; rfl
  · rw [Bool.not_true, cond_false, if_pos rfl]
    obtain ⟨hs, hv⟩ := Bool.and_eq_true_iff.1 hv
    obtain ⟨b1, b2, b3, b4, b5⟩ := shopB_of hs
    exact specFmt_l d lo m n cs D Q hs (validL_n hv) cs [] [] k rfl (by simp; omega) (by omega)
theorem pure_holds : Pure := by
  intro d lo cs m a0 a1 n _ _ hcs _ _ h1 h2 _
  obtain ⟨D, rfl⟩ := bs_ex a0
  obtain ⟨Q, rfl⟩ := bs_ex a1
  rw [bs_size] at h1 h2
  refine ⟨9000000, ?_⟩
  unfold laws_FnExactFormatConsole.f laws_FnExactFormatConsole.m laws_szConsole.f laws_szConsole.m
  rw [shopSz_ok _ d lo m cs hcs, Option.bind_some]
  by_cases h0 : (1048576 : Int) < (cs.length : Int)
  · rw [if_pos h0, if_pos (by omega), Option.bind_some, if_pos (by omega)]
  rw [if_neg h0, if_neg (by omega), szLog_ok D Q n _ (by omega) h1 h2, Option.bind_some]
  by_cases h : (1048576 : Int) - (cs.length : Int) < (D.length : Int) + (Q.length : Int)
  · rw [if_pos h, if_pos (by omega), Option.bind_some, if_pos (by omega)]
  rw [if_neg h, if_neg (by omega), Option.bind_some, if_neg (by omega)]
  have hto : laws_toConsole.f 9000000 d lo cs m (bs D) (bs Q) n = some (d, lo, cs, m, bs D, bs Q, n) := by
    unfold laws_toConsole.f laws_toConsole.m laws_toLog.f laws_toLog.m
    rw [toShop_eq _ _ _ _ _ (by omega) (by omega)]
    rfl
  simp only [hto, Option.bind_some]
  rw [specFmt_ok d lo m cs D Q n (by omega) _ (by omega), implFmt_ok d lo m cs D Q n (by omega) _ (by omega), Option.bind_some, Option.bind_some, if_neg (fun h => h rfl), if_neg (fun h => h rfl)]
  unfold laws_eqConsole.f laws_eqConsole.m
  rw [eqShop_eq _ _ _ _ _ (by omega) (by omega), eqLog_self]
  simp
end Go.Proofs.YtiacidpjplmgaaaDoor.DFnExactFormatConsole
