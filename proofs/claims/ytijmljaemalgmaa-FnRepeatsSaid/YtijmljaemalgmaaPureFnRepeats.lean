/- A repeated motif occurs at each of its copies, and its smallest motif is not greater than it; mirror repeats and half drops are told alike by program and reference. -/
import Derived.Test.YtijmljaemalgmaaDFnRepeats
set_option linter.unusedVariables false
set_option linter.unusedSimpArgs false
set_option maxRecDepth 100000
namespace Go.Proofs.Ytijmljaemalgmaa.DFnRepeats
open Go Go.Proofs.YtijmljaemalgmaaD
theorem succ_of {k : Nat} (h : 0 < k) : ∃ j, k = j + 1 := ⟨k - 1, by omega⟩
theorem w64_id {x : Int} (h : -9223372036854775808 ≤ x ∧ x ≤ 9223372036854775807) : w64 x = x := by
  unfold w64 IntKind.wrap
  simp [IntKind.signed, IntKind.bits]
  omega
theorem chk_nat {n j : Nat} (h : j < n) : chk n (j : Int) = some j := by unfold chk; rw [if_pos (by omega)]; simp
theorem chk_int {n : Nat} {i : Int} (h : 0 ≤ i ∧ i < n) : chk n i = some i.toNat := by unfold chk; rw [if_pos h]
theorem cut_int {n : Nat} {i j : Int} (h : 0 ≤ i ∧ i ≤ j ∧ j ≤ n) : cut n i j = some (i.toNat, j.toNat - i.toNat) := by unfold cut; rw [if_pos h]
theorem cutTo_int {n : Nat} {j : Int} (h : 0 ≤ j ∧ j ≤ n) : cutTo n j = some j.toNat := by unfold cutTo; rw [if_pos h]
theorem cut3_int {n : Nat} {i j m : Int} (h : 0 ≤ i ∧ i ≤ j ∧ j ≤ m ∧ m ≤ n) : cut3 n i j m = some () := by unfold cut3; rw [if_pos h]
theorem mkl_int {L : Nat} {n c : Int} (h : 0 ≤ n ∧ n ≤ c ∧ c ≤ L) : mkl L n c = some n.toNat := by unfold mkl; rw [if_pos h]
theorem selfApp_nat {i lo m : Nat} (h : i ≤ lo) : selfApp i lo m = some (i + m) := by unfold selfApp; rw [if_pos h]
section
variable {β : Type}
theorem app_ok {L : Nat} {xs ys : List β} (h : xs.length + ys.length ≤ L) : app L xs ys = some (xs ++ ys) := by unfold app; rw [if_pos h]
theorem chk_mid (p : List β) (a : β) (q : List β) : chk (p ++ a :: q).length (p.length : Int) = some p.length := chk_nat (by simp)
theorem getD_mid (p : List β) (a : β) (q : List β) (d : β) : (p ++ a :: q).getD p.length d = a := by
  rw [List.getD_eq_getElem?_getD, List.getElem?_append_right (Nat.le_refl _)]; simp
theorem set_mid (p : List β) (a b : β) (q : List β) : (p ++ a :: q).set p.length b = p ++ b :: q := by
  rw [List.set_append_right _ _ (Nat.le_refl _)]; simp
theorem upd_mid (p : List β) (a : β) (q : List β) (d : β) (f : β → β) : upd (p ++ a :: q) p.length d f = p ++ f a :: q := by
  unfold upd; rw [getD_mid, set_mid]
theorem upd_len (xs : List β) (j : Nat) (d : β) (f : β → β) : (upd xs j d f).length = xs.length := by unfold upd; simp
theorem upd_of {xs : List β} {j : Nat} {d : β} {f : β → β} : upd xs j d f = xs.set j (f (xs.getD j d)) := rfl
theorem lt_mid (p : List β) (a : β) (q : List β) : (p.length : Int) < ((p ++ a :: q).length : Nat) := by simp; omega
theorem next_mid {p : List β} {a : β} {q : List β} (h : (p ++ a :: q).length ≤ 1152921504606846976) : w64 ((p.length : Int) + 1) = ((p ++ [a]).length : Nat) := by
  rw [w64_id (by simp at h; omega)]; simp
theorem snoc_app (p : List β) (a : β) (q : List β) : p ++ a :: q = (p ++ [a]) ++ q := by simp
theorem getD_lt {xs : List β} {i : Nat} {d : β} (h : i < xs.length) : xs.getD i d = xs[i] := by
  rw [List.getD_eq_getElem?_getD, List.getElem?_eq_getElem h]; rfl
theorem getD_set {xs : List β} {i j : Nat} {a d : β} (h : i < xs.length) : (xs.set i a).getD j d = if i = j then a else xs.getD j d := by
  rw [List.getD_eq_getElem?_getD, List.getD_eq_getElem?_getD, List.getElem?_set]
  split
  · rename_i e; subst e; simp [h]
  · rfl
theorem some_bind {γ : Type} (x : β) (f : β → Option γ) : (some x).bind f = f x := rfl
end
def inB (n lo hi : Int) : Bool := decide (lo ≤ n) && decide (n ≤ hi)
theorem inB_iff {n lo hi : Int} : inB n lo hi = true ↔ lo ≤ n ∧ n ≤ hi := by unfold inB; simp
theorem inB_of {n lo hi : Int} (h : lo ≤ n ∧ n ≤ hi) : inB n lo hi = true := inB_iff.2 h
theorem notB {b : Bool} (h : ¬ b = true) : b = false := by cases b <;> simp_all
theorem all_loop {β : Type} {L : Nat → Nat → Option β} {n K0 : Nat} {ok : Nat → Bool} {f : Option β} (hs : ∀ k i, K0 ≤ k → i < n → L (k + 1) i = if ok i = true then L k (i + 1) else f) :
    ∀ (d k i : Nat), i + d = n → K0 + d < k → (∀ e, (∀ k, K0 ≤ k → L (k + 1) n = e) → (∀ j, i ≤ j → j < n → ok j = true) → L k i = e) ∧ ((∃ j, i ≤ j ∧ j < n ∧ ok j = false) → L k i = f) := by
  intro d
  induction d with
  | zero =>
    intro k i h1 h2
    obtain ⟨k, rfl⟩ := succ_of (show 0 < k by omega)
    have : i = n := by omega
    subst this
    exact ⟨fun e he _ => he k (by omega), fun ⟨j, a, b, _⟩ => by omega⟩
  | succ d ih =>
    intro k i h1 h2
    obtain ⟨k, rfl⟩ := succ_of (show 0 < k by omega)
    have := ih k (i + 1) (by omega) (by omega)
    rw [hs k i (by omega) (by omega)]
    refine ⟨fun e he h => ?_, fun ⟨j, a, b, c⟩ => ?_⟩
    · rw [if_pos (h i (Nat.le_refl _) (by omega))]; exact this.1 e he fun j a b => h j (by omega) b
    · by_cases e : ok i = true
      · rw [if_pos e]
        refine this.2 ⟨j, ?_, b, c⟩
        rcases Nat.lt_or_ge i j with h | h
        · exact h
        · have : j = i := by omega
          subst this; rw [e] at c; cases c
      · rw [if_neg e]
theorem exists_bad {n : Nat} {ok : Nat → Bool} (h : ¬ ∀ i, i < n → ok i = true) : ∃ j, 0 ≤ j ∧ j < n ∧ ok j = false := by
  apply Classical.byContradiction; intro hn
  refine h fun j hj => ?_
  cases hc : ok j with
  | true => rfl
  | false => exact absurd ⟨j, Nat.zero_le _, hj, hc⟩ hn
theorem first_bad {n : Nat} {ok : Nat → Bool} (h : ¬ ∀ i, i < n → ok i = true) : ∃ j, j < n ∧ ok j = false ∧ ∀ i, i < j → ok i = true := by
  induction n with
  | zero => exact absurd (fun i hi => by omega) h
  | succ n ih =>
    by_cases h1 : ∀ i, i < n → ok i = true
    · refine ⟨n, by omega, ?_, h1⟩
      cases hc : ok n with
      | false => rfl
      | true => exact absurd (fun i hi => by
          rcases Nat.lt_or_ge i n with h' | h'
          · exact h1 i h'
          · have : i = n := by omega
            rw [this]; exact hc) h
    · obtain ⟨j, a, b, c⟩ := ih h1
      exact ⟨j, by omega, b, c⟩
theorem find_loop {L : Nat → Nat → Option Int} {n K0 : Nat} {ok : Nat → Bool} (hs : ∀ k i, K0 ≤ k → i < n → L (k + 1) i = if ok i = true then some (i : Int) else L k (i + 1)) (he : ∀ k, K0 ≤ k → L (k + 1) n = some (-1)) :
    ∀ (d k i : Nat), i + d = n → K0 + d < k → ((∀ j, i ≤ j → j < n → ok j = false) → L k i = some (-1)) ∧ (∀ m, i ≤ m → m < n → ok m = true → (∀ j, i ≤ j → j < m → ok j = false) → L k i = some (m : Int)) := by
  intro d
  induction d with
  | zero =>
    intro k i h1 h2
    obtain ⟨k, rfl⟩ := succ_of (show 0 < k by omega)
    have : i = n := by omega
    subst this
    exact ⟨fun _ => he k (by omega), fun m a b _ _ => by omega⟩
  | succ d ih =>
    intro k i h1 h2
    obtain ⟨k, rfl⟩ := succ_of (show 0 < k by omega)
    have := ih k (i + 1) (by omega) (by omega)
    rw [hs k i (by omega) (by omega)]
    refine ⟨fun h => ?_, fun m a b c h => ?_⟩
    · rw [if_neg (by rw [h i (Nat.le_refl _) (by omega)]; simp)]; exact this.1 fun j a b => h j (by omega) b
    · by_cases e : ok i = true
      · rw [if_pos e]
        rcases Nat.lt_or_ge i m with h' | h'
        · have := h i (Nat.le_refl _) h'; rw [e] at this; cases this
        · have : m = i := by omega
          rw [this]
      · rw [if_neg e]
        refine this.2 m ?_ b c fun j a b => h j (by omega) b
        rcases Nat.lt_or_ge i m with h' | h'
        · exact h'
        · have : m = i := by omega
          subst this; exact absurd c e
theorem stepb {α γ : Type} {a : Option α} {x : α} {f : α → Option γ} {r : Option γ} (h : a = some x) (g : f x = r) : a.bind f = r := by rw [h]; exact g
theorem ifn {γ : Type} {c : Prop} {i : Decidable c} {t e r : γ} (h : ¬ c) (g : e = r) : @ite γ c i t e = r := by rw [if_neg h]; exact g
theorem condt {γ : Type} {a b r : γ} (g : b = r) : cond (!true) a b = r := g
def Yl {α : Type} (x : Option α) (P : α → Prop) : Prop := ∃ a, x = some a ∧ P a
theorem Yl.bind {α β : Type} {x : Option α} {f : α → Option β} {P : α → Prop} {Q : β → Prop} (h : Yl x P) (g : ∀ a, P a → Yl (f a) Q) : Yl (x.bind f) Q := by
  obtain ⟨a, rfl, ha⟩ := h; exact g a ha
theorem Yl.mono {α : Type} {x : Option α} {P Q : α → Prop} (h : Yl x P) (g : ∀ a, P a → Q a) : Yl x Q := by
  obtain ⟨a, e, ha⟩ := h; exact ⟨a, e, g a ha⟩
theorem Yl.ret {α : Type} {a : α} {P : α → Prop} (h : P a) : Yl (some a) P := ⟨a, rfl, h⟩
theorem Yl.ite {α : Type} {c : Prop} [i : Decidable c] {t e : Option α} {P : α → Prop} (ht : c → Yl t P) (he : ¬ c → Yl e P) : Yl (@ite _ c i t e) P := by
  by_cases h : c
  · rw [if_pos h]; exact ht h
  · rw [if_neg h]; exact he h
theorem Yl.cond {α : Type} {c : Bool} {t e : Option α} {P : α → Prop} (ht : c = true → Yl t P) (he : c = false → Yl e P) : Yl (cond c t e) P := by
  cases c
  · exact he rfl
  · exact ht rfl
def By (l : List Int) : Prop := ∀ y ∈ l, 0 ≤ y ∧ y ≤ 255
theorem By.of {l : List Int} (h : ∀ y ∈ l, (Lit.int .u8 y).wf = true) : By l := by
  intro y hy; have h := h y hy
  unfold Lit.wf at h; rw [Bool.and_eq_true] at h
  have h1 := of_decide_eq_true h.1; have h2 := of_decide_eq_true h.2
  exact ⟨h1, h2⟩
theorem byteBits (q : Int) : 0 ≤ band .u64 q 255 ∧ band .u64 q 255 ≤ 255 := by
  have h : (BitVec.ofInt 64 q &&& BitVec.ofInt 64 255).toNat ≤ 255 := by
    rw [BitVec.toNat_and]
    exact Nat.le_trans Nat.and_le_right (by decide)
  change 0 ≤ IntKind.wrap .u64 ((((BitVec.ofInt 64 q &&& BitVec.ofInt 64 255).toNat : Nat)) : Int) ∧ IntKind.wrap .u64 ((((BitVec.ofInt 64 q &&& BitVec.ofInt 64 255).toNat : Nat)) : Int) ≤ 255
  generalize (BitVec.ofInt 64 q &&& BitVec.ofInt 64 255).toNat = n at *
  unfold IntKind.wrap
  simp [IntKind.signed, IntKind.bits]
  omega
theorem next_ok (k : Nat) {l : List Int} {a : Int} (s : Int) (hb : By l) (h : 0 ≤ a ∧ a ≤ 1000000000000000) (hk : 5 ≤ k) : Yl (spec_l1Cur_next.f k l a s) fun r => r.2.1 = l ∧ r.2.2.1 = a + 1 ∧ 0 ≤ r.1 ∧ r.1 ≤ 255 := by
  obtain ⟨k, rfl⟩ := succ_of (show 0 < k by omega)
  have key : ∀ b : Int, 0 ≤ b ∧ b ≤ 255 → Yl (spec_l1Cur_next.l2 (k + 1) l a s b) fun r => r.2.1 = l ∧ r.2.2.1 = a + 1 ∧ 0 ≤ r.1 ∧ r.1 ≤ 255 := fun b hbb => by
    simp only [spec_l1Cur_next.l2, spec_l1Cur_next.b2]
    rw [w64_id (x := a + 1) (by omega)]
    refine Yl.ite (fun _ => Yl.ret ⟨rfl, rfl, hbb⟩) fun _ => ?_
    unfold shr; rw [if_neg (by omega)]; simp only [Option.bind_some]
    refine Yl.ret ⟨rfl, rfl, ?_⟩
    have := byteBits ((IntKind.u64.wrap (IntKind.u64.wrap (IntKind.u64.wrap (s * 6364136223846793005) + IntKind.u64.wrap b) + 102323)).fdiv (2 ^ min (Int.toNat 40) IntKind.u64.bits))
    rw [w64_id (by omega)]; exact this
  unfold spec_l1Cur_next.f spec_l1Cur_next.m
  refine Yl.ite (fun hlt => ?_) fun _ => key 0 (by omega)
  rw [chk_int (by omega)]; simp only [Option.bind_some]
  have hi : a.toNat < l.length := by omega
  have := hb _ (List.getElem_mem hi)
  rw [getD_lt hi, w64_id (by omega)]
  exact key _ this
theorem pick_ok (k : Nat) {l : List Int} {a : Int} (s n : Int) (hb : By l) (h : 0 ≤ a ∧ a ≤ 1000000000000) (hk : 5 ≤ k) : Yl (spec_l1Cur_pick.f k l a s n) fun r => r.2.1 = l ∧ a ≤ r.2.2.1 ∧ r.2.2.1 ≤ a + 2 ∧ 0 ≤ r.1 ∧ (r.1 = 0 ∨ r.1 < n) ∧ r.1 ≤ 65535 := by
  unfold spec_l1Cur_pick.f spec_l1Cur_pick.m
  refine Yl.ite (fun _ => Yl.ret ⟨rfl, by simp, by dsimp only; omega, by simp⟩) fun hn => ?_
  refine Yl.bind (next_ok k s hb (by omega) hk) ?_
  rintro ⟨b, l', a', s'⟩ ⟨e1, e2, e3, e4⟩
  dsimp only at *; subst e1; subst e2
  refine Yl.ite (fun hn2 => ?_) fun _ => ?_
  · refine Yl.bind (next_ok k s' hb (by omega) hk) ?_
    rintro ⟨c, l2, a2, s2⟩ ⟨f1, f2, f3, f4⟩
    dsimp only at *; subst f1; subst f2
    rw [w64_id (x := b * 256) (by omega), w64_id (by omega)]
    unfold rem; rw [if_neg (by omega)]; simp only [Option.bind_some]
    rw [Int.tmod_eq_emod_of_nonneg (by omega)]
    have := Int.emod_nonneg (b * 256 + c) (show n ≠ 0 by omega)
    have := Int.emod_lt_of_pos (b * 256 + c) (show 0 < n by omega)
    have : (b * 256 + c) % n ≤ b * 256 + c := by
      rcases Int.lt_or_le (b * 256 + c) n with h | h
      · rw [Int.emod_eq_of_lt (by omega) h]; omega
      · omega
    exact Yl.ret ⟨rfl, by dsimp only; omega, by dsimp only; omega, by omega, by omega, by dsimp only; omega⟩
  · unfold rem; rw [if_neg (by omega)]; simp only [Option.bind_some]
    rw [Int.tmod_eq_emod_of_nonneg (by omega)]
    have := Int.emod_nonneg b (show n ≠ 0 by omega)
    have := Int.emod_lt_of_pos b (show 0 < n by omega)
    exact Yl.ret ⟨rfl, by dsimp only; omega, by dsimp only; omega, by omega, by omega, by dsimp only; omega⟩
theorem one_ok (k : Nat) {l : List Int} {a : Int} (s n : Int) (hb : By l) (h : 0 ≤ a ∧ a ≤ 1000000000000) (hk : 5 ≤ k) : Yl (spec_l1Cur_one.f k l a s n) fun r => r.2.1 = l ∧ a ≤ r.2.2.1 ∧ r.2.2.1 ≤ a + 2 := by
  unfold spec_l1Cur_one.f spec_l1Cur_one.m
  refine Yl.bind (pick_ok k s n hb h hk) ?_
  rintro ⟨b, l', a', s'⟩ ⟨e1, e2, e3, e4⟩
  exact Yl.ret ⟨e1, e2, e3⟩
theorem among_ok (k : Nat) {l : List Int} {a : Int} (s : Int) {xs : List Int} (lo hi : Int) (hx : 0 < xs.length ∧ xs.length ≤ 60000) (hm : ∀ x ∈ xs, lo ≤ x ∧ x ≤ hi) (hb : By l) (h : 0 ≤ a ∧ a ≤ 1000000000000) (hk : 5 ≤ k) : Yl (spec_l1Cur_among_2.f k l a s xs) fun r => r.2.1 = l ∧ r.2.2.2.2 = xs ∧ a ≤ r.2.2.1 ∧ r.2.2.1 ≤ a + 2 ∧ lo ≤ r.1 ∧ r.1 ≤ hi := by
  unfold spec_l1Cur_among_2.f spec_l1Cur_among_2.m
  refine Yl.bind (pick_ok k s _ hb h hk) ?_
  rintro ⟨b, l', a', s'⟩ ⟨e1, e2, e3, e4, e5, e6⟩
  dsimp only at *
  rw [chk_int (by omega)]; simp only [Option.bind_some]
  have hi : b.toNat < xs.length := by omega
  have := hm _ (List.getElem_mem hi)
  rw [getD_lt hi]
  exact Yl.ret ⟨e1, rfl, e2, e3, this⟩
theorem among_any (k : Nat) {l : List Int} {a : Int} (s : Int) {xs : List Int} (hx : 0 < xs.length ∧ xs.length ≤ 60000) (hb : By l) (h : 0 ≤ a ∧ a ≤ 1000000000000) (hk : 5 ≤ k) : Yl (spec_l1Cur_among_2.f k l a s xs) fun r => r.2.1 = l ∧ r.2.2.2.2 = xs ∧ a ≤ r.2.2.1 ∧ r.2.2.1 ≤ a + 2 := by
  unfold spec_l1Cur_among_2.f spec_l1Cur_among_2.m
  refine Yl.bind (pick_ok k s _ hb h hk) ?_
  rintro ⟨b, l', a', s'⟩ ⟨e1, e2, e3, e4, e5, e6⟩
  dsimp only at *
  rw [chk_int (by omega)]; simp only [Option.bind_some]
  exact Yl.ret ⟨e1, rfl, e2, e3⟩
theorem quo2 {x : Int} {β : Type} {f : Int → Option β} {P : β → Prop} (h : ∀ q, Yl (f q) P) : Yl ((quo .i64 x 2).bind f) P := by
  unfold quo; rw [if_neg (by omega)]; exact h _
def colorB (x : Int) : Bool := inB x 0 5
def goodB (w h : Int) (l : List Int) : Bool := inB w 1 8 && inB h 1 8 && decide ((l.length : Int) = w * h) && l.all colorB
theorem mul_bd {w h : Int} (hw : 1 ≤ w ∧ w ≤ 8) (hh : 1 ≤ h ∧ h ≤ 8) : 1 ≤ w * h ∧ w * h ≤ 64 := by
  obtain ⟨a, b⟩ := hw; obtain ⟨c, d⟩ := hh
  have h1 : w = 1 ∨ w = 2 ∨ w = 3 ∨ w = 4 ∨ w = 5 ∨ w = 6 ∨ w = 7 ∨ w = 8 := by omega
  rcases h1 with rfl | rfl | rfl | rfl | rfl | rfl | rfl | rfl <;> omega
theorem good_of {w h : Int} {l : List Int} (hg : goodB w h l = true) : (1 ≤ w ∧ w ≤ 8) ∧ (1 ≤ h ∧ h ≤ 8) ∧ (l.length : Int) = w * h ∧ ∀ x ∈ l, 0 ≤ x ∧ x ≤ 5 := by
  unfold goodB at hg
  simp only [Bool.and_eq_true, decide_eq_true_eq, List.all_eq_true, inB_iff] at hg
  exact ⟨hg.1.1.1, hg.1.1.2, hg.1.2, fun x hx => inB_iff.1 (hg.2 x hx)⟩
theorem allI_iff (p : Int → Bool) (xs : List Int) : xs.all p = true ↔ ∀ i, i < xs.length → p (xs.getD i 0) = true := by
  rw [List.all_eq_true]
  constructor
  · intro h i hi; rw [getD_lt hi]; exact h _ (List.getElem_mem hi)
  · intro h x hx
    obtain ⟨i, hi, rfl⟩ := List.mem_iff_getElem.1 hx
    rw [← getD_lt (d := 0) hi]; exact h i hi
theorem specIn_eq (k : Nat) (n lo hi : Int) : spec_l1In.f k n lo hi = some (inB n lo hi) := by
  unfold spec_l1In.f spec_l1In.m inB; by_cases h : lo ≤ n <;> simp [h]
theorem implIn_eq (k : Nat) (n lo hi : Int) : impl_in.f k n lo hi = some (inB n lo hi) := by
  unfold impl_in.f impl_in.m inB; by_cases h : lo ≤ n <;> simp [h]
theorem l2Color_eq (k : Nat) (n : Int) : spec_l2Color.f k n = some (colorB n) := by unfold spec_l2Color.f spec_l2Color.m; rw [specIn_eq]; rfl
theorem l2Side_eq (k : Nat) (n : Int) : spec_l2Side.f k n = some (inB n 1 8) := by unfold spec_l2Side.f spec_l2Side.m; rw [specIn_eq]; rfl
theorem isColor_eq (k : Nat) (n : Int) : impl_isColor.f k n = some (colorB n) := by unfold impl_isColor.f impl_isColor.m; rw [implIn_eq]; rfl
theorem isSide_eq (k : Nat) (n : Int) : impl_isSide.f k n = some (inB n 1 8) := by unfold impl_isSide.f impl_isSide.m; rw [implIn_eq]; rfl
theorem l2Good_eq (k : Nat) (w h : Int) (l : List Int) (hl : l.length ≤ 100000000000000) (hk : l.length + 50 ≤ k) : spec_l2Good.f k w h l = some (goodB w h l) := by
  unfold spec_l2Good.f spec_l2Good.m
  have hq := (all_loop (L := fun k i => spec_l2Good.l3 k w h l (i : Int)) (n := l.length) (K0 := 20) (ok := fun i => colorB (l.getD i 0)) (f := some false) (fun k i hk hi => ?_)) l.length k 0 (by omega) (by omega)
  · rw [show ((0 : Nat) : Int) = 0 from rfl] at hq
    by_cases hc : l.all colorB = true
    · rw [hq.1 _ (fun k hk => ?_) (fun j _ hj => (allI_iff _ _).1 hc j hj)]
      simp (disch := omega) only [spec_l2Good.l3, spec_l2Good.b3, if_neg, l2Side_eq, Option.bind_some]
      unfold goodB
      cases e1 : inB w 1 8 <;> simp only [Bool.not_true, Bool.not_false, cond_true, cond_false, Bool.true_and, Bool.false_and, Bool.and_true, Bool.and_false, Bool.false_eq_true, Bool.true_or, Bool.or_true, Bool.false_or, Bool.or_false, Bool.or_self, Bool.and_self, decide_true, decide_false, if_true, if_false, not_true, not_false_eq_true, not_true_eq_false, false_or, or_false, true_and, and_true, Bool.not_eq_true, Bool.true_eq_false, reduceCtorEq]
      cases e2 : inB h 1 8 <;> simp only [Bool.not_true, Bool.not_false, cond_true, cond_false, Bool.true_and, Bool.false_and, Bool.and_true, Bool.and_false, Bool.false_eq_true, Bool.true_or, Bool.or_true, Bool.false_or, Bool.or_false, Bool.or_self, Bool.and_self, decide_true, decide_false, if_true, if_false, not_true, not_false_eq_true, not_true_eq_false, false_or, or_false, true_and, and_true, Bool.not_eq_true, Bool.true_eq_false, reduceCtorEq, hc, Option.bind_some]
      have := mul_bd (inB_iff.1 e1) (inB_iff.1 e2)
      rw [w64_id (by omega)]
    · rw [hq.2 (exists_bad fun hn => hc ((allI_iff _ _).2 hn))]
      unfold goodB; rw [notB hc]; simp
  · simp (disch := omega) only [spec_l2Good.l3, spec_l2Good.b3, if_pos, chk_nat, Option.bind_some, w64_id, l2Color_eq, Int.natCast_add, Int.cast_ofNat_Int]
    cases colorB (l.getD i 0) <;> simp only [Bool.not_true, Bool.not_false, cond_true, cond_false, Bool.true_and, Bool.false_and, Bool.and_true, Bool.and_false, Bool.false_eq_true, Bool.true_or, Bool.or_true, Bool.false_or, Bool.or_false, Bool.or_self, Bool.and_self, decide_true, decide_false, if_true, if_false, not_true, not_false_eq_true, not_true_eq_false, false_or, or_false, true_and, and_true, Bool.not_eq_true, Bool.true_eq_false, reduceCtorEq]
theorem areColors_eq (k : Nat) (l : List Int) (hl : l.length ≤ 100000000000000) (hk : l.length + 50 ≤ k) : impl_areAll_int__impl_isColor.f k l = some (l.all colorB) := by
  unfold impl_areAll_int__impl_isColor.f impl_areAll_int__impl_isColor.m slices_ContainsFunc_int_int__impl_areAll_int_1__impl_isColor.f slices_ContainsFunc_int_int__impl_areAll_int_1__impl_isColor.m slices_IndexFunc_int_int__impl_areAll_int_1__impl_isColor.f slices_IndexFunc_int_int__impl_areAll_int_1__impl_isColor.m
  have h := (find_loop (L := fun k i => slices_IndexFunc_int_int__impl_areAll_int_1__impl_isColor.l3 k l l.length (i : Int)) (n := l.length) (K0 := 20) (ok := fun i => !colorB (l.getD i 0)) (fun k i hk hi => ?_) (fun k hk => ?_)) l.length k 0 (by omega) (by omega)
  · rw [show ((0 : Nat) : Int) = 0 from rfl] at h
    by_cases ha : l.all colorB = true
    · rw [h.1 (fun j _ hj => by rw [(allI_iff _ _).1 ha j hj]; rfl), ha]; rfl
    · obtain ⟨m, h1, h2, h3⟩ := first_bad (n := l.length) (ok := fun i => colorB (l.getD i 0)) (fun hn => ha ((allI_iff _ _).2 hn))
      rw [h.2 m (Nat.zero_le _) h1 (by rw [h2]; rfl) (fun j _ hj => by rw [h3 j hj]; rfl), notB ha]
      simp
  · simp (disch := omega) only [slices_IndexFunc_int_int__impl_areAll_int_1__impl_isColor.l3, slices_IndexFunc_int_int__impl_areAll_int_1__impl_isColor.b3, impl_areAll_int_1__impl_isColor.f, impl_areAll_int_1__impl_isColor.m, isColor_eq, if_pos, chk_nat, Option.bind_some, w64_id, Int.natCast_add, Int.cast_ofNat_Int]
    cases colorB (l.getD i 0) <;> simp only [Bool.not_true, Bool.not_false, cond_true, cond_false, Bool.true_and, Bool.false_and, Bool.and_true, Bool.and_false, Bool.false_eq_true, Bool.true_or, Bool.or_true, Bool.false_or, Bool.or_false, Bool.or_self, Bool.and_self, decide_true, decide_false, if_true, if_false, not_true, not_false_eq_true, not_true_eq_false, false_or, or_false, true_and, and_true, Bool.not_eq_true, Bool.true_eq_false, reduceCtorEq]
  · simp (disch := omega) only [slices_IndexFunc_int_int__impl_areAll_int_1__impl_isColor.l3, slices_IndexFunc_int_int__impl_areAll_int_1__impl_isColor.b3, if_neg]
theorem isChart_eq (k : Nat) (w h : Int) (l : List Int) (hl : l.length ≤ 100000000000000) (hk : l.length + 50 ≤ k) : impl_IsChart.f k w h l = some (goodB w h l) := by
  unfold impl_IsChart.f impl_IsChart.m goodB
  rw [isSide_eq, isSide_eq, areColors_eq k l hl hk]
  simp only [Option.bind_some]
  cases e1 : inB w 1 8 <;> simp only [Bool.not_true, Bool.not_false, cond_true, cond_false, Bool.true_and, Bool.false_and, Bool.and_true, Bool.and_false, Bool.false_eq_true, Bool.true_or, Bool.or_true, Bool.false_or, Bool.or_false, Bool.or_self, Bool.and_self, decide_true, decide_false, if_true, if_false, not_true, not_false_eq_true, not_true_eq_false, false_or, or_false, true_and, and_true, Bool.not_eq_true, Bool.true_eq_false, reduceCtorEq]
  cases e2 : inB h 1 8 <;> simp only [Bool.not_true, Bool.not_false, cond_true, cond_false, Bool.true_and, Bool.false_and, Bool.and_true, Bool.and_false, Bool.false_eq_true, Bool.true_or, Bool.or_true, Bool.false_or, Bool.or_false, Bool.or_self, Bool.and_self, decide_true, decide_false, if_true, if_false, not_true, not_false_eq_true, not_true_eq_false, false_or, or_false, true_and, and_true, Bool.not_eq_true, Bool.true_eq_false, reduceCtorEq]
  have := mul_bd (inB_iff.1 e1) (inB_iff.1 e2)
  rw [w64_id (by omega)]
  by_cases e : (l.length : Int) = w * h <;> simp [e]
theorem cloneI_eq (k : Nat) (cs : List Int) (hl : cs.length ≤ 5000000) : slices_Clone_int_int.f k cs = some cs := by unfold slices_Clone_int_int.f; rw [app_ok (by simp; omega)]; rfl
theorem ownI_eq (k : Nat) (cs : List Int) (hl : cs.length ≤ 5000000) : spec_l1Own.f k cs = some cs := by unfold spec_l1Own.f spec_l1Own.m; rw [app_ok (by simp; omega)]; rfl
theorem copied_eq (k : Nat) (w h : Int) (l : List Int) (hl : l.length ≤ 5000000) : impl_Chart_copied.f k w h l = some (w, h, l) := by unfold impl_Chart_copied.f impl_Chart_copied.m; rw [cloneI_eq k l hl]; rfl
theorem l2Own_eq (k : Nat) (w h : Int) (l : List Int) (hl : l.length ≤ 5000000) : spec_l2Own.f k w h l = some (w, h, l) := by unfold spec_l2Own.f spec_l2Own.m; rw [ownI_eq k l hl]; rfl
theorem nat_mul_cast (a b : Nat) : ((a * b : Nat) : Int) = (a : Int) * b := Int.natCast_mul a b
theorem lenN {w h : Nat} {l : List Int} (hl : (l.length : Int) = (w : Int) * (h : Int)) : l.length = w * h := by rw [← nat_mul_cast] at hl; omega
theorem plain_l (w h : Nat) (hw : w ≤ 16) (hh : h ≤ 16) : ∀ (d k i : Nat) (l : List Int) (a s : Int) (kn : List Int), i + d = w * h → kn.length = i → (∀ x ∈ kn, 0 ≤ x ∧ x ≤ 5) → By l → 0 ≤ a ∧ a + 4 * d ≤ 1000000000 → 20 + d ≤ k → Yl (spec_l1Cur_plain.l4 k l a s w h 0 0 [] w h kn (i : Int)) fun r => r.1 = (w : Int) ∧ r.2.1 = (h : Int) ∧ r.2.2.2.1 = l ∧ (∀ x ∈ r.2.2.1, 0 ≤ x ∧ x ≤ 5) ∧ (r.2.2.1.length = w * h ∧ a ≤ r.2.2.2.2.1 ∧ r.2.2.2.2.1 ≤ a + 4 * d) := by
  have hN : w * h ≤ 256 := Nat.le_trans (Nat.mul_le_mul hw hh) (by decide)
  have hc : ((w : Int) * (h : Int)) = ((w * h : Nat) : Int) := by rw [Int.natCast_mul]
  intro d
  induction d with
  | zero =>
    intro k i l a s kn h1 h2 hx hb h3 h4
    obtain ⟨k, rfl⟩ := succ_of (show 0 < k by omega)
    simp only [spec_l1Cur_plain.l4, spec_l1Cur_plain.b4]
    rw [hc, w64_id (by omega), if_neg (by omega)]
    exact Yl.ret ⟨rfl, rfl, rfl, hx, by dsimp only; omega⟩
  | succ d ih =>
    intro k i l a s kn h1 h2 hx hb h3 h4
    obtain ⟨k, rfl⟩ := succ_of (show 0 < k by omega)
    simp only [spec_l1Cur_plain.l4, spec_l1Cur_plain.b4]
    have hsnoc : ∀ x : Int, 0 ≤ x ∧ x ≤ 5 → ∀ y ∈ kn ++ [x], 0 ≤ y ∧ y ≤ 5 := fun x hx0 y hy => by
      rcases List.mem_append.1 hy with h | h
      · exact hx y h
      · rw [List.mem_singleton] at h; subst h; exact hx0
    rw [hc, w64_id (by omega), if_pos (by omega), w64_id (x := (i : Int) + 1) (by omega), show ((i : Int) + 1) = ((i + 1 : Nat) : Int) by omega]
    (refine Yl.bind (among_ok _ _ 0 5 (by simp) (by intro x hx; simp at hx; omega) (by assumption) (by omega) (by omega)) ?_; rintro ⟨vq, lq, aq, sq, xq⟩ ⟨eq1, eq2, eq3, eq4, eq5, eq6⟩; dsimp only at *; subst eq1; subst eq2)
    refine Yl.ite (fun hwi => ?_) fun _ => ?_
    · (refine Yl.bind (one_ok _ _ _ (by assumption) (by omega) (by omega)) ?_; rintro ⟨vq, lq, aq, sq⟩ ⟨eq1, eq2, eq3⟩; dsimp only at *; subst eq1)
      refine Yl.cond (fun _ => ?_) fun _ => ?_
      · have hw1 : 1 ≤ w := by
          rcases Nat.eq_zero_or_pos w with h | h
          · subst h; rw [Nat.zero_mul] at h1; omega
          · exact h
        rw [w64_id (by omega), chk_int (by omega)]; simp only [Option.bind_some]
        rw [app_ok (by simp; omega)]; simp only [Option.bind_some]
        refine (ih k (i + 1) _ _ _ _ (by omega) (by simp; omega) (hsnoc _ ?_) (by assumption) (by omega) (by omega)).mono fun r hr => ⟨hr.1, hr.2.1, hr.2.2.1, hr.2.2.2.1, by omega⟩
        rw [getD_lt (by omega)]; exact hx _ (List.getElem_mem _)
      · rw [app_ok (by simp; omega)]; simp only [Option.bind_some]
        exact (ih k (i + 1) _ _ _ _ (by omega) (by simp; omega) (hsnoc _ (by omega)) (by assumption) (by omega) (by omega)).mono fun r hr => ⟨hr.1, hr.2.1, hr.2.2.1, hr.2.2.2.1, by omega⟩
    · rw [app_ok (by simp; omega)]; simp only [Option.bind_some]
      exact (ih k (i + 1) _ _ _ _ (by omega) (by simp; omega) (hsnoc _ (by omega)) (by assumption) (by omega) (by omega)).mono fun r hr => ⟨hr.1, hr.2.1, hr.2.2.1, hr.2.2.2.1, by omega⟩
theorem plain_ok (k : Nat) {l : List Int} {a : Int} (s : Int) {w h : Int} (hw : 0 ≤ w ∧ w ≤ 16) (hh : 0 ≤ h ∧ h ≤ 16) (hb : By l) (ha : 0 ≤ a ∧ a ≤ 100000000) (hk : 1000 ≤ k) : Yl (spec_l1Cur_plain.f k l a s w h) fun r => r.1 = w ∧ r.2.1 = h ∧ r.2.2.2.1 = l ∧ (∀ x ∈ r.2.2.1, 0 ≤ x ∧ x ≤ 5) ∧ (r.2.2.1.length : Int) = w * h ∧ (r.2.2.1.length ≤ 256 ∧ a ≤ r.2.2.2.2.1 ∧ r.2.2.2.2.1 ≤ a + 1100) := by
  obtain ⟨w, rfl⟩ := Int.eq_ofNat_of_zero_le hw.1
  obtain ⟨h, rfl⟩ := Int.eq_ofNat_of_zero_le hh.1
  have hN : w * h ≤ 256 := Nat.le_trans (Nat.mul_le_mul (show w ≤ 16 by omega) (show h ≤ 16 by omega)) (by decide)
  unfold spec_l1Cur_plain.f spec_l1Cur_plain.m
  refine (plain_l w h (by omega) (by omega) (w * h) k 0 l a s [] (by omega) rfl (by simp) hb (by omega) (by omega)).mono fun r hr => ⟨hr.1, hr.2.1, hr.2.2.1, hr.2.2.2.1, ?_, by omega⟩
  have := hr.2.2.2.2.1
  rw [this, Int.natCast_mul]
theorem good_plain {w h : Int} {kn : List Int} (hw : 1 ≤ w ∧ w ≤ 8) (hh : 1 ≤ h ∧ h ≤ 8) (hx : ∀ x ∈ kn, 0 ≤ x ∧ x ≤ 5) (hl : (kn.length : Int) = w * h) : goodB w h kn = true := by
  unfold goodB
  simp only [Bool.and_eq_true, decide_eq_true_eq, List.all_eq_true, inB_iff]
  exact ⟨⟨⟨hw, hh⟩, hl⟩, fun x h => inB_of (hx x h)⟩
theorem chart_ok (k : Nat) {l : List Int} {a : Int} (s : Int) (hb : By l) (ha : 0 ≤ a ∧ a ≤ 1000000) (hk : 2000 ≤ k) : Yl (spec_l1Cur_chart.f k l a s) fun r => r.2.2.2.1 = l ∧ (r.2.2.1.length ≤ 300 ∧ -1 ≤ r.1 ∧ r.1 ≤ 9 ∧ -1 ≤ r.2.1 ∧ r.2.1 ≤ 9 ∧ a ≤ r.2.2.2.2.1 ∧ r.2.2.2.2.1 ≤ a + 3000) := by
  unfold spec_l1Cur_chart.f spec_l1Cur_chart.m
  refine Yl.bind (among_ok _ _ 1 8 (by simp) (by intro x hx; simp at hx; omega) hb (by omega) (by omega)) ?_
  rintro ⟨w, l', a', s', x'⟩ ⟨e1, e2, e3, e4, e5, e6⟩
  dsimp only at *; subst e1
  refine Yl.bind (among_ok _ _ 1 8 (by simp) (by intro x hx; simp at hx; omega) hb (by omega) (by omega)) ?_
  rintro ⟨h, l', a2, s2, x2⟩ ⟨e1, f2, f3, f4, f5, f6⟩
  dsimp only at *; subst e1
  refine Yl.bind (plain_ok k s2 (w := w) (h := h) (by omega) (by omega) hb (by omega) (by omega)) ?_
  rintro ⟨w', h', kn, l', a3, s3⟩ ⟨g1, g2, e1, g3, g4, g5⟩
  dsimp only at *; subst e1; subst g1; subst g2
  have hm := mul_bd (w := w') (h := h') (by omega) (by omega)
  refine Yl.bind (pick_ok _ _ _ hb (by omega) (by omega)) ?_
  rintro ⟨n, l', a4, s4⟩ ⟨e1, i2, i3, i4, i5, i6⟩
  dsimp only at *; subst e1
  refine Yl.ite (fun _ => ?_) fun _ => ?_
  · refine Yl.bind (pick_ok _ _ _ hb (by omega) (by omega)) ?_
    rintro ⟨m, l', a5, s5⟩ ⟨e1, j2, j3, j4, j5, j6⟩
    dsimp only at *; subst e1
    (refine Yl.bind (among_any _ _ (by simp) (by assumption) (by omega) (by omega)) ?_; rintro ⟨vq, lq, aq, sq, xq⟩ ⟨eq1, eq2, eq3, eq4⟩; dsimp only at *; subst eq1; subst eq2)
    rw [chk_int (by omega)]; simp only [Option.bind_some]
    exact Yl.ret ⟨rfl, by dsimp only; rw [List.length_set]; omega⟩
  refine Yl.ite (fun _ => ?_) fun _ => ?_
  · rw [app_ok (by simp; omega)]; simp only [Option.bind_some]
    exact Yl.ret ⟨rfl, by dsimp only; rw [List.length_append, List.length_singleton]; omega⟩
  refine Yl.ite (fun _ => ?_) fun _ => ?_
  · refine Yl.bind (among_ok _ _ 0 9 (by simp) (by intro x hx; simp at hx; omega) hb (by omega) (by omega)) ?_
    rintro ⟨w2, l', a6, s6, x6⟩ ⟨e1, n2, n3, n4, n5, n6⟩
    dsimp only at *; subst e1
    refine Yl.bind (plain_ok k s6 (w := w2) (h := 1) (by omega) (by omega) hb (by omega) (by omega)) ?_
    rintro ⟨w', h', kn, l', a3, s3⟩ ⟨p1, p2, e1, p3, p4, p5⟩
    dsimp only at *; subst e1; subst p1; subst p2
    exact Yl.ret ⟨rfl, by dsimp only; omega⟩
  exact Yl.ret ⟨rfl, by dsimp only; omega⟩
def gridL (w h : Nat) (f : Nat → Nat → Int) : List Int := (List.range h).flatMap fun r => (List.range w).map (f r)
theorem gridL_len (w h : Nat) (f : Nat → Nat → Int) : (gridL w h f).length = w * h := by
  unfold gridL
  induction h with
  | zero => simp
  | succ h ih => rw [List.range_succ, List.flatMap_append, List.length_append, ih]; simp [Nat.mul_succ]
theorem gridL_congr (w h : Nat) (f g : Nat → Nat → Int) (e : ∀ r c, r < h → c < w → f r c = g r c) : gridL w h f = gridL w h g := by
  unfold gridL
  show ((List.range h).map _).flatten = ((List.range h).map _).flatten
  congr 1
  apply List.map_congr_left
  intro r hr
  apply List.map_congr_left
  intro c hc
  exact e r c (by simpa using hr) (by simpa using hc)
theorem gridL_all (w h : Nat) (f : Nat → Nat → Int) (p : Int → Prop) (e : ∀ r c, r < h → c < w → p (f r c)) : ∀ x ∈ gridL w h f, p x := by
  intro x hx
  unfold gridL at hx
  simp only [List.mem_flatMap, List.mem_map, List.mem_range] at hx
  obtain ⟨r, hr, c, hc, rfl⟩ := hx
  exact e r c hr hc
theorem gridL_get (w h : Nat) (f : Nat → Nat → Int) (r c : Nat) (hr : r < h) (hc : c < w) : (gridL w h f)[r * w + c]? = some (f r c) := by
  unfold gridL
  induction h with
  | zero => omega
  | succ h ih =>
    rw [List.range_succ, List.flatMap_append]
    have hl : ((List.range h).flatMap fun r => (List.range w).map (f r)).length = w * h := gridL_len w h f
    by_cases e : r < h
    · rw [List.getElem?_append_left]
      · exact ih e
      · rw [hl]
        have : (r + 1) * w ≤ h * w := Nat.mul_le_mul_right _ e
        rw [Nat.add_mul, Nat.one_mul] at this
        rw [Nat.mul_comm w h]; omega
    · have : r = h := by omega
      subst this
      rw [List.getElem?_append_right (by rw [hl, Nat.mul_comm]; omega), hl, Nat.mul_comm w r, Nat.add_sub_cancel_left]
      simp [hc]
/-- Two loops, one in the other, that collect g row col. -/
theorem grid_loop {R : Type} (L0 : Nat → Int → List Int → Option R) (L1 : Nat → Int → Int → List Int → Option R) (fin : List Int → Option R) (w h : Nat) (hw : w ≤ 64) (hh : h ≤ 64) (g : Nat → Int → Int → Option Int) (f : Nat → Nat → Int)
    (h0 : ∀ k (row : Nat) acc, L0 (k + 1) row acc = if (row : Int) < h then L1 k row 0 acc else fin acc)
    (h1 : ∀ k (row col : Nat) acc, L1 (k + 1) row col acc = if (col : Int) < w then (g k row col).bind (fun t => (app 17592186044416 acc [t]).bind fun l => L1 k row (w64 ((col : Int) + 1)) l) else L0 k (w64 ((row : Int) + 1)) acc)
    (hg : ∀ k (r c : Nat), r < h → c < w → g k r c = some (f r c)) : ∀ k, (h + 1) * (w + 2) ≤ k → L0 k 0 [] = fin (gridL w h f) := by
  have row_ : ∀ (d k row : Nat) (col : Nat) (acc : List Int), row < h → col + d = w → acc.length + d ≤ 8192 → d < k →
      ∃ k', k' + d + 1 = k ∧ L1 k row col acc = L0 k' ((row + 1 : Nat) : Int) (acc ++ ((List.range w).drop col).map (f row)) := by
    intro d
    induction d with
    | zero =>
      intro k row col acc hr hc ha hk
      obtain ⟨k, rfl⟩ := succ_of hk
      refine ⟨k, rfl, ?_⟩
      rw [h1, if_neg (by omega), w64_id (by omega), List.drop_of_length_le (by simp; omega)]
      simp
    | succ d ih =>
      intro k row col acc hr hc ha hk
      obtain ⟨k, rfl⟩ := succ_of (Nat.lt_of_le_of_lt (Nat.zero_le _) hk)
      obtain ⟨k', e1, e2⟩ := ih k row (col + 1) (acc ++ [f row col]) hr (by omega) (by simp; omega) (by omega)
      refine ⟨k', by omega, ?_⟩
      rw [h1, if_pos (by omega), hg k row col hr (by omega)]
      simp only [Option.bind_some]
      rw [app_ok (by simp; omega), w64_id (by omega)]
      simp only [Option.bind_some]
      rw [show ((col : Int) + 1) = ((col + 1 : Nat) : Int) by omega, e2]
      congr 1
      rw [List.append_assoc]
      congr 1
      rw [List.drop_eq_getElem_cons (l := List.range w) (i := col) (by simp; omega)]
      simp
  have all_ : ∀ (d k row : Nat) (acc : List Int), row + d = h → acc.length ≤ 64 * row → (d + 1) * (w + 2) ≤ k → L0 k row acc = fin (acc ++ ((List.range h).drop row).flatMap fun r => (List.range w).map (f r)) := by
    intro d
    induction d with
    | zero =>
      intro k row acc hr ha hk
      obtain ⟨k, rfl⟩ := succ_of (show 0 < k by omega)
      rw [h0, if_neg (by omega), List.drop_of_length_le (by simp; omega)]
      simp
    | succ d ih =>
      intro k row acc hr ha hk
      rw [Nat.add_mul] at hk
      obtain ⟨k, rfl⟩ := succ_of (show 0 < k by omega)
      rw [h0, if_pos (by omega)]
      obtain ⟨k', e1, e2⟩ := row_ w k row 0 acc (by omega) (by omega) (by omega) (by omega)
      rw [show ((0 : Int)) = ((0 : Nat) : Int) from rfl, e2, ih k' (row + 1) _ (by omega) (by simp; omega) (by omega)]
      congr 1
      rw [List.append_assoc, List.drop_eq_getElem_cons (show row < (List.range h).length by simp; omega)]
      simp
  intro k hk
  have := all_ h k 0 [] (by omega) (by simp) hk
  simpa [gridL] using this
def atL (w : Int) (l : List Int) (r c : Int) : Int := l.getD (r * w + c).toNat 0
theorem at_bd {w h r c : Int} (hw : 1 ≤ w ∧ w ≤ 8) (hh : 1 ≤ h ∧ h ≤ 8) (hr : 0 ≤ r ∧ r < h) (hc : 0 ≤ c ∧ c < w) : 0 ≤ r * w ∧ r * w ≤ 64 ∧ 0 ≤ r * w + c ∧ r * w + c < w * h := by
  obtain ⟨a, b⟩ := hw; obtain ⟨a', b'⟩ := hh; obtain ⟨p, q⟩ := hr; obtain ⟨p', q'⟩ := hc
  have h1 : w = 1 ∨ w = 2 ∨ w = 3 ∨ w = 4 ∨ w = 5 ∨ w = 6 ∨ w = 7 ∨ w = 8 := by omega
  rcases h1 with rfl | rfl | rfl | rfl | rfl | rfl | rfl | rfl <;> omega
theorem iatC (k : Nat) (w h : Int) (l : List Int) (r c : Int) (hw : 1 ≤ w ∧ w ≤ 8) (hh : 1 ≤ h ∧ h ≤ 8) (hl : (l.length : Int) = w * h) (hr : 0 ≤ r ∧ r < h) (hc : 0 ≤ c ∧ c < w) : impl_Chart_at.f k w h l r c = some (atL w l r c) := by
  have b := at_bd hw hh hr hc
  unfold impl_Chart_at.f impl_Chart_at.m atL
  rw [w64_id (x := r * w) (by omega), w64_id (by omega), chk_int (by omega)]; rfl
theorem satC (k : Nat) (w h : Int) (l : List Int) (r c : Int) (hw : 1 ≤ w ∧ w ≤ 8) (hh : 1 ≤ h ∧ h ≤ 8) (hl : (l.length : Int) = w * h) (hr : 0 ≤ r ∧ r < h) (hc : 0 ≤ c ∧ c < w) : spec_l2At.f k w h l r c = some (atL w l r c) := by
  have b := at_bd hw hh hr hc
  unfold spec_l2At.f spec_l2At.m atL
  rw [w64_id (x := r * w) (by omega), w64_id (by omega), chk_int (by omega)]; rfl
/-- A chart whose sides and knots are in order. -/
def okC (w h : Int) (l : List Int) : Prop := (1 ≤ w ∧ w ≤ 8) ∧ (1 ≤ h ∧ h ≤ 8) ∧ (l.length : Int) = w * h
def turnL (w h : Int) (l : List Int) : List Int := gridL h.toNat w.toNat fun r c => atL w l (h - 1 - c) r
def mirrL (w h : Int) (l : List Int) : List Int := gridL w.toNat h.toNat fun r c => atL w l r (w - 1 - c)
theorem turnL_len {w h : Int} {l : List Int} (ok : okC w h l) : ((turnL w h l).length : Int) = h * w := by
  unfold turnL; rw [gridL_len]; obtain ⟨a, b, _⟩ := ok
  rw [Int.natCast_mul, Int.toNat_of_nonneg (by omega), Int.toNat_of_nonneg (by omega)]
theorem mirrL_len {w h : Int} {l : List Int} (ok : okC w h l) : ((mirrL w h l).length : Int) = w * h := by
  unfold mirrL; rw [gridL_len]; obtain ⟨a, b, _⟩ := ok
  rw [Int.natCast_mul, Int.toNat_of_nonneg (by omega), Int.toNat_of_nonneg (by omega)]
theorem turn_ok {w h : Int} {l : List Int} (ok : okC w h l) : okC h w (turnL w h l) := ⟨ok.2.1, ok.1, turnL_len ok⟩
theorem mirr_ok {w h : Int} {l : List Int} (ok : okC w h l) : okC w h (mirrL w h l) := ⟨ok.1, ok.2.1, mirrL_len ok⟩
theorem rounds_bd {w h : Int} (hw : 1 ≤ w ∧ w ≤ 8) (hh : 1 ≤ h ∧ h ≤ 8) : (h.toNat + 1) * (w.toNat + 2) ≤ 90 := by
  have h1 : h.toNat + 1 ≤ 9 := by omega
  have h2 : w.toNat + 2 ≤ 10 := by omega
  exact Nat.mul_le_mul h1 h2
theorem implTurn_eq {w h : Int} {l : List Int} (ok : okC w h l) (k : Nat) (hk : 90 ≤ k) : impl_Chart_turned.f k w h l = some (h, w, turnL w h l) := by
  obtain ⟨hw, hh, hl⟩ := ok
  have := grid_loop (fun k row acc => impl_makeChart__impl_Chart_turned_1.l4 k h w h l 0 0 [] h w acc w row) (fun k row col acc => impl_makeChart__impl_Chart_turned_1.l10 k h w h l 0 0 [] h w acc row w row h col) (fun acc => some (h, w, acc)) h.toNat w.toNat (by omega) (by omega)
    (fun k row col => impl_Chart_turned_1.f k row col w h l) (fun r c => atL w l (h - 1 - c) r)
    (fun k row acc => by simp only [impl_makeChart__impl_Chart_turned_1.l4, impl_makeChart__impl_Chart_turned_1.b4]; rw [Int.toNat_of_nonneg (by omega)]) (fun k row col acc => by simp only [impl_makeChart__impl_Chart_turned_1.l10, impl_makeChart__impl_Chart_turned_1.b10]; rw [Int.toNat_of_nonneg (by omega)])
    (fun k r c hr hc => by simp only [impl_Chart_turned_1.f, impl_Chart_turned_1.m]; rw [w64_id (x := h - 1) (by omega), w64_id (by omega), iatC k w h l _ _ hw hh hl (by omega) (by omega)]; rfl) k (Nat.le_trans (rounds_bd hh hw) hk)
  unfold impl_Chart_turned.f impl_Chart_turned.m impl_makeChart__impl_Chart_turned_1.f impl_makeChart__impl_Chart_turned_1.m
  show (impl_makeChart__impl_Chart_turned_1.l4 k h w h l 0 0 [] h w [] w 0).bind _ = _
  rw [this]; rfl
theorem specMirr_eq {w h : Int} {l : List Int} (ok : okC w h l) (k : Nat) (hk : 90 ≤ k) : spec_l4Mirror.f k w h l = some (w, h, mirrL w h l) := by
  obtain ⟨hw, hh, hl⟩ := ok
  have := grid_loop (fun k row acc => spec_l4Mirror.l4 k w h l 0 0 [] w h acc row) (fun k row col acc => spec_l4Mirror.l9 k w h l 0 0 [] w h acc row col) (fun acc => some (w, h, acc)) w.toNat h.toNat (by omega) (by omega)
    (fun k row col => spec_l2At.f k w h l row (w64 (w64 (w - 1) - col))) (fun r c => atL w l r (w - 1 - c))
    (fun k row acc => by simp only [spec_l4Mirror.l4, spec_l4Mirror.b4]; rw [Int.toNat_of_nonneg (by omega)]) (fun k row col acc => by simp only [spec_l4Mirror.l9, spec_l4Mirror.b9]; rw [Int.toNat_of_nonneg (by omega)])
    (fun k r c hr hc => by rw [w64_id (x := w - 1) (by omega), w64_id (by omega)]; exact satC k w h l _ _ hw hh hl (by omega) (by omega)) k (Nat.le_trans (rounds_bd hw hh) hk)
  exact this
theorem implMirr_eq {w h : Int} {l : List Int} (ok : okC w h l) (k : Nat) (hk : 90 ≤ k) : impl_Chart_mirrored.f k w h l = some (w, h, mirrL w h l) := by
  obtain ⟨hw, hh, hl⟩ := ok
  have := grid_loop (fun k row acc => impl_makeChart__impl_Chart_mirrored_1.l4 k w w h l 0 0 [] w h acc h row) (fun k row col acc => impl_makeChart__impl_Chart_mirrored_1.l10 k w w h l 0 0 [] w h acc row h row w col) (fun acc => some (w, h, acc)) w.toNat h.toNat (by omega) (by omega)
    (fun k row col => impl_Chart_mirrored_1.f k row col w h l) (fun r c => atL w l r (w - 1 - c))
    (fun k row acc => by simp only [impl_makeChart__impl_Chart_mirrored_1.l4, impl_makeChart__impl_Chart_mirrored_1.b4]; rw [Int.toNat_of_nonneg (by omega)]) (fun k row col acc => by simp only [impl_makeChart__impl_Chart_mirrored_1.l10, impl_makeChart__impl_Chart_mirrored_1.b10]; rw [Int.toNat_of_nonneg (by omega)])
    (fun k r c hr hc => by simp only [impl_Chart_mirrored_1.f, impl_Chart_mirrored_1.m]; rw [w64_id (x := w - 1) (by omega), w64_id (by omega), iatC k w h l _ _ hw hh hl (by omega) (by omega)]; rfl) k (Nat.le_trans (rounds_bd hw hh) hk)
  unfold impl_Chart_mirrored.f impl_Chart_mirrored.m impl_makeChart__impl_Chart_mirrored_1.f impl_makeChart__impl_Chart_mirrored_1.m
  show (impl_makeChart__impl_Chart_mirrored_1.l4 k w w h l 0 0 [] w h [] h 0).bind _ = _
  rw [this]; rfl
theorem good_ok {w h : Int} {l : List Int} (hg : goodB w h l = true) : okC w h l := ⟨(good_of hg).1, (good_of hg).2.1, (good_of hg).2.2.1⟩
theorem okC_len {w h : Int} {l : List Int} (ok : okC w h l) : l.length ≤ 64 := by have := mul_bd ok.1 ok.2.1; have := ok.2.2; omega
def turns : Nat → Int → Int → List Int → Int × Int × List Int
  | 0, w, h, l => (w, h, l)
  | n + 1, w, h, l => turns n h w (turnL w h l)
def moveR (w h : Int) (l : List Int) (s : Int) : Int × Int × List Int := if 4 ≤ s then turns (s % 4).toNat w h (mirrL w h l) else turns (s % 4).toNat w h l
theorem turns_ok (n : Nat) : ∀ {w h : Int} {l : List Int}, okC w h l → okC (turns n w h l).1 (turns n w h l).2.1 (turns n w h l).2.2 := by
  induction n with
  | zero => intro w h l ok; exact ok
  | succ n ih => intro w h l ok; exact ih (turn_ok ok)
theorem move_ok {w h : Int} {l : List Int} (s : Int) (ok : okC w h l) : okC (moveR w h l s).1 (moveR w h l s).2.1 (moveR w h l s).2.2 := by
  unfold moveR; split
  · exact turns_ok _ (mirr_ok ok)
  · exact turns_ok _ ok
theorem rem4 {s : Int} (hs : 0 ≤ s) : rem s 4 = some (s % 4) := by unfold rem; rw [if_neg (by omega), Int.tmod_eq_emod_of_nonneg hs]
theorem implMove_l (s : Int) : ∀ (d k i : Nat) (w h : Int) (l : List Int), okC w h l → (i : Int) + d = s % 4 → 90 + d < k → impl_Chart_moved.l6 k 0 0 [] w h l (s % 4) i = some (turns d w h l) := by
  intro d
  induction d with
  | zero => intro k i w h l ok h1 h2; obtain ⟨k, rfl⟩ := succ_of (show 0 < k by omega); simp only [impl_Chart_moved.l6, impl_Chart_moved.b6]; rw [if_neg (by omega)]; rfl
  | succ d ih =>
    intro k i w h l ok h1 h2
    obtain ⟨k, rfl⟩ := succ_of (show 0 < k by omega)
    simp only [impl_Chart_moved.l6, impl_Chart_moved.b6]; rw [if_pos (by omega), implTurn_eq ok k (by omega)]
    simp only [Option.bind_some]
    rw [w64_id (by omega), show ((i : Int) + 1) = ((i + 1 : Nat) : Int) by omega]
    exact ih k (i + 1) h w _ (turn_ok ok) (by omega) (by omega)
theorem implMove_eq {w h : Int} {l : List Int} {s : Int} (ok : okC w h l) (hs : 0 ≤ s) (k : Nat) (hk : 100 ≤ k) : impl_Chart_moved.f k w h l s = some (moveR w h l s) := by
  have hl := okC_len ok
  obtain ⟨k, rfl⟩ := succ_of (show 0 < k by omega)
  have h4 : ((s % 4).toNat : Int) = s % 4 := Int.toNat_of_nonneg (by omega)
  unfold impl_Chart_moved.f impl_Chart_moved.m moveR
  rw [copied_eq _ w h l (by omega)]
  simp only [Option.bind_some]
  by_cases e : 4 ≤ s
  · rw [if_pos e, if_pos e, implMirr_eq ok _ (by omega)]; simp only [Option.bind_some, impl_Chart_moved.l2, impl_Chart_moved.b2]; rw [rem4 hs]
    exact implMove_l s (s % 4).toNat k 0 w h _ (mirr_ok ok) (by omega) (by omega)
  · rw [if_neg e, if_neg e]; simp only [impl_Chart_moved.l2, impl_Chart_moved.b2]; rw [rem4 hs]
    exact implMove_l s (s % 4).toNat k 0 w h _ ok (by omega) (by omega)
theorem specAt_eq (k : Nat) (w h : Int) (l : List Int) (r c : Int) (n : Nat) (hn : r * w + c = n) (hl : n < l.length) (hb : 0 ≤ r * w ∧ r * w ≤ 1000 ∧ 0 ≤ c ∧ c ≤ 1000) : spec_l2At.f k w h l r c = some (l.getD n 0) := by
  unfold spec_l2At.f spec_l2At.m
  generalize r * w = q at *
  simp (disch := omega) only [w64_id, hn, chk_nat, Option.bind_some]
theorem implAt_eq (k : Nat) (w h : Int) (l : List Int) (r c : Int) (n : Nat) (hn : r * w + c = n) (hl : n < l.length) (hb : 0 ≤ r * w ∧ r * w ≤ 1000 ∧ 0 ≤ c ∧ c ≤ 1000) : impl_Chart_at.f k w h l r c = some (l.getD n 0) := by
  unfold impl_Chart_at.f impl_Chart_at.m
  generalize r * w = q at *
  simp (disch := omega) only [w64_id, hn, chk_nat, Option.bind_some]
def splice (l : List Int) (b : Nat) (ys : List Int) : List Int := l.take b ++ (ys ++ l.drop (b + ys.length))
theorem splice_len {l : List Int} {b : Nat} {ys : List Int} (h : b + ys.length ≤ l.length) : (splice l b ys).length = l.length := by unfold splice; simp; omega
theorem splice_nil (l : List Int) (b : Nat) : splice l b [] = l := by unfold splice; simp
theorem splice_set {l : List Int} {b j : Nat} {ys : List Int} (hj : j < ys.length) (h : b + ys.length ≤ l.length) : (splice l b (ys.take j)).set (b + j) ys[j] = splice l b (ys.take (j + 1)) := by
  unfold splice
  have hl : (ys.take j).length = j := by rw [List.length_take]; omega
  have hl1 : (ys.take (j + 1)).length = j + 1 := by rw [List.length_take]; omega
  rw [hl, hl1, List.drop_eq_getElem_cons (show b + j < l.length by omega), ← List.append_assoc]
  have hb : b + j = (l.take b ++ ys.take j).length := by rw [List.length_append, hl, List.length_take]; omega
  have hs := set_mid (l.take b ++ ys.take j) (l[b + j]'(by omega)) ys[j] (l.drop (b + j + 1))
  rw [← hb] at hs
  rw [hs, List.take_succ_eq_append_getElem hj]
  simp only [List.append_assoc, List.cons_append, List.nil_append, Nat.add_assoc]
theorem lay_splice {l : List Int} {b : Nat} {ys : List Int} (h : b + ys.length ≤ l.length) : lay l b (l.length - b) ys = splice l b ys := by
  unfold lay splice
  rw [List.take_of_length_le (l := ys) (by omega), Nat.min_eq_left (by omega)]
/-- A chart after so many rows of a part. -/
def putR (w R C W : Nat) (p : List Int) : Nat → Nat → List Int → List Int
  | 0, _, l => l
  | d + 1, r, l => putR w R C W p d (r + 1) (splice l ((R + r) * w + C) ((p.drop (r * W)).take W))
theorem putR_len (w h R C W H : Nat) (p : List Int) (hp : p.length = W * H) (hC : C + W ≤ w) : ∀ (d r : Nat) (l : List Int), r + d = H → R + H ≤ h → l.length = w * h → (putR w R C W p d r l).length = w * h := by
  intro d
  induction d with
  | zero => intro r l _ _ h; exact h
  | succ d ih =>
    intro r l h1 h2 h3
    unfold putR
    refine ih (r + 1) _ (by omega) h2 ?_
    rw [splice_len ?_, h3]
    have : (R + r) * w + w ≤ h * w := by rw [← Nat.succ_mul]; exact Nat.mul_le_mul_right _ (by omega)
    have h4 : ((p.drop (r * W)).take W).length ≤ W := by rw [List.length_take]; omega
    rw [h3, Nat.mul_comm w h]; omega
theorem row_len {p : List Int} {W H r : Nat} (hp : p.length = W * H) (hr : r < H) : ((p.drop (r * W)).take W).length = W := by
  have : r * W + W ≤ H * W := by rw [← Nat.succ_mul]; exact Nat.mul_le_mul_right _ hr
  rw [List.length_take, List.length_drop, hp, Nat.mul_comm W H]; omega
theorem specPut_l9 {w h R C W H : Nat} {l0 p : List Int} (hw : w ≤ 8) (hh : h ≤ 8) (hp : p.length = W * H) (hC : C + W ≤ w) (hR : R + H ≤ h) (r : Nat) (hr : r < H) (l : List Int) (h3 : l.length = w * h) : ∀ (d k j : Nat), j + d = W → d + 2 < k → spec_l2Put.l9 k (R : Int) (C : Int) (w : Int) (h : Int) l0 (W : Int) (H : Int) p 0 0 [] (w : Int) (h : Int) (splice l ((R + r) * w + C) (((p.drop (r * W)).take W).take j)) (r : Int) (j : Int) = spec_l2Put.l4 (k - d - 1) (R : Int) (C : Int) (w : Int) (h : Int) l0 (W : Int) (H : Int) p 0 0 [] (w : Int) (h : Int) (splice l ((R + r) * w + C) ((p.drop (r * W)).take W)) ((r + 1 : Nat) : Int) := by
  have hrow := row_len hp hr
  have b1 : (R + r) * w + w ≤ h * w := by rw [← Nat.succ_mul]; exact Nat.mul_le_mul_right _ (by omega)
  have b2 : h * w ≤ 64 := Nat.le_trans (Nat.mul_le_mul hh hw) (by omega)
  have b3 : r * W + W ≤ H * W := by rw [← Nat.succ_mul]; exact Nat.mul_le_mul_right _ (by omega)
  have b4 : H * W ≤ 64 := Nat.le_trans (Nat.mul_le_mul (show H ≤ 8 by omega) (show W ≤ 8 by omega)) (by omega)
  have e1 : ((R : Int) + (r : Int)) * (w : Int) = (((R + r) * w : Nat) : Int) := by rw [nat_mul_cast, Int.natCast_add]
  have hlen : l.length = h * w := by rw [h3, Nat.mul_comm]
  have hplen : p.length = H * W := by rw [hp, Nat.mul_comm]
  intro d
  induction d with
  | zero =>
    intro k j h1 h2
    obtain ⟨k, rfl⟩ := succ_of (show 0 < k by omega)
    simp (disch := omega) only [spec_l2Put.l9, spec_l2Put.b9, if_neg, w64_id]
    rw [List.take_of_length_le (l := (p.drop (r * W)).take W) (by omega), show ((r + 1 : Nat) : Int) = (r : Int) + 1 by omega]; rfl
  | succ d ih =>
    intro k j h1 h2
    obtain ⟨k, rfl⟩ := succ_of (show 0 < k by omega)
    have h4 := ih k (j + 1) (by omega) (by omega)
    have hat := specAt_eq k (W : Int) (H : Int) p (r : Int) (j : Int) (r * W + j) (by rw [← nat_mul_cast]; omega) (by omega) (by rw [← nat_mul_cast]; omega)
    have hg : p.getD (r * W + j) 0 = ((p.drop (r * W)).take W)[j]'(by omega) := by
      rw [getD_lt (by omega), List.getElem_take, List.getElem_drop]
    have hset := splice_set (l := l) (b := (R + r) * w + C) (ys := (p.drop (r * W)).take W) (j := j) (by omega) (by rw [hrow]; omega)
    have hsl : (splice l ((R + r) * w + C) (((p.drop (r * W)).take W).take j)).length = l.length := splice_len (by rw [List.length_take, hrow]; omega)
    rw [show k + 1 - (d + 1) - 1 = k - d - 1 by omega, ← h4, ← hset, show ((j + 1 : Nat) : Int) = (j : Int) + 1 by omega]
    simp only [spec_l2Put.l9, spec_l2Put.b9]
    rw [if_pos (by omega), hat]
    simp (disch := omega) only [Option.bind_some, w64_id, e1, hg]
    generalize (R + r) * w = bb at *
    rw [show ((bb : Int) + (C : Int) + (j : Int)) = ((bb + C + j : Nat) : Int) by omega, chk_nat (by omega)]
    rfl
theorem specPut_l {w h R C W H : Nat} {l0 p : List Int} (hw : w ≤ 8) (hh : h ≤ 8) (hp : p.length = W * H) (hC : C + W ≤ w) (hR : R + H ≤ h) (hW : 1 ≤ W) : ∀ (d k r : Nat) (l : List Int), r + d = H → d * (W + 2) + 5 < k → l.length = w * h → spec_l2Put.l4 k (R : Int) (C : Int) (w : Int) (h : Int) l0 (W : Int) (H : Int) p 0 0 [] (w : Int) (h : Int) l (r : Int) = some ((w : Int), (h : Int), putR w R C W p d r l) := by
  intro d
  induction d with
  | zero =>
    intro k r l h1 h2 h3
    obtain ⟨k, rfl⟩ := succ_of (show 0 < k by omega)
    simp (disch := omega) only [spec_l2Put.l4, spec_l2Put.b4, if_neg, putR]
  | succ d ih =>
    intro k r l h1 h2 h3
    obtain ⟨k, rfl⟩ := succ_of (show 0 < k by omega)
    have hrow := row_len hp (show r < H by omega)
    have b1 : (R + r) * w + w ≤ h * w := by rw [← Nat.succ_mul]; exact Nat.mul_le_mul_right _ (by omega)
    have hlen : l.length = h * w := by rw [h3, Nat.mul_comm]
    rw [Nat.succ_mul] at h2
    have h5 := specPut_l9 (l0 := l0) hw hh hp hC hR r (by omega) l h3 W k 0 (by omega) (by omega)
    rw [List.take_zero, splice_nil, show ((0 : Nat) : Int) = 0 from rfl] at h5
    simp (disch := omega) only [spec_l2Put.l4, spec_l2Put.b4, if_pos]
    rw [h5]
    exact ih _ (r + 1) _ (by omega) (by omega) (by rw [splice_len (by rw [hrow]; omega)]; exact h3)
def fitsB (w h : Int) (R C H W : Int) : Bool := inB R 0 (h - 1) && inB C 0 (w - 1) && inB H 1 (h - R) && inB W 1 (w - C)
def putOut (w h : Int) (l : List Int) (W H : Int) (p : List Int) (R C : Int) : Int × Int × List Int × Bool :=
  if goodB w h l = true ∧ goodB W H p = true ∧ fitsB w h R C H W = true then (w, h, putR w.toNat R.toNat C.toNat W.toNat p H.toNat 0 l, true) else (0, 0, [], false)
theorem fits_of {w h R C H W : Int} (hf : fitsB w h R C H W = true) : (0 ≤ R ∧ 0 ≤ C) ∧ (1 ≤ H ∧ R + H ≤ h) ∧ (1 ≤ W ∧ C + W ≤ w) := by
  unfold fitsB at hf
  simp only [Bool.and_eq_true, inB_iff] at hf
  omega
theorem atL_grid {w h : Nat} (f : Nat → Nat → Int) {r c : Int} (hr : 0 ≤ r ∧ r < h) (hc : 0 ≤ c ∧ c < w) : atL w (gridL w h f) r c = f r.toNat c.toNat := by
  obtain ⟨r, rfl⟩ := Int.eq_ofNat_of_zero_le hr.1
  obtain ⟨c, rfl⟩ := Int.eq_ofNat_of_zero_le hc.1
  unfold atL
  rw [← Int.natCast_mul, ← Int.natCast_add, Int.toNat_natCast, Int.toNat_natCast, Int.toNat_natCast, List.getD_eq_getElem?_getD, gridL_get w h f r c (by omega) (by omega)]; rfl
theorem gridL_self {w h : Nat} {l : List Int} (hl : l.length = w * h) (hw : 0 < w) : gridL w h (fun r c => atL w l r c) = l := by
  apply List.ext_getElem?
  intro i
  by_cases hi : i < w * h
  · have h1 : i / w < h := Nat.div_lt_of_lt_mul hi
    have h2 : i % w < w := Nat.mod_lt _ hw
    have h3 : i / w * w + i % w = i := by rw [Nat.mul_comm]; exact Nat.div_add_mod i w
    have := gridL_get w h (fun r c => atL w l r c) _ _ h1 h2
    rw [h3] at this; rw [this]
    unfold atL
    rw [← Int.natCast_mul, ← Int.natCast_add, Int.toNat_natCast, h3, getD_lt (by omega), List.getElem?_eq_getElem]
  · rw [List.getElem?_eq_none (by rw [gridL_len]; omega), List.getElem?_eq_none (by omega)]
def tT (c : Int × Int × List Int) : Int × Int × List Int := (c.2.1, c.1, turnL c.1 c.2.1 c.2.2)
def tM (c : Int × Int × List Int) : Int × Int × List Int := (c.1, c.2.1, mirrL c.1 c.2.1 c.2.2)
def okT (c : Int × Int × List Int) : Prop := okC c.1 c.2.1 c.2.2
theorem tT_ok {c : Int × Int × List Int} (ok : okT c) : okT (tT c) := turn_ok ok
theorem tM_ok {c : Int × Int × List Int} (ok : okT c) : okT (tM c) := mirr_ok ok
theorem turnN {w h : Nat} {l : List Int} : turnL w h l = gridL h w fun r c => atL w l (h - 1 - c) r := rfl
theorem mirrN {w h : Nat} {l : List Int} : mirrL w h l = gridL w h fun r c => atL w l r (w - 1 - c) := rfl
theorem okT_nat {c : Int × Int × List Int} (ok : okT c) : ∃ (w h : Nat) (l : List Int), c = ((w : Int), (h : Int), l) ∧ 0 < w ∧ 0 < h ∧ l.length = w * h := by
  obtain ⟨w, h, l⟩ := c
  obtain ⟨hw, hh, hl⟩ := ok
  dsimp only at hw hh hl
  obtain ⟨w, rfl⟩ := Int.eq_ofNat_of_zero_le (show 0 ≤ w by omega)
  obtain ⟨h, rfl⟩ := Int.eq_ofNat_of_zero_le (show 0 ≤ h by omega)
  exact ⟨w, h, l, rfl, by omega, by omega, lenN hl⟩
theorem tM_M {c : Int × Int × List Int} (ok : okT c) : tM (tM c) = c := by
  obtain ⟨w, h, l, rfl, hw, hh, hl⟩ := okT_nat ok
  unfold tM; dsimp only
  rw [mirrN, mirrN]
  refine congrArg (fun x => ((w : Int), (h : Int), x)) ?_
  refine Eq.trans (gridL_congr w h _ _ fun r c hr hc => ?_) (gridL_self hl hw)
  rw [atL_grid _ (by omega) (by omega)]
  congr 1 <;> omega
theorem tT_MT {c : Int × Int × List Int} (ok : okT c) : tT (tM (tT c)) = tM c := by
  obtain ⟨w, h, l, rfl, hw, hh, hl⟩ := okT_nat ok
  unfold tM tT; dsimp only
  rw [mirrN, turnN, turnN, mirrN]
  refine congrArg (fun x => ((w : Int), (h : Int), x)) ?_
  refine gridL_congr w h _ _ fun r c hr hc => ?_
  rw [atL_grid _ (by omega) (by omega), atL_grid _ (by omega) (by omega)]
  congr 1 <;> omega
theorem tT_4 {c : Int × Int × List Int} (ok : okT c) : tT (tT (tT (tT c))) = c := by
  obtain ⟨w, h, l, rfl, hw, hh, hl⟩ := okT_nat ok
  unfold tT; dsimp only
  rw [turnN, turnN, turnN, turnN]
  refine congrArg (fun x => ((w : Int), (h : Int), x)) ?_
  refine Eq.trans (gridL_congr w h _ _ fun r c hr hc => ?_) (gridL_self hl hw)
  rw [atL_grid _ (by omega) (by omega), atL_grid _ (by omega) (by omega), atL_grid _ (by omega) (by omega)]
  congr 1 <;> omega
theorem tM_T {c : Int × Int × List Int} (ok : okT c) : tM (tT c) = tT (tT (tT (tM c))) := by
  have h := tT_MT ok
  rw [← h, tT_4 (tM_ok (tT_ok ok))]
def mv (c : Int × Int × List Int) (s : Int) : Int × Int × List Int := moveR c.1 c.2.1 c.2.2 s
theorem mv_ok {c : Int × Int × List Int} (s : Int) (ok : okT c) : okT (mv c s) := move_ok s ok
def aft (a b : Int) : Int :=
  let t := if 4 ≤ b then b % 4 - a % 4 + 4 else a % 4 + b % 4
  if (decide (4 ≤ a)) = (decide (4 ≤ b)) then t % 4 else t % 4 + 4
def und (a : Int) : Int := if a < 4 then (4 - a) % 4 else a
theorem sym_case {s : Int} (h : 0 ≤ s ∧ s ≤ 7) : s = 0 ∨ s = 1 ∨ s = 2 ∨ s = 3 ∨ s = 4 ∨ s = 5 ∨ s = 6 ∨ s = 7 := by omega
theorem mv0 (c : Int × Int × List Int) : mv c 0 = c := rfl
theorem mv1 (c : Int × Int × List Int) : mv c 1 = tT c := rfl
theorem mv2 (c : Int × Int × List Int) : mv c 2 = tT (tT c) := rfl
theorem mv3 (c : Int × Int × List Int) : mv c 3 = tT (tT (tT c)) := rfl
theorem mv4 (c : Int × Int × List Int) : mv c 4 = tM c := rfl
theorem mv5 (c : Int × Int × List Int) : mv c 5 = tT (tM c) := rfl
theorem mv6 (c : Int × Int × List Int) : mv c 6 = tT (tT (tM c)) := rfl
theorem mv7 (c : Int × Int × List Int) : mv c 7 = tT (tT (tT (tM c))) := rfl
theorem mv_mv {c : Int × Int × List Int} (ok : okT c) {a b : Int} (ha : 0 ≤ a ∧ a ≤ 7) (hb : 0 ≤ b ∧ b ≤ 7) : mv (mv c a) b = mv c (aft a b) := by
  have o1 := tT_ok ok
  have o2 := tT_ok o1
  have o3 := tT_ok o2
  have m0 := tM_ok ok
  have m1 := tT_ok m0
  have m2 := tT_ok m1
  have m3 := tT_ok m2
  rcases sym_case ha with rfl | rfl | rfl | rfl | rfl | rfl | rfl | rfl <;> rcases sym_case hb with rfl | rfl | rfl | rfl | rfl | rfl | rfl | rfl <;>
    simp only [show aft 0 0 = 0 from by decide, aft, Int.reduceLE, decide_true, decide_false, Int.reduceMod, Int.reduceAdd, Int.reduceSub, if_true, if_false, reduceCtorEq, Bool.false_eq_true, Bool.true_eq_false, mv0, mv1, mv2, mv3, mv4, mv5, mv6, mv7, tT_4 ok, tT_4 m0, tT_4 o1, tT_4 m1, tT_4 o2, tT_4 m2, tM_T ok, tM_T o1, tM_T o2, tM_T m0, tM_T m1, tM_T m2, tM_M ok]
theorem aft_in {a b : Int} (ha : 0 ≤ a ∧ a ≤ 7) (hb : 0 ≤ b ∧ b ≤ 7) : 0 ≤ aft a b ∧ aft a b ≤ 7 := by
  unfold aft; dsimp only
  split <;> split <;> omega
theorem und_in {a : Int} (ha : 0 ≤ a ∧ a ≤ 7) : 0 ≤ und a ∧ und a ≤ 7 := by unfold und; split <;> omega
theorem aft_und {a : Int} (ha : 0 ≤ a ∧ a ≤ 7) : aft a (und a) = 0 := by
  rcases sym_case ha with rfl | rfl | rfl | rfl | rfl | rfl | rfl | rfl <;> decide
theorem mv_und {c : Int × Int × List Int} (ok : okT c) {a : Int} (ha : 0 ≤ a ∧ a ≤ 7) : mv (mv c a) (und a) = c := by rw [mv_mv ok ha (und_in ha), aft_und ha, mv0]
def partR (w R C W : Nat) (l : List Int) : Nat → Nat → List Int
  | 0, _ => []
  | d + 1, r => (l.drop ((R + r) * w + C)).take W ++ partR w R C W l d (r + 1)
theorem rowL {w h R C W H r : Nat} {l : List Int} (hl : l.length = w * h) (hC : C + W ≤ w) (hR : R + H ≤ h) (hr : r < H) : (R + r) * w + C + W ≤ l.length ∧ ((l.drop ((R + r) * w + C)).take W).length = W := by
  have b1 : (R + r) * w + w ≤ h * w := by rw [← Nat.succ_mul]; exact Nat.mul_le_mul_right _ (by omega)
  rw [Nat.mul_comm h w] at b1
  refine ⟨by omega, ?_⟩
  rw [List.length_take, List.length_drop]; omega
theorem partR_len {w h R C W H : Nat} {l : List Int} (hl : l.length = w * h) (hC : C + W ≤ w) (hR : R + H ≤ h) : ∀ (d r : Nat), r + d ≤ H → (partR w R C W l d r).length = d * W := by
  intro d
  induction d with
  | zero => intro r _; simp [partR]
  | succ d ih =>
    intro r h1
    unfold partR
    rw [List.length_append, (rowL hl hC hR (show r < H by omega)).2, ih (r + 1) (by omega), Nat.succ_mul]; omega
theorem partR_row {w h R C W H : Nat} {l : List Int} (hl : l.length = w * h) (hC : C + W ≤ w) (hR : R + H ≤ h) : ∀ (d s q : Nat), s + d ≤ H → q < d → ((partR w R C W l d s).drop (q * W)).take W = (l.drop ((R + (s + q)) * w + C)).take W := by
  intro d
  induction d with
  | zero => intro s q _ h; omega
  | succ d ih =>
    intro s q h1 h2
    have hrow := (rowL hl hC hR (show s < H by omega)).2
    unfold partR
    cases q with
    | zero =>
      rw [Nat.zero_mul, List.drop_zero]
      rw [List.take_append_of_le_length (by omega), List.take_of_length_le (by omega)]
      rfl
    | succ q =>
      rw [Nat.succ_mul, List.drop_append, List.drop_of_length_le (by rw [hrow]; omega), List.nil_append, hrow, show q * W + W - W = q * W by omega, ih (s + 1) q (by omega) (by omega), show s + 1 + q = s + (q + 1) by omega]
theorem partR_mem {w R C W : Nat} {l : List Int} : ∀ (d r : Nat) (x : Int), x ∈ partR w R C W l d r → x ∈ l := by
  intro d
  induction d with
  | zero => intro r x h; simp [partR] at h
  | succ d ih =>
    intro r x h
    unfold partR at h
    rcases List.mem_append.1 h with h | h
    · exact List.mem_of_mem_drop (List.mem_of_mem_take h)
    · exact ih _ x h
theorem splice_same {l : List Int} {b W : Nat} (h : b + W ≤ l.length) : splice l b ((l.drop b).take W) = l := by
  unfold splice
  have : ((l.drop b).take W).length = W := by rw [List.length_take, List.length_drop]; omega
  rw [this, ← List.drop_drop, List.take_append_drop, List.take_append_drop]
theorem put_part {w h R C W H : Nat} {l p : List Int} (hl : l.length = w * h) (hC : C + W ≤ w) (hR : R + H ≤ h) (hp : ∀ r, r < H → (p.drop (r * W)).take W = (l.drop ((R + r) * w + C)).take W) : ∀ (d r : Nat), r + d ≤ H → putR w R C W p d r l = l := by
  intro d
  induction d with
  | zero => intro r _; rfl
  | succ d ih =>
    intro r h1
    unfold putR
    rw [hp r (by omega), splice_same (rowL hl hC hR (show r < H by omega)).1]
    exact ih (r + 1) (by omega)
theorem splice_mem {l ys : List Int} {b : Nat} {x : Int} (h : x ∈ splice l b ys) : x ∈ l ∨ x ∈ ys := by
  unfold splice at h
  rcases List.mem_append.1 h with h | h
  · exact .inl (List.mem_of_mem_take h)
  · rcases List.mem_append.1 h with h | h
    · exact .inr h
    · exact .inl (List.mem_of_mem_drop h)
theorem putR_mem {w R C W : Nat} {p : List Int} : ∀ (d r : Nat) (l : List Int) (x : Int), x ∈ putR w R C W p d r l → x ∈ l ∨ x ∈ p := by
  intro d
  induction d with
  | zero => intro r l x h; exact .inl h
  | succ d ih =>
    intro r l x h
    unfold putR at h
    rcases ih _ _ x h with h | h
    · rcases splice_mem h with h | h
      · exact .inl h
      · exact .inr (List.mem_of_mem_drop (List.mem_of_mem_take h))
    · exact .inr h
theorem splice_read {l ys : List Int} {b : Nat} (h : b + ys.length ≤ l.length) : ((splice l b ys).drop b).take ys.length = ys := by
  unfold splice
  have hb : (l.take b).length = b := by rw [List.length_take]; omega
  rw [List.drop_append, List.drop_of_length_le (by omega), List.nil_append, hb, Nat.sub_self, List.drop_zero, List.take_append_of_le_length (Nat.le_refl _), List.take_of_length_le (Nat.le_refl _)]
theorem splice_read_lt {l ys : List Int} {b a W : Nat} (h : a + W ≤ b) (hb : b ≤ l.length) : ((splice l b ys).drop a).take W = (l.drop a).take W := by
  unfold splice
  have hb' : (l.take b).length = b := by rw [List.length_take]; omega
  rw [List.drop_append_of_le_length (by omega), List.take_append_of_le_length (by rw [List.length_drop]; omega), List.drop_take, List.take_take, Nat.min_eq_left (by omega)]
theorem put_read {w h R C W H : Nat} {p : List Int} (hp : p.length = W * H) (hC : C + W ≤ w) (hR : R + H ≤ h) : ∀ (d r : Nat) (l : List Int), r + d ≤ H → l.length = w * h → (∀ q, q < r → ((putR w R C W p d r l).drop ((R + q) * w + C)).take W = (l.drop ((R + q) * w + C)).take W) ∧ (∀ q, r ≤ q → q < r + d → ((putR w R C W p d r l).drop ((R + q) * w + C)).take W = (p.drop (q * W)).take W) := by
  intro d
  induction d with
  | zero => intro r l _ _; exact ⟨fun _ _ => rfl, fun q h1 h2 => by omega⟩
  | succ d ih =>
    intro r l h1 h2
    have hrow := row_len hp (show r < H by omega)
    have hb := (rowL h2 hC hR (show r < H by omega)).1
    have hlen : (splice l ((R + r) * w + C) ((p.drop (r * W)).take W)).length = w * h := by rw [splice_len (by rw [hrow]; omega)]; exact h2
    obtain ⟨i1, i2⟩ := ih (r + 1) _ (by omega) hlen
    have hlt : ∀ q, q < r → (R + q) * w + C + W ≤ (R + r) * w + C := fun q hq => by
      have : (R + q) * w + w ≤ (R + r) * w := by rw [← Nat.succ_mul]; exact Nat.mul_le_mul_right _ (by omega)
      omega
    unfold putR
    refine ⟨fun q hq => ?_, fun q hq1 hq2 => ?_⟩
    · rw [i1 q (by omega), splice_read_lt (hlt q hq) (by omega)]
    · rcases Nat.lt_or_ge r q with h | h
      · exact i2 q (by omega) (by omega)
      · have : q = r := by omega
        subst this
        rw [i1 q (by omega)]
        have := splice_read (l := l) (b := (R + q) * w + C) (ys := (p.drop (q * W)).take W) (by rw [hrow]; omega)
        rw [hrow] at this; exact this
theorem part_of_rows {w R C W H : Nat} {l p : List Int} (hp : p.length = W * H) (hrow : ∀ q, q < H → (l.drop ((R + q) * w + C)).take W = (p.drop (q * W)).take W) : ∀ (d r : Nat), r + d = H → partR w R C W l d r = p.drop (r * W) := by
  intro d
  induction d with
  | zero =>
    intro r h
    have : r = H := by omega
    subst this
    rw [List.drop_of_length_le (by rw [hp, Nat.mul_comm]; omega)]; rfl
  | succ d ih =>
    intro r h
    unfold partR
    rw [hrow r (by omega), ih (r + 1) (by omega), Nat.succ_mul, ← List.drop_drop, List.take_append_drop]
/-! ### The walks -/
theorem take_snoc {l : List Int} {b j : Nat} (h : b + j < l.length) : (l.drop b).take (j + 1) = (l.drop b).take j ++ [l.getD (b + j) 0] := by
  rw [List.take_succ_eq_append_getElem (by rw [List.length_drop]; omega), List.getElem_drop, getD_lt h]
theorem implPart_l {w h R C W H : Nat} {l : List Int} (hw : w ≤ 8) (hh : h ≤ 8) (hl : l.length = w * h) (hC : C + W ≤ w) (hR : R + H ≤ h) (r : Nat) (hr : r < H) (acc : List Int) (hacc : acc.length ≤ 1000) : ∀ (d k j : Nat), j + d = W → d + 2 < k → impl_makeChart__impl_Chart_part_1.l10 k (W : Int) (w : Int) (h : Int) l (R : Int) (C : Int) 0 0 [] (W : Int) (H : Int) (acc ++ (l.drop ((R + r) * w + C)).take j) (r : Int) (H : Int) (r : Int) (W : Int) (j : Int) = impl_makeChart__impl_Chart_part_1.l4 (k - d - 1) (W : Int) (w : Int) (h : Int) l (R : Int) (C : Int) 0 0 [] (W : Int) (H : Int) (acc ++ (l.drop ((R + r) * w + C)).take W) (H : Int) ((r + 1 : Nat) : Int) := by
  have hb := (rowL hl hC hR hr).1
  have b2 : w * h ≤ 64 := Nat.le_trans (Nat.mul_le_mul hw hh) (by omega)
  have e1 : ((R : Int) + (r : Int)) * (w : Int) = (((R + r) * w : Nat) : Int) := by rw [nat_mul_cast, Int.natCast_add]
  intro d
  induction d with
  | zero =>
    intro k j h1 h2
    obtain ⟨k, rfl⟩ := succ_of (show 0 < k by omega)
    have : j = W := by omega
    subst this
    simp (disch := omega) only [impl_makeChart__impl_Chart_part_1.l10, impl_makeChart__impl_Chart_part_1.b10, if_neg, w64_id]
    rw [show ((r + 1 : Nat) : Int) = (r : Int) + 1 by omega]; rfl
  | succ d ih =>
    intro k j h1 h2
    obtain ⟨k, rfl⟩ := succ_of (show 0 < k by omega)
    have h4 := ih k (j + 1) (by omega) (by omega)
    rw [show k + 1 - (d + 1) - 1 = k - d - 1 by omega, ← h4, take_snoc (by omega), ← List.append_assoc]
    simp only [impl_makeChart__impl_Chart_part_1.l10, impl_makeChart__impl_Chart_part_1.b10]
    have hlen : (acc ++ (l.drop ((R + r) * w + C)).take j).length ≤ 1010 := by rw [List.length_append, List.length_take]; omega
    unfold impl_Chart_part_1.f impl_Chart_part_1.m
    rw [if_pos (by omega), w64_id (x := (R : Int) + (r : Int)) (by omega), w64_id (x := (C : Int) + (j : Int)) (by omega), implAt_eq k w h l ((R : Int) + r) ((C : Int) + j) ((R + r) * w + C + j) (by rw [e1]; omega) (by omega) (by rw [e1]; omega)]
    simp only [Option.bind_some]
    rw [app_ok (by simp only [List.length_singleton]; omega), w64_id (by omega), show ((j + 1 : Nat) : Int) = (j : Int) + 1 by omega]
    rfl
theorem implPart_eq {w h R C W H : Nat} {l : List Int} (hw : w ≤ 8) (hh : h ≤ 8) (hl : l.length = w * h) (hC : C + W ≤ w) (hR : R + H ≤ h) : ∀ (d k r : Nat) (acc : List Int), r + d = H → 12 * d + 5 < k → acc.length + 8 * d ≤ 900 → impl_makeChart__impl_Chart_part_1.l4 k (W : Int) (w : Int) (h : Int) l (R : Int) (C : Int) 0 0 [] (W : Int) (H : Int) acc (H : Int) (r : Int) = some ((W : Int), (H : Int), acc ++ partR w R C W l d r) := by
  intro d
  induction d with
  | zero =>
    intro k r acc h1 h2 h3
    obtain ⟨k, rfl⟩ := succ_of (show 0 < k by omega)
    simp (disch := omega) only [impl_makeChart__impl_Chart_part_1.l4, impl_makeChart__impl_Chart_part_1.b4, if_neg, partR, List.append_nil]
  | succ d ih =>
    intro k r acc h1 h2 h3
    obtain ⟨k, rfl⟩ := succ_of (show 0 < k by omega)
    have hrow := (rowL hl hC hR (show r < H by omega)).2
    have h5 := implPart_l hw hh hl hC hR r (by omega) acc (by omega) W k 0 (by omega) (by omega)
    rw [List.take_zero, List.append_nil, show ((0 : Nat) : Int) = 0 from rfl] at h5
    simp (disch := omega) only [impl_makeChart__impl_Chart_part_1.l4, impl_makeChart__impl_Chart_part_1.b4, if_pos]
    rw [h5, ih _ (r + 1) _ (by omega) (by omega) (by rw [List.length_append, hrow]; omega), partR, List.append_assoc]
theorem specPart_l {w h R C W H : Nat} {l : List Int} (hw : w ≤ 8) (hh : h ≤ 8) (hl : l.length = w * h) (hC : C + W ≤ w) (hR : R + H ≤ h) (r : Nat) (hr : r < H) (acc : List Int) (hacc : acc.length ≤ 1000) : ∀ (d k j : Nat), j + d = W → d + 2 < k → spec_l2Part.l9 k (R : Int) (C : Int) (H : Int) (W : Int) (w : Int) (h : Int) l 0 0 [] (W : Int) (H : Int) (acc ++ (l.drop ((R + r) * w + C)).take j) ((R + r : Nat) : Int) ((C + j : Nat) : Int) = spec_l2Part.l4 (k - d - 1) (R : Int) (C : Int) (H : Int) (W : Int) (w : Int) (h : Int) l 0 0 [] (W : Int) (H : Int) (acc ++ (l.drop ((R + r) * w + C)).take W) ((R + (r + 1) : Nat) : Int) := by
  have hb := (rowL hl hC hR hr).1
  have b2 : w * h ≤ 64 := Nat.le_trans (Nat.mul_le_mul hw hh) (by omega)
  have e1 : ((R + r : Nat) : Int) * (w : Int) = (((R + r) * w : Nat) : Int) := by rw [nat_mul_cast]
  intro d
  induction d with
  | zero =>
    intro k j h1 h2
    obtain ⟨k, rfl⟩ := succ_of (show 0 < k by omega)
    have : j = W := by omega
    subst this
    simp (disch := omega) only [spec_l2Part.l9, spec_l2Part.b9, if_neg, w64_id]
    rw [show ((R + (r + 1) : Nat) : Int) = ((R + r : Nat) : Int) + 1 by omega]; rfl
  | succ d ih =>
    intro k j h1 h2
    obtain ⟨k, rfl⟩ := succ_of (show 0 < k by omega)
    have h4 := ih k (j + 1) (by omega) (by omega)
    rw [show k + 1 - (d + 1) - 1 = k - d - 1 by omega, ← h4, take_snoc (by omega), ← List.append_assoc]
    simp only [spec_l2Part.l9, spec_l2Part.b9]
    have hlen : (acc ++ (l.drop ((R + r) * w + C)).take j).length ≤ 1010 := by rw [List.length_append, List.length_take]; omega
    rw [w64_id (x := (C : Int) + (W : Int)) (by omega), if_pos (by omega), specAt_eq k w h l ((R + r : Nat) : Int) ((C + j : Nat) : Int) ((R + r) * w + C + j) (by rw [e1]; omega) (by omega) (by rw [e1]; omega)]
    simp only [Option.bind_some]
    rw [app_ok (by simp only [List.length_singleton]; omega), w64_id (by omega), show ((C + (j + 1) : Nat) : Int) = ((C + j : Nat) : Int) + 1 by omega]
    rfl
theorem specPart_eq {w h R C W H : Nat} {l : List Int} (hw : w ≤ 8) (hh : h ≤ 8) (hl : l.length = w * h) (hC : C + W ≤ w) (hR : R + H ≤ h) : ∀ (d k r : Nat) (acc : List Int), r + d = H → 12 * d + 5 < k → acc.length + 8 * d ≤ 900 → spec_l2Part.l4 k (R : Int) (C : Int) (H : Int) (W : Int) (w : Int) (h : Int) l 0 0 [] (W : Int) (H : Int) acc ((R + r : Nat) : Int) = some ((W : Int), (H : Int), acc ++ partR w R C W l d r) := by
  intro d
  induction d with
  | zero =>
    intro k r acc h1 h2 h3
    obtain ⟨k, rfl⟩ := succ_of (show 0 < k by omega)
    simp (disch := omega) only [spec_l2Part.l4, spec_l2Part.b4, if_neg, partR, List.append_nil, w64_id]
  | succ d ih =>
    intro k r acc h1 h2 h3
    obtain ⟨k, rfl⟩ := succ_of (show 0 < k by omega)
    have hrow := (rowL hl hC hR (show r < H by omega)).2
    have h5 := specPart_l hw hh hl hC hR r (by omega) acc (by omega) W k 0 (by omega) (by omega)
    rw [List.take_zero, List.append_nil, Nat.add_zero] at h5
    simp (disch := omega) only [spec_l2Part.l4, spec_l2Part.b4, if_pos, w64_id]
    rw [h5, ih _ (r + 1) _ (by omega) (by omega) (by rw [List.length_append, hrow]; omega), partR, List.append_assoc]
theorem splice_getD {l ys : List Int} {b : Nat} (h : b + ys.length ≤ l.length) (i : Nat) : (splice l b ys).getD i 0 = if b ≤ i ∧ i < b + ys.length then ys.getD (i - b) 0 else l.getD i 0 := by
  unfold splice
  have hb : (l.take b).length = b := by rw [List.length_take]; omega
  simp only [List.getD_eq_getElem?_getD]
  by_cases h1 : i < b
  · rw [if_neg (by omega), List.getElem?_append_left (by omega), List.getElem?_take_of_lt h1]
  · rw [List.getElem?_append_right (by omega), hb]
    by_cases h2 : i < b + ys.length
    · rw [if_pos (by omega), List.getElem?_append_left (by omega)]
    · rw [if_neg (by omega), List.getElem?_append_right (by omega), List.getElem?_drop]
      congr 2; omega
theorem part_getD {p : List Int} {a W j : Nat} (hj : j < W) : ((p.drop a).take W).getD j 0 = p.getD (a + j) 0 := by
  simp only [List.getD_eq_getElem?_getD]
  rw [List.getElem?_take_of_lt hj, List.getElem?_drop]
/-- What stands at a place after a part is put. -/
theorem putR_at {w h R C W H : Nat} {p : List Int} (hp : p.length = W * H) (hC : C + W ≤ w) (hR : R + H ≤ h) (hW : 0 < W) {r c : Nat} (hr : r < h) (hc : c < w) : ∀ (d s : Nat) (l : List Int), s + d ≤ H → l.length = w * h →
    (putR w R C W p d s l).getD (r * w + c) 0 = if (R + s ≤ r ∧ r < R + s + d) ∧ C ≤ c ∧ c < C + W then p.getD ((r - R) * W + (c - C)) 0 else l.getD (r * w + c) 0 := by
  intro d
  induction d with
  | zero => intro s l _ _; unfold putR; rw [if_neg (by omega)]
  | succ d ih =>
    intro s l hs hl
    unfold putR
    have hrl : ((p.drop (s * W)).take W).length = W := row_len hp (by omega)
    have hlt : (R + s) * w + w ≤ w * h := by rw [← Nat.succ_mul, Nat.mul_comm w h]; exact Nat.mul_le_mul_right _ (by omega)
    have hb : (R + s) * w + C + ((p.drop (s * W)).take W).length ≤ l.length := by rw [hrl, hl]; omega
    rw [ih (s + 1) _ (by omega) (by rw [splice_len hb, hl]), splice_getD hb, hrl]
    by_cases h1 : r = R + s
    · subst h1
      rw [if_neg (by omega)]
      by_cases h2 : C ≤ c ∧ c < C + W
      · rw [if_pos (by omega), if_pos (by omega), part_getD (by omega)]
        congr 1
        rw [Nat.add_sub_cancel_left]; omega
      · rw [if_neg (by omega), if_neg (by omega)]
    · have h3 : ¬ ((R + s) * w + C ≤ r * w + c ∧ r * w + c < (R + s) * w + C + W) := by
        rintro ⟨h3, h4⟩
        by_cases h5 : r < R + s
        · have : (r + 1) * w ≤ (R + s) * w := Nat.mul_le_mul_right _ h5
          rw [Nat.succ_mul] at this; omega
        · have : (R + s + 1) * w ≤ r * w := Nat.mul_le_mul_right _ (by omega)
          rw [Nat.succ_mul] at this; omega
      rw [if_neg h3]
      by_cases h4 : (R + (s + 1) ≤ r ∧ r < R + (s + 1) + d) ∧ C ≤ c ∧ c < C + W
      · rw [if_pos h4, if_pos (by omega)]
      · rw [if_neg h4, if_neg (by omega)]
theorem grid_ext {w h : Nat} {l : List Int} {f : Nat → Nat → Int} (hl : l.length = w * h) (hw : 0 < w) (e : ∀ r c, r < h → c < w → l.getD (r * w + c) 0 = f r c) : l = gridL w h f := by
  rw [← gridL_self hl hw]
  apply gridL_congr
  intro r c hr hc
  rw [← e r c hr hc]
  unfold atL
  rw [← Int.natCast_mul, ← Int.natCast_add, Int.toNat_natCast]
theorem grid_at {w h : Nat} {f : Nat → Nat → Int} {r c : Nat} (hr : r < h) (hc : c < w) : (gridL w h f).getD (r * w + c) 0 = f r c := by
  rw [List.getD_eq_getElem?_getD, gridL_get w h f r c hr hc]; rfl
/-- A place of a tile. -/
theorem tile_div {i r H : Nat} (h1 : i * H ≤ r) (h2 : r < i * H + H) : r / H = i ∧ r % H = r - i * H := by
  have hH : 0 < H := by omega
  have h3 : r / H = i := by
    have h4 := Nat.div_add_mod r H
    have h5 := Nat.mod_lt r hH
    have : r / H < i + 1 := by rw [Nat.div_lt_iff_lt_mul hH, Nat.succ_mul]; omega
    have : i ≤ r / H := by rw [Nat.le_div_iff_mul_le hH]; exact h1
    omega
  refine ⟨h3, ?_⟩
  have h4 := Nat.div_add_mod r H
  rw [h3, Nat.mul_comm] at h4; omega
/-- So much of a chart is tiles of a motif. -/
def tiled (w h W H : Nat) (m : List Int) (i k : Nat) (l : List Int) : Prop := l.length = w * h ∧ ∀ r c, r < h → c < w → (r < i * H ∨ (r < i * H + H ∧ c < k * W)) → l.getD (r * w + c) 0 = m.getD (r % H * W + c % W) 0
theorem tiled_step {w h W H i k : Nat} {m l : List Int} (hm : m.length = W * H) (hW : 0 < W) (hH : 0 < H) (hi : i * H + H ≤ h) (hk : k * W + W ≤ w) (t : tiled w h W H m i k l) : tiled w h W H m i (k + 1) (putR w (i * H) (k * W) W m H 0 l) := by
  refine ⟨putR_len w h (i * H) (k * W) W H m hm hk H 0 l (by omega) hi t.1, fun r c hr hc hx => ?_⟩
  rw [putR_at hm hk hi hW hr hc H 0 l (by omega) t.1]
  rw [Nat.succ_mul] at hx
  by_cases h1 : (i * H + 0 ≤ r ∧ r < i * H + 0 + H) ∧ k * W ≤ c ∧ c < k * W + W
  · rw [if_pos h1, (tile_div (i := i) (by omega) (by omega)).2, (tile_div (i := k) (by omega) (by omega)).2]
  · rw [if_neg h1]
    exact t.2 r c hr hc (by omega)
theorem tiled_row {w h W H i n : Nat} {m l : List Int} (hw : w = n * W) (t : tiled w h W H m i n l) : tiled w h W H m (i + 1) 0 l := by
  refine ⟨t.1, fun r c hr hc hx => t.2 r c hr hc ?_⟩
  rw [Nat.succ_mul] at hx
  omega
theorem tiled_end {w h W H n : Nat} {m l : List Int} (hh : h = n * H) (hw : 0 < w) (t : tiled w h W H m n 0 l) : l = gridL w h fun r c => m.getD (r % H * W + c % W) 0 :=
  grid_ext t.1 hw fun r c hr hc => t.2 r c hr hc (.inl (by omega))
/-- Two loops, one in the other, that ask for all. -/
theorem all2_loop (ok : Nat → Nat → Bool) {h n K0 : Nat} {L0 : Nat → Nat → Option Bool} {L1 : Nat → Nat → Nat → Option Bool}
    (h0 : ∀ k r, K0 ≤ k → r < h → L0 (k + 1) r = L1 k r 0) (he : ∀ k, K0 ≤ k → L0 (k + 1) h = some true)
    (h1 : ∀ k r c, K0 ≤ k → r < h → c < n → L1 (k + 1) r c = if ok r c = true then L1 k r (c + 1) else some false) (h2 : ∀ k r, K0 ≤ k → r < h → L1 (k + 1) r n = L0 k (r + 1)) :
    ∀ k, K0 + (h + 1) * (n + 2) ≤ k → L0 k 0 = some ((List.range h).all fun r => (List.range n).all (ok r)) := by
  have row_ : ∀ (d k r c : Nat), K0 ≤ k → r < h → c + d = n → L1 (k + d + 1) r c = if (List.range' c d).all (ok r) = true then L0 k (r + 1) else some false := by
    intro d
    induction d with
    | zero => intro k r c hk hr hc; rw [show c = n by omega, Nat.add_zero, h2 k r hk hr]; simp
    | succ d ih =>
      intro k r c hk hr hc
      rw [show k + (d + 1) + 1 = (k + d + 1) + 1 by omega, h1 _ r c (by omega) hr (by omega), List.range'_succ, List.all_cons]
      by_cases hx : ok r c = true
      · rw [if_pos hx, ih k r (c + 1) hk hr (by omega), hx, Bool.true_and]
      · rw [if_neg hx, notB hx, Bool.false_and, if_neg (by simp)]
  have all_ : ∀ (d k r : Nat), r + d = h → K0 + (d + 1) * (n + 2) ≤ k → L0 k r = some ((List.range' r d).all fun r => (List.range n).all (ok r)) := by
    intro d
    induction d with
    | zero => intro k r hr hk; obtain ⟨k, rfl⟩ := succ_of (k := k) (by omega); rw [show r = h by omega, he k (by omega)]; simp
    | succ d ih =>
      intro k r hr hk
      rw [show d + 1 + 1 = (d + 1) + 1 from rfl, Nat.succ_mul] at hk
      obtain ⟨k, rfl⟩ : ∃ k', k = k' + n + 1 + 1 := ⟨k - n - 2, by omega⟩
      rw [h0 _ r (by omega) (by omega), row_ n k r 0 (by omega) (by omega) (by omega), List.range'_succ, List.all_cons, ← List.range_eq_range']
      by_cases hx : (List.range n).all (ok r) = true
      · rw [if_pos hx, ih k (r + 1) (by omega) (by omega), hx, Bool.true_and]
      · rw [if_neg hx, notB hx, Bool.false_and]
  intro k hk
  rw [List.range_eq_range']
  exact all_ h k 0 (by omega) hk
def least (ok : Nat → Bool) : Nat → Nat → Nat
  | 0, p => p
  | d + 1, p => if ok p = true then p else least ok d (p + 1)
theorem least_loop {R : Type} {L : Nat → Nat → Option R} {fin : Nat → Option R} {ok : Nat → Bool} {w K0 : Nat} (hw : ok w = true) (hs : ∀ k p, K0 ≤ k → 1 ≤ p → p ≤ w → L (k + 1) p = if ok p = true then fin p else L k (p + 1)) :
    ∀ (d p k : Nat), p + d = w → 1 ≤ p → K0 + d < k → L k p = fin (least ok d p) := by
  intro d
  induction d with
  | zero => intro p k hp h1 hk; obtain ⟨k, rfl⟩ := succ_of (k := k) (by omega); rw [hs k p (by omega) h1 (by omega), show p = w by omega, if_pos hw]; rfl
  | succ d ih =>
    intro p k hp h1 hk
    obtain ⟨k, rfl⟩ := succ_of (k := k) (by omega)
    rw [hs k p (by omega) h1 (by omega)]
    unfold least
    by_cases hx : ok p = true
    · rw [if_pos hx, if_pos hx]
    · rw [if_neg hx, if_neg hx]; exact ih (p + 1) k (by omega) (by omega) (by omega)
theorem least_of {ok : Nat → Bool} : ∀ (d p : Nat), ok (p + d) = true → ok (least ok d p) = true ∧ p ≤ least ok d p ∧ least ok d p ≤ p + d ∧ ∀ q, p ≤ q → q < least ok d p → ok q = false := by
  intro d
  induction d with
  | zero => intro p h; exact ⟨h, Nat.le_refl _, Nat.le_refl _, fun q a b => by unfold least at b; omega⟩
  | succ d ih =>
    intro p h
    unfold least
    by_cases hx : ok p = true
    · rw [if_pos hx]; exact ⟨hx, Nat.le_refl _, by omega, fun q a b => by omega⟩
    · rw [if_neg hx]
      obtain ⟨a, b, c, e⟩ := ih (p + 1) (by rw [show p + 1 + d = p + (d + 1) by omega]; exact h)
      refine ⟨a, by omega, by omega, fun q h1 h2 => ?_⟩
      by_cases hq : q = p
      · subst hq; exact notB hx
      · exact e q (by omega) h2
theorem least_le {ok : Nat → Bool} {d p q : Nat} (h : ok (p + d) = true) (hq : p ≤ q) (ho : ok q = true) : least ok d p ≤ q := by
  rcases Nat.lt_or_ge q (least ok d p) with h1 | h1
  · have := (least_of d p h).2.2.2 q hq h1
    rw [this] at ho; cases ho
  · exact h1
/-! ### Periods -/
def perB (w h : Nat) (l : List Int) (p : Nat) : Bool := (List.range h).all fun r => (List.range (w - p)).all fun c => decide (l.getD (r * w + c) 0 = l.getD (r * w + (c + p)) 0)
theorem perB_iff {w h : Nat} {l : List Int} {p : Nat} : perB w h l p = true ↔ ∀ r c, r < h → c + p < w → l.getD (r * w + c) 0 = l.getD (r * w + (c + p)) 0 := by
  unfold perB
  simp only [List.all_eq_true, List.mem_range, decide_eq_true_eq]
  exact ⟨fun H r c hr hc => H r hr c (by omega), fun H r hr c hc => H r c hr (by omega)⟩
theorem perB_w (w h : Nat) (l : List Int) : perB w h l w = true := perB_iff.2 fun r c _ hc => by omega
def divB (w h : Nat) (l : List Int) (p : Nat) : Bool := decide (w % p = 0) && perB w h l p
theorem divB_w (w h : Nat) (l : List Int) : divB w h l w = true := by unfold divB; rw [perB_w, Nat.mod_self]; rfl
def perN (w h : Nat) (l : List Int) : Nat := least (perB w h l) (w - 1) 1
def divN (w h : Nat) (l : List Int) : Nat := least (divB w h l) (w - 1) 1
theorem perN_of {w h : Nat} {l : List Int} (hw : 1 ≤ w) : 1 ≤ perN w h l ∧ perN w h l ≤ w := by
  have := least_of (ok := perB w h l) (w - 1) 1 (by rw [show 1 + (w - 1) = w by omega]; exact perB_w w h l)
  unfold perN; omega
theorem divN_of {w h : Nat} {l : List Int} (hw : 1 ≤ w) : (1 ≤ divN w h l ∧ divN w h l ≤ w) ∧ w % divN w h l = 0 ∧ perB w h l (divN w h l) = true := by
  have := least_of (ok := divB w h l) (w - 1) 1 (by rw [show 1 + (w - 1) = w by omega]; exact divB_w w h l)
  refine ⟨by unfold divN; omega, ?_⟩
  have h2 := this.1
  unfold divN
  generalize least (divB w h l) (w - 1) 1 = p at h2
  unfold divB at h2
  rw [Bool.and_eq_true] at h2
  exact ⟨by simpa using h2.1, h2.2⟩
theorem perN_le {w h : Nat} {l : List Int} (hw : 1 ≤ w) : perN w h l ≤ divN w h l := least_le (by rw [show 1 + (w - 1) = w by omega]; exact perB_w w h l) (divN_of hw).1.1 (divN_of hw).2.2
theorem per_mod {w h : Nat} {l : List Int} {p : Nat} (hp : perB w h l p = true) (h1 : 1 ≤ p) : ∀ c r, r < h → c < w → l.getD (r * w + c) 0 = l.getD (r * w + c % p) 0 := by
  intro c
  induction c using Nat.strongRecOn with
  | _ c ih =>
    intro r hr hc
    by_cases hlt : c < p
    · rw [Nat.mod_eq_of_lt hlt]
    · have h2 := perB_iff.1 hp r (c - p) hr (by omega)
      rw [show c - p + p = c by omega] at h2
      have h3 : c % p = (c - p) % p := Nat.mod_eq_sub_mod (by omega)
      rw [← h2, h3]
      exact ih (c - p) (by omega) r hr (by omega)
theorem rep_len {n w h : Nat} (e : n = w * h) : (List.replicate n (0 : Int)).length = w * h := by rw [List.length_replicate, e]
theorem below_put {w h H : Nat} {a b : List Int} (hw : 0 < w) (ha : a.length = w * h) (hb : b.length = w * H) : putR w h 0 w b H 0 (putR w 0 0 w a h 0 (List.replicate (w * (h + H)) 0)) = a ++ b := by
  have h1 : (putR w 0 0 w a h 0 (List.replicate (w * (h + H)) 0)).length = w * (h + H) := putR_len w (h + H) 0 0 w h a ha (by omega) h 0 _ (by omega) (by omega) (rep_len rfl)
  have h2 : (putR w h 0 w b H 0 (putR w 0 0 w a h 0 (List.replicate (w * (h + H)) 0))).length = w * (h + H) := putR_len w (h + H) h 0 w H b hb (by omega) H 0 _ (by omega) (by omega) h1
  have key : ∀ r c, r < h + H → c < w → (putR w h 0 w b H 0 (putR w 0 0 w a h 0 (List.replicate (w * (h + H)) 0))).getD (r * w + c) 0 = (a ++ b).getD (r * w + c) 0 := fun r c hr hc => by
    rw [putR_at hb (by omega) (by omega) hw hr hc H 0 _ (by omega) h1, putR_at ha (by omega) (by omega) hw hr hc h 0 _ (by omega) (rep_len rfl)]
    simp only [Nat.add_zero, Nat.zero_add, Nat.sub_zero, List.getD_eq_getElem?_getD]
    by_cases hlt : r < h
    · have : r * w + w ≤ h * w := by rw [← Nat.succ_mul]; exact Nat.mul_le_mul_right _ hlt
      rw [if_neg (by omega), if_pos (by omega), List.getElem?_append_left (by rw [ha, Nat.mul_comm w h]; omega)]
    · have : h * w + (r - h) * w = r * w := by rw [← Nat.add_mul]; congr 1; omega
      rw [if_pos (by omega), List.getElem?_append_right (by rw [ha, Nat.mul_comm w h]; omega), ha, Nat.mul_comm w h]
      congr 2; omega
  rw [grid_ext (f := fun r c => (a ++ b).getD (r * w + c) 0) h2 hw key]
  exact (grid_ext (f := fun r c => (a ++ b).getD (r * w + c) 0) (by rw [List.length_append, ha, hb, Nat.mul_add]) hw (fun r c _ _ => rfl)).symm
def besideL (w W h : Nat) (a b : List Int) : List Int := gridL (w + W) h fun r c => if c < w then a.getD (r * w + c) 0 else b.getD (r * W + (c - w)) 0
theorem beside_put {w W h : Nat} {a b : List Int} (hw : 0 < w) (hW : 0 < W) (ha : a.length = w * h) (hb : b.length = W * h) : putR (w + W) 0 w W b h 0 (putR (w + W) 0 0 w a h 0 (List.replicate ((w + W) * h) 0)) = besideL w W h a b := by
  have h1 : (putR (w + W) 0 0 w a h 0 (List.replicate ((w + W) * h) 0)).length = (w + W) * h := putR_len (w + W) h 0 0 w h a ha (by omega) h 0 _ (by omega) (by omega) (rep_len rfl)
  have h2 : (putR (w + W) 0 w W b h 0 (putR (w + W) 0 0 w a h 0 (List.replicate ((w + W) * h) 0))).length = (w + W) * h := putR_len (w + W) h 0 w W h b hb (by omega) h 0 _ (by omega) (by omega) h1
  refine grid_ext h2 (by omega) fun r c hr hc => ?_
  rw [putR_at hb (by omega) (by omega) hW hr hc h 0 _ (by omega) h1, putR_at ha (by omega) (by omega) hw hr hc h 0 _ (by omega) (rep_len rfl)]
  simp only [Nat.add_zero, Nat.zero_add, Nat.sub_zero]
  by_cases hlt : c < w
  · rw [if_neg (by omega), if_pos (by omega), if_pos hlt]
  · rw [if_pos (by omega), if_neg hlt]
theorem all_getD {l : List Int} {p : Int → Prop} (h : ∀ x ∈ l, p x) {i : Nat} (hi : i < l.length) : p (l.getD i 0) := by
  rw [getD_lt hi]; exact h _ (List.getElem_mem _)
theorem at_lt {w h r c : Nat} (hr : r < h) (hc : c < w) : r * w + c < w * h := by
  have : (r + 1) * w ≤ h * w := Nat.mul_le_mul_right _ hr
  rw [Nat.succ_mul, Nat.mul_comm h w] at this; omega
theorem specPut0 {w h R C W H : Nat} {l p : List Int} (hw : w ≤ 8) (hh : h ≤ 8) (hl : l.length = w * h) (hp : p.length = W * H) (hC : C + W ≤ w) (hR : R + H ≤ h) (hW : 1 ≤ W) (k : Nat) (hk : 200 ≤ k) : spec_l2Put.f k (w : Int) (h : Int) l (W : Int) (H : Int) p (R : Int) (C : Int) = some ((w : Int), (h : Int), putR w R C W p H 0 l) := by
  have hHW : H * (W + 2) ≤ 80 := Nat.le_trans (Nat.mul_le_mul (show H ≤ 8 by omega) (show W + 2 ≤ 10 by omega)) (by omega)
  have h64 : w * h ≤ 64 := Nat.le_trans (Nat.mul_le_mul hw hh) (by omega)
  unfold spec_l2Put.f spec_l2Put.m
  rw [l2Own_eq k _ _ l (by omega)]; simp only [Option.bind_some]
  exact specPut_l hw hh hp hC hR hW H k 0 l (by omega) (by omega) hl
theorem blank_all (k : Nat) (w h : Int) : spec_l6Blank.f k w h = some (if (1 ≤ w ∧ w ≤ 8) ∧ 1 ≤ h ∧ h ≤ 8 then (w, h, List.replicate (w * h).toNat 0, true) else (0, 0, [], false)) := by
  unfold spec_l6Blank.f spec_l6Blank.m
  rw [l2Side_eq, l2Side_eq]
  by_cases h1 : 1 ≤ w ∧ w ≤ 8
  · rw [inB_of h1]
    by_cases h2 : 1 ≤ h ∧ h ≤ 8
    · have := mul_bd h1 h2
      rw [inB_of h2, if_pos ⟨h1, h2⟩]
      simp (disch := omega) only [Option.bind_some, Bool.not_true, Bool.not_false, cond_true, cond_false, Bool.true_and, Bool.false_and, Bool.and_true, Bool.and_false, Bool.false_eq_true, Bool.true_or, Bool.or_true, Bool.false_or, Bool.or_false, Bool.or_self, Bool.and_self, decide_true, decide_false, if_true, if_false, not_true, not_false_eq_true, not_true_eq_false, false_or, or_false, true_and, and_true, Bool.not_eq_true, Bool.true_eq_false, reduceCtorEq, w64_id, mkl_int]
    · rw [if_neg (fun h => h2 h.2), notB (fun h => h2 (inB_iff.1 h))]; rfl
  · rw [if_neg (fun h => h1 h.1), notB (fun h => h1 (inB_iff.1 h))]; rfl
theorem times_eq (k : Nat) (x : Int) : spec_l6Times.f k x = some (inB x 1 8) := by unfold spec_l6Times.f spec_l6Times.m; rw [specIn_eq]; rfl
theorem rep_row {X Y w h : Nat} {m : List Int} (hX : X * w ≤ 8) (hY : Y * h ≤ 8) (hw : 1 ≤ w) (hh : 1 ≤ h) (hm : m.length = w * h) (i : Nat) (hi : i < Y) : ∀ (d k j : Nat) (l : List Int), j + d = X → d + 200 < k → tiled (X * w) (Y * h) w h m i j l →
    ∃ l', tiled (X * w) (Y * h) w h m i X l' ∧ spec_RepeatMotif.l15 k (X : Int) (Y : Int) (w : Int) (h : Int) m 0 0 [] ((X * w : Nat) : Int) ((Y * h : Nat) : Int) l (i : Int) (j : Int) = spec_RepeatMotif.l10 (k - d - 1) (X : Int) (Y : Int) (w : Int) (h : Int) m 0 0 [] ((X * w : Nat) : Int) ((Y * h : Nat) : Int) l' ((i + 1 : Nat) : Int) := by
  have hi2 : i * h + h ≤ Y * h := by rw [← Nat.succ_mul]; exact Nat.mul_le_mul_right _ hi
  have hXX : X ≤ X * w := Nat.le_mul_of_pos_right X hw
  have hYY : Y ≤ Y * h := Nat.le_mul_of_pos_right Y hh
  intro d
  induction d with
  | zero =>
    intro k j l h1 h2 t
    obtain ⟨k, rfl⟩ := succ_of (show 0 < k by omega)
    have : j = X := by omega
    subst this
    refine ⟨l, t, ?_⟩
    simp only [spec_RepeatMotif.l15, spec_RepeatMotif.b15]
    rw [if_neg (by omega), w64_id (by omega), show ((i + 1 : Nat) : Int) = (i : Int) + 1 by omega]; rfl
  | succ d ih =>
    intro k j l h1 h2 t
    obtain ⟨k, rfl⟩ := succ_of (show 0 < k by omega)
    have hj2 : j * w + w ≤ X * w := by rw [← Nat.succ_mul]; exact Nat.mul_le_mul_right _ (by omega)
    obtain ⟨l', t', e⟩ := ih k (j + 1) _ (by omega) (by omega) (tiled_step hm (by omega) (by omega) hi2 hj2 t)
    refine ⟨l', t', ?_⟩
    rw [show k + 1 - (d + 1) - 1 = k - d - 1 by omega, ← e]
    simp only [spec_RepeatMotif.l15, spec_RepeatMotif.b15]
    rw [if_pos (by omega), ← nat_mul_cast, ← nat_mul_cast, w64_id (x := ((i * h : Nat) : Int)) (by omega), w64_id (x := ((j * w : Nat) : Int)) (by omega), specPut0 hX hY t.1 hm hj2 hi2 hw k (by omega)]
    simp only [Option.bind_some]
    rw [w64_id (by omega), show ((j + 1 : Nat) : Int) = (j : Int) + 1 by omega]
theorem rep_rows {X Y w h : Nat} {m : List Int} (hX : X * w ≤ 8) (hY : Y * h ≤ 8) (hw : 1 ≤ w) (hh : 1 ≤ h) (hm : m.length = w * h) (hX1 : 1 ≤ X) : ∀ (d k i : Nat) (l : List Int), i + d = Y → 10 * d + 300 < k → tiled (X * w) (Y * h) w h m i 0 l →
    spec_RepeatMotif.l10 k (X : Int) (Y : Int) (w : Int) (h : Int) m 0 0 [] ((X * w : Nat) : Int) ((Y * h : Nat) : Int) l (i : Int) = some (((X * w : Nat) : Int), ((Y * h : Nat) : Int), gridL (X * w) (Y * h) (fun r c => m.getD (r % h * w + c % w) 0), true) := by
  have hXX : X ≤ X * w := Nat.le_mul_of_pos_right X hw
  have hYY : Y ≤ Y * h := Nat.le_mul_of_pos_right Y hh
  intro d
  induction d with
  | zero =>
    intro k i l h1 h2 t
    obtain ⟨k, rfl⟩ := succ_of (show 0 < k by omega)
    have : i = Y := by omega
    subst this
    simp only [spec_RepeatMotif.l10, spec_RepeatMotif.b10]
    rw [if_neg (by omega), ← tiled_end rfl (by omega) t]
  | succ d ih =>
    intro k i l h1 h2 t
    obtain ⟨k, rfl⟩ := succ_of (show 0 < k by omega)
    obtain ⟨l', t', e⟩ := rep_row hX hY hw hh hm i (by omega) X k 0 l (by omega) (by omega) t
    simp only [spec_RepeatMotif.l10, spec_RepeatMotif.b10]
    rw [if_pos (by omega)]
    rw [show ((0 : Nat) : Int) = 0 from rfl] at e
    rw [e]
    exact ih _ (i + 1) l' (by omega) (by omega) (tiled_row rfl t')
def repL (w h : Int) (l : List Int) (x y : Int) : List Int := gridL (x * w).toNat (y * h).toNat fun r c => l.getD (r % h.toNat * w.toNat + c % w.toNat) 0
def repC (w h : Int) (l : List Int) (x y : Int) : Prop := goodB w h l = true ∧ (1 ≤ x ∧ x * w ≤ 8) ∧ 1 ≤ y ∧ y * h ≤ 8
instance (w h : Int) (l : List Int) (x y : Int) : Decidable (repC w h l x y) := by unfold repC; infer_instance
def repOut (w h : Int) (l : List Int) (x y : Int) : Int × Int × List Int × Bool := if repC w h l x y then (x * w, y * h, repL w h l x y, true) else (0, 0, [], false)
theorem side_mul {w x : Int} (hw : 1 ≤ w) (hx : 1 ≤ x) : 1 ≤ x * w ∧ x ≤ x * w := by
  have h1 : x * 1 ≤ x * w := Int.mul_le_mul_of_nonneg_left hw (by omega)
  omega
theorem side_le {w x : Int} (hw : 1 ≤ w ∧ w ≤ 8) (hx : 1 ≤ x ∧ x ≤ 8) : 1 ≤ x * w ∧ x * w ≤ 64 := mul_bd hx hw
theorem specRep_eq (k : Nat) (w h : Int) (l : List Int) (x y : Int) (hl : l.length ≤ 100000000000000) (hk : l.length + 1000 ≤ k) : spec_RepeatMotif.f k w h l x y = some (repOut w h l x y) := by
  unfold spec_RepeatMotif.f spec_RepeatMotif.m repOut
  rw [l2Good_eq k w h l hl (by omega)]; simp only [Option.bind_some]
  by_cases hg : goodB w h l = true
  · rw [hg, times_eq]; simp only [Option.bind_some, Bool.not_true, Bool.not_false, cond_true, cond_false, Bool.true_and, Bool.false_and, Bool.and_true, Bool.and_false, Bool.false_eq_true, Bool.true_or, Bool.or_true, Bool.false_or, Bool.or_false, Bool.or_self, Bool.and_self, decide_true, decide_false, if_true, if_false, not_true, not_false_eq_true, not_true_eq_false, false_or, or_false, true_and, and_true, Bool.not_eq_true, Bool.true_eq_false, reduceCtorEq]
    obtain ⟨hw, hh, hlen, _⟩ := good_of hg
    by_cases hx : 1 ≤ x ∧ x ≤ 8
    · rw [inB_of hx, times_eq]; simp only [Option.bind_some, Bool.not_true, Bool.not_false, cond_true, cond_false, Bool.true_and, Bool.false_and, Bool.and_true, Bool.and_false, Bool.false_eq_true, Bool.true_or, Bool.or_true, Bool.false_or, Bool.or_false, Bool.or_self, Bool.and_self, decide_true, decide_false, if_true, if_false, not_true, not_false_eq_true, not_true_eq_false, false_or, or_false, true_and, and_true, Bool.not_eq_true, Bool.true_eq_false, reduceCtorEq]
      by_cases hy : 1 ≤ y ∧ y ≤ 8
      · rw [inB_of hy, blank_all]; simp only [Option.bind_some, Bool.not_true, Bool.not_false, cond_true, cond_false, Bool.true_and, Bool.false_and, Bool.and_true, Bool.and_false, Bool.false_eq_true, Bool.true_or, Bool.or_true, Bool.false_or, Bool.or_false, Bool.or_self, Bool.and_self, decide_true, decide_false, if_true, if_false, not_true, not_false_eq_true, not_true_eq_false, false_or, or_false, true_and, and_true, Bool.not_eq_true, Bool.true_eq_false, reduceCtorEq]
        have b1 := side_le hw hx
        have b2 := side_le hh hy
        rw [w64_id (x := x * w) (by omega), w64_id (x := y * h) (by omega)]
        by_cases hc : x * w ≤ 8 ∧ y * h ≤ 8
        · have hrc : repC w h l x y := ⟨hg, ⟨hx.1, hc.1⟩, hy.1, hc.2⟩
          rw [if_pos (by omega), if_pos hrc]; simp only [Bool.not_true, Bool.not_false, cond_true, cond_false, Bool.true_and, Bool.false_and, Bool.and_true, Bool.and_false, Bool.false_eq_true, Bool.true_or, Bool.or_true, Bool.false_or, Bool.or_false, Bool.or_self, Bool.and_self, decide_true, decide_false, if_true, if_false, not_true, not_false_eq_true, not_true_eq_false, false_or, or_false, true_and, and_true, Bool.not_eq_true, Bool.true_eq_false, reduceCtorEq]
          unfold repL
          obtain ⟨w, rfl⟩ := Int.eq_ofNat_of_zero_le (show 0 ≤ w by omega)
          obtain ⟨h, rfl⟩ := Int.eq_ofNat_of_zero_le (show 0 ≤ h by omega)
          obtain ⟨x, rfl⟩ := Int.eq_ofNat_of_zero_le (show 0 ≤ x by omega)
          obtain ⟨y, rfl⟩ := Int.eq_ofNat_of_zero_le (show 0 ≤ y by omega)
          simp only [← nat_mul_cast, Int.toNat_natCast] at *
          exact rep_rows (by omega) (by omega) (by omega) (by omega) (lenN hlen) (by omega) y k 0 _ (by omega) (by omega) ⟨by rw [List.length_replicate], fun r c _ _ hx => by omega⟩
        · rw [if_neg (by omega), if_neg (fun h => hc ⟨h.2.1.2, h.2.2.2⟩)]; rfl
      · rw [notB (fun h => hy (inB_iff.1 h)), if_neg (fun h => hy ⟨h.2.2.1, Int.le_trans (side_mul hh.1 h.2.2.1).2 h.2.2.2⟩)]; rfl
    · rw [notB (fun h => hx (inB_iff.1 h)), if_neg (fun h => hx ⟨h.2.1.1, Int.le_trans (side_mul hw.1 h.2.1.1).2 h.2.1.2⟩)]; rfl
  · rw [notB hg, if_neg (fun h => hg h.1)]; rfl
theorem copies_eq (k : Nat) (w x : Int) (hw : 1 ≤ w ∧ w ≤ 8) : impl_isCopies.f k w x = some (decide (1 ≤ x ∧ x * w ≤ 8)) := by
  unfold impl_isCopies.f impl_isCopies.m
  by_cases hx : 1 ≤ x
  · rw [if_pos hx]
    have key : ∀ q : Int, quo .i64 8 w = some q → (x ≤ q ↔ x * w ≤ 8) → ((quo .i64 8 w).bind fun q1 => some (decide (x ≤ q1))) = some (decide (1 ≤ x ∧ x * w ≤ 8)) := fun q h1 h2 => by
      rw [h1]; simp only [Option.bind_some]
      congr 1
      exact decide_eq_decide.2 ⟨fun h => ⟨hx, h2.1 h⟩, fun h => h2.2 h.2⟩
    have hc : w = 1 ∨ w = 2 ∨ w = 3 ∨ w = 4 ∨ w = 5 ∨ w = 6 ∨ w = 7 ∨ w = 8 := by omega
    rcases hc with rfl | rfl | rfl | rfl | rfl | rfl | rfl | rfl
    · exact key 8 (by decide) (by omega)
    · exact key 4 (by decide) (by omega)
    · exact key 2 (by decide) (by omega)
    · exact key 2 (by decide) (by omega)
    · exact key 1 (by decide) (by omega)
    · exact key 1 (by decide) (by omega)
    · exact key 1 (by decide) (by omega)
    · exact key 1 (by decide) (by omega)
  · rw [if_neg hx, decide_eq_false (fun h => hx h.1)]
theorem tmodN (r h : Nat) (hh : 1 ≤ h) : rem (r : Int) (h : Int) = some ((r % h : Nat) : Int) := by
  unfold rem; rw [if_neg (by omega), ← Int.ofNat_tmod]
theorem iatN (k : Nat) {w h : Nat} {l : List Int} {r c : Nat} (hw : 1 ≤ w ∧ w ≤ 8) (hh : 1 ≤ h ∧ h ≤ 8) (hl : l.length = w * h) (hr : r < h) (hc : c < w) : impl_Chart_at.f k (w : Int) (h : Int) l (r : Int) (c : Int) = some (l.getD (r * w + c) 0) := by
  rw [iatC k w h l r c (by omega) (by omega) (by rw [hl, nat_mul_cast]) (by omega) (by omega)]
  unfold atL
  rw [← Int.natCast_mul, ← Int.natCast_add, Int.toNat_natCast]
theorem implRep_eq (k : Nat) (w h : Int) (l : List Int) (x y : Int) (hl : l.length ≤ 100000000000000) (hk : l.length + 1000 ≤ k) : impl_RepeatMotif.f k w h l x y = some (repOut w h l x y) := by
  unfold impl_RepeatMotif.f impl_RepeatMotif.m repOut
  rw [isChart_eq k w h l hl (by omega)]; simp only [Option.bind_some]
  by_cases hg : goodB w h l = true
  · obtain ⟨hw, hh, hlen, _⟩ := good_of hg
    rw [hg, copies_eq k w x hw]; simp only [Option.bind_some, Bool.not_true, Bool.not_false, cond_true, cond_false, Bool.true_and, Bool.false_and, Bool.and_true, Bool.and_false, Bool.false_eq_true, Bool.true_or, Bool.or_true, Bool.false_or, Bool.or_false, Bool.or_self, Bool.and_self, decide_true, decide_false, if_true, if_false, not_true, not_false_eq_true, not_true_eq_false, false_or, or_false, true_and, and_true, Bool.not_eq_true, Bool.true_eq_false, reduceCtorEq]
    by_cases hx : 1 ≤ x ∧ x * w ≤ 8
    · rw [decide_eq_true hx, copies_eq k h y hh]; simp only [Option.bind_some, Bool.not_true, Bool.not_false, cond_true, cond_false, Bool.true_and, Bool.false_and, Bool.and_true, Bool.and_false, Bool.false_eq_true, Bool.true_or, Bool.or_true, Bool.false_or, Bool.or_false, Bool.or_self, Bool.and_self, decide_true, decide_false, if_true, if_false, not_true, not_false_eq_true, not_true_eq_false, false_or, or_false, true_and, and_true, Bool.not_eq_true, Bool.true_eq_false, reduceCtorEq]
      by_cases hy : 1 ≤ y ∧ y * h ≤ 8
      · rw [decide_eq_true hy, if_pos (show repC w h l x y from ⟨hg, hx, hy⟩)]; simp only [Bool.not_true, Bool.not_false, cond_true, cond_false, Bool.true_and, Bool.false_and, Bool.and_true, Bool.and_false, Bool.false_eq_true, Bool.true_or, Bool.or_true, Bool.false_or, Bool.or_false, Bool.or_self, Bool.and_self, decide_true, decide_false, if_true, if_false, not_true, not_false_eq_true, not_true_eq_false, false_or, or_false, true_and, and_true, Bool.not_eq_true, Bool.true_eq_false, reduceCtorEq]
        have s1 := side_mul hw.1 hx.1
        have s2 := side_mul hh.1 hy.1
        rw [Int.mul_comm w x, Int.mul_comm h y, w64_id (x := x * w) (by omega), w64_id (x := y * h) (by omega)]
        unfold repL
        obtain ⟨w, rfl⟩ := Int.eq_ofNat_of_zero_le (show 0 ≤ w by omega)
        obtain ⟨h, rfl⟩ := Int.eq_ofNat_of_zero_le (show 0 ≤ h by omega)
        obtain ⟨x, rfl⟩ := Int.eq_ofNat_of_zero_le (show 0 ≤ x by omega)
        obtain ⟨y, rfl⟩ := Int.eq_ofNat_of_zero_le (show 0 ≤ y by omega)
        simp only [← nat_mul_cast, Int.toNat_natCast] at *
        have hlen' : l.length = w * h := by omega
        have hgr := grid_loop (fun k row acc => impl_makeChart__impl_RepeatMotif_1.l4 k ((x * w : Nat) : Int) (w : Int) (h : Int) l 0 0 [] ((x * w : Nat) : Int) ((y * h : Nat) : Int) acc ((y * h : Nat) : Int) row) (fun k row col acc => impl_makeChart__impl_RepeatMotif_1.l10 k ((x * w : Nat) : Int) (w : Int) (h : Int) l 0 0 [] ((x * w : Nat) : Int) ((y * h : Nat) : Int) acc row ((y * h : Nat) : Int) row ((x * w : Nat) : Int) col) (fun acc => some (((x * w : Nat) : Int), ((y * h : Nat) : Int), acc)) (x * w) (y * h) (by omega) (by omega)
          (fun k row col => impl_RepeatMotif_1.f k row col w h l) (fun r c => l.getD (r % h * w + c % w) 0)
          (fun k row acc => by simp only [impl_makeChart__impl_RepeatMotif_1.l4, impl_makeChart__impl_RepeatMotif_1.b4]) (fun k row col acc => by simp only [impl_makeChart__impl_RepeatMotif_1.l10, impl_makeChart__impl_RepeatMotif_1.b10])
          (fun k r c hr hc => by
            unfold impl_RepeatMotif_1.f impl_RepeatMotif_1.m
            rw [tmodN r h (by omega), tmodN c w (by omega)]; simp only [Option.bind_some]
            rw [iatN k (by omega) (by omega) hlen' (Nat.mod_lt _ (by omega)) (Nat.mod_lt _ (by omega))]; rfl) k (Nat.le_trans (Nat.mul_le_mul (show y * h + 1 ≤ 9 by omega) (show x * w + 2 ≤ 10 by omega)) (by omega))
        unfold impl_makeChart__impl_RepeatMotif_1.f impl_makeChart__impl_RepeatMotif_1.m
        rw [hgr]; rfl
      · rw [decide_eq_false hy, if_neg (fun h => hy h.2.2)]; rfl
    · rw [decide_eq_false hx, if_neg (fun h => hx h.2.1)]; rfl
  · rw [notB hg, if_neg (fun h => hg h.1)]; rfl
theorem quoN {w p : Nat} (hp : 1 ≤ p) (hw : w ≤ 8) : quo .i64 (w : Int) (p : Int) = some ((w / p : Nat) : Int) := by
  unfold quo
  rw [if_neg (by omega), ← Int.ofNat_tdiv]
  have : w / p ≤ w := Nat.div_le_self w p
  generalize w / p = q at *
  rw [show IntKind.i64.wrap (q : Int) = w64 (q : Int) from rfl, w64_id (by omega)]
theorem satN (k : Nat) {w h : Nat} {l : List Int} {r c : Nat} (hw : 1 ≤ w ∧ w ≤ 8) (hh : 1 ≤ h ∧ h ≤ 8) (hl : l.length = w * h) (hr : r < h) (hc : c < w) : spec_l2At.f k (w : Int) (h : Int) l (r : Int) (c : Int) = some (l.getD (r * w + c) 0) := by
  rw [satC k w h l r c (by omega) (by omega) (by rw [hl, nat_mul_cast]) (by omega) (by omega)]
  unfold atL
  rw [← Int.natCast_mul, ← Int.natCast_add, Int.toNat_natCast]
theorem implHas_eq {w h p : Nat} {l : List Int} (hw : 1 ≤ w ∧ w ≤ 8) (hh : 1 ≤ h ∧ h ≤ 8) (hl : l.length = w * h) (hp : p ≤ w) (k : Nat) (hk : 90 ≤ k) : impl_Chart_hasPeriod.f k (w : Int) (h : Int) l (p : Int) = some (perB w h l p) := by
  have := all2_loop (fun r c => decide (l.getD (r * w + c) 0 = l.getD (r * w + (c + p)) 0)) (h := h) (n := w - p) (K0 := 0) (L0 := fun k r => impl_Chart_hasPeriod.l3 k (p : Int) (w : Int) (h : Int) l (h : Int) (r : Int)) (L1 := fun k r c => impl_Chart_hasPeriod.l9 k (p : Int) (w : Int) (h : Int) l (r : Int) (h : Int) (r : Int) ((w - p : Nat) : Int) (c : Int))
    (fun k r _ hr => by simp only [impl_Chart_hasPeriod.l3, impl_Chart_hasPeriod.b3]; rw [if_pos (by omega), w64_id (by omega), show ((w - p : Nat) : Int) = (w : Int) - p by omega]; rfl)
    (fun k _ => by simp only [impl_Chart_hasPeriod.l3, impl_Chart_hasPeriod.b3]; rw [if_neg (by omega)])
    (fun k r c _ hr hc => by
      simp only [impl_Chart_hasPeriod.l9, impl_Chart_hasPeriod.b9]
      rw [if_pos (by omega), iatN k hw hh hl hr (show c < w by omega), w64_id (x := (c : Int) + p) (by omega), show (c : Int) + p = ((c + p : Nat) : Int) by omega, iatN k hw hh hl hr (show c + p < w by omega)]
      simp only [Option.bind_some]
      by_cases e : l.getD (r * w + c) 0 = l.getD (r * w + (c + p)) 0
      · rw [if_neg (not_not_intro e), if_pos (decide_eq_true e), w64_id (by omega), show ((c + 1 : Nat) : Int) = (c : Int) + 1 by omega]
      · rw [if_pos e, if_neg (by simpa using e)])
    (fun k r _ hr => by simp only [impl_Chart_hasPeriod.l9, impl_Chart_hasPeriod.b9]; rw [if_neg (by omega), w64_id (by omega), show ((r + 1 : Nat) : Int) = (r : Int) + 1 by omega]) k (by
      have := Nat.mul_le_mul (show h + 1 ≤ 9 by omega) (show w - p + 2 ≤ 10 by omega); omega)
  exact this
theorem divB_dec {w h p : Nat} {l : List Int} (hp : 1 ≤ p) : rem (w : Int) (p : Int) = some ((w % p : Nat) : Int) := tmodN w p hp
theorem implPer_eq {w h : Nat} {l : List Int} (hw : 1 ≤ w ∧ w ≤ 8) (hh : 1 ≤ h ∧ h ≤ 8) (hl : l.length = w * h) (k : Nat) (hk : 200 ≤ k) : impl_Chart_period.f k (w : Int) (h : Int) l false = some ((perN w h l : Nat) : Int) := by
  have := least_loop (R := Int) (L := fun k p => impl_Chart_period.l3 k false (w : Int) (h : Int) l (p : Int)) (fin := fun p => some (p : Int)) (ok := perB w h l) (w := w) (K0 := 90) (perB_w w h l)
    (fun k p hk h1 h2 => by
      simp only [impl_Chart_period.l3, impl_Chart_period.b3]
      rw [implHas_eq hw hh hl h2 k hk]; simp only [Option.bind_some]
      cases e : perB w h l p
      · simp only [Bool.not_true, Bool.not_false, cond_true, cond_false, Bool.true_and, Bool.false_and, Bool.and_true, Bool.and_false, Bool.false_eq_true, Bool.true_or, Bool.or_true, Bool.false_or, Bool.or_false, Bool.or_self, Bool.and_self, decide_true, decide_false, if_true, if_false, not_true, not_false_eq_true, not_true_eq_false, false_or, or_false, true_and, and_true, Bool.not_eq_true, Bool.true_eq_false, reduceCtorEq]; rw [w64_id (by omega)]; rfl
      · simp only [Bool.not_true, Bool.not_false, cond_true, cond_false, Bool.true_and, Bool.false_and, Bool.and_true, Bool.and_false, Bool.false_eq_true, Bool.true_or, Bool.or_true, Bool.false_or, Bool.or_false, Bool.or_self, Bool.and_self, decide_true, decide_false, if_true, if_false, not_true, not_false_eq_true, not_true_eq_false, false_or, or_false, true_and, and_true, Bool.not_eq_true, Bool.true_eq_false, reduceCtorEq]) (w - 1) 1 k (by omega) (by omega) (by omega)
  exact this
theorem implDiv_eq {w h : Nat} {l : List Int} (hw : 1 ≤ w ∧ w ≤ 8) (hh : 1 ≤ h ∧ h ≤ 8) (hl : l.length = w * h) (k : Nat) (hk : 200 ≤ k) : impl_Chart_period.f k (w : Int) (h : Int) l true = some ((divN w h l : Nat) : Int) := by
  have := least_loop (R := Int) (L := fun k p => impl_Chart_period.l3 k true (w : Int) (h : Int) l (p : Int)) (fin := fun p => some (p : Int)) (ok := divB w h l) (w := w) (K0 := 90) (divB_w w h l)
    (fun k p hk h1 h2 => by
      simp only [impl_Chart_period.l3, impl_Chart_period.b3]
      rw [implHas_eq hw hh hl h2 k hk, tmodN w p h1]; simp only [Option.bind_some]
      unfold divB
      cases e : perB w h l p
      · simp only [Bool.not_true, Bool.not_false, cond_true, cond_false, Bool.true_and, Bool.false_and, Bool.and_true, Bool.and_false, Bool.false_eq_true, Bool.true_or, Bool.or_true, Bool.false_or, Bool.or_false, Bool.or_self, Bool.and_self, decide_true, decide_false, if_true, if_false, not_true, not_false_eq_true, not_true_eq_false, false_or, or_false, true_and, and_true, Bool.not_eq_true, Bool.true_eq_false, reduceCtorEq]; rw [w64_id (by omega)]; rfl
      · simp only [Bool.not_true, Bool.not_false, cond_true, cond_false, Bool.true_and, Bool.false_and, Bool.and_true, Bool.and_false, Bool.false_eq_true, Bool.true_or, Bool.or_true, Bool.false_or, Bool.or_false, Bool.or_self, Bool.and_self, decide_true, decide_false, if_true, if_false, not_true, not_false_eq_true, not_true_eq_false, false_or, or_false, true_and, and_true, Bool.not_eq_true, Bool.true_eq_false, reduceCtorEq]
        by_cases e2 : w % p = 0
        · rw [if_neg (by omega), if_pos (by simpa using e2)]
        · rw [if_pos (by omega), if_neg (by simpa using e2), w64_id (by omega)]; rfl) (w - 1) 1 k (by omega) (by omega) (by omega)
  exact this
theorem implPart0 {w h R C W H : Nat} {l : List Int} (hw : w ≤ 8) (hh : h ≤ 8) (hl : l.length = w * h) (hC : C + W ≤ w) (hR : R + H ≤ h) (k : Nat) (hk : 200 ≤ k) : impl_Chart_part.f k (w : Int) (h : Int) l (R : Int) (C : Int) (H : Int) (W : Int) = some ((W : Int), (H : Int), partR w R C W l H 0) := by
  have := implPart_eq hw hh hl hC hR H k 0 [] (by omega) (by omega) (by simp; omega)
  rw [List.nil_append] at this
  unfold impl_Chart_part.f impl_Chart_part.m impl_makeChart__impl_Chart_part_1.f impl_makeChart__impl_Chart_part_1.m
  rw [show (0 : Int) = ((0 : Nat) : Int) from rfl] at this
  erw [this]; rfl
theorem specPart0 {w h R C W H : Nat} {l : List Int} (hw : w ≤ 8) (hh : h ≤ 8) (hl : l.length = w * h) (hC : C + W ≤ w) (hR : R + H ≤ h) (k : Nat) (hk : 200 ≤ k) : spec_l2Part.f k (w : Int) (h : Int) l (R : Int) (C : Int) (H : Int) (W : Int) = some ((W : Int), (H : Int), partR w R C W l H 0) := by
  have := specPart_eq hw hh hl hC hR H k 0 [] (by omega) (by omega) (by simp; omega)
  rw [List.nil_append] at this
  exact this
theorem partR_at {w h R C W H : Nat} {l : List Int} (hl : l.length = w * h) (hC : C + W ≤ w) (hR : R + H ≤ h) {r c : Nat} (hr : r < H) (hc : c < W) : (partR w R C W l H 0).getD (r * W + c) 0 = l.getD ((R + r) * w + (C + c)) 0 := by
  rw [← part_getD (p := partR w R C W l H 0) (a := r * W) hc, partR_row hl hC hR H 0 r (by omega) hr, part_getD hc, Nat.zero_add]
  congr 1; omega
theorem eqL_loop {a b : List Int} (hl : a.length = b.length) : (∀ j, j < a.length → a.getD j 0 = b.getD j 0) ↔ a = b := by
  constructor
  · intro h
    apply List.ext_getElem hl
    intro i h1 h2
    have := h i h1
    rwa [getD_lt h1, getD_lt h2] at this
  · rintro rfl j _; rfl
theorem slEq_eq (k : Nat) (a b : List Int) (ha : a.length ≤ 1000) (hk : 1100 ≤ k) : slices_Equal_int_int.f k a b = some (decide (a = b)) := by
  unfold slices_Equal_int_int.f slices_Equal_int_int.m
  by_cases hl : a.length = b.length
  · rw [if_neg (by omega)]
    have h := (all_loop (L := fun k i => slices_Equal_int_int.l6 k a b (a.length : Int) (i : Int)) (n := a.length) (K0 := 20) (ok := fun j => decide (a.getD j 0 = b.getD j 0)) (f := some false) (fun k i hk hi => ?_)) a.length k 0 (by omega) (by omega)
    · rw [show ((0 : Nat) : Int) = 0 from rfl] at h
      by_cases hx : a = b
      · rw [h.1 (some true) (fun k hk => by simp (disch := omega) only [slices_Equal_int_int.l6, slices_Equal_int_int.b6, if_neg]) (fun j _ hj => by rw [hx]; simp), decide_eq_true hx]
      · rw [h.2 (by
          apply Classical.byContradiction; intro hn
          refine hx ((eqL_loop hl).1 fun j hj => ?_)
          apply Classical.byContradiction; intro hj2
          exact hn ⟨j, by omega, hj, decide_eq_false hj2⟩), decide_eq_false hx]
    · simp (disch := omega) only [slices_Equal_int_int.l6, slices_Equal_int_int.b6, if_pos, chk_nat, Option.bind_some, w64_id, Int.natCast_add, Int.cast_ofNat_Int]
      by_cases e : a.getD i 0 = b.getD i 0
      · rw [if_neg (fun h => h e), decide_eq_true e]; rfl
      · rw [if_pos e, decide_eq_false e]; rfl
  · rw [if_pos (by omega), decide_eq_false (fun h => hl (by rw [h]))]
theorem implSame_eq (k : Nat) (w h : Int) (l : List Int) (w' h' : Int) (l' : List Int) (hl : l.length ≤ 1000) (hk : 1200 ≤ k) : impl_sameChart.f k w h l w' h' l' = some (decide ((w, h, l) = (w', h', l'))) := by
  unfold impl_sameChart.f impl_sameChart.m
  rw [slEq_eq k l l' hl (by omega)]; simp only [Option.bind_some]
  by_cases e1 : w = w'
  · by_cases e2 : h = h'
    · rw [if_pos e1, if_pos e2]; subst e1; subst e2; simp
    · rw [if_pos e1, if_neg e2, decide_eq_false (by intro hh; injection hh with _ hh; injection hh with hh _; exact e2 hh)]
  · rw [if_neg e1, decide_eq_false (by intro hh; injection hh with hh _; exact e1 hh)]
def keepS (w h : Int) (l : List Int) (s : Nat) : Bool := decide ((w, h, l) = moveR w h l s)
def symsN (w h : Int) (l : List Int) (n : Nat) : List Nat := (List.range n).filter (keepS w h l)
theorem symsN_succ (w h : Int) (l : List Int) (n : Nat) : symsN w h l (n + 1) = if keepS w h l n then symsN w h l n ++ [n] else symsN w h l n := by
  unfold symsN; rw [List.range_succ, List.filter_append]
  cases hk : keepS w h l n <;> simp [hk]
theorem symsN_len (w h : Int) (l : List Int) (n : Nat) : (symsN w h l n).length ≤ n := Nat.le_trans (List.length_filter_le _ _) (by simp)
theorem keep_len {w h : Int} {l : List Int} (ok : okC w h l) (s : Int) : w = (moveR w h l s).1 → h = (moveR w h l s).2.1 → l.length = (moveR w h l s).2.2.length := by
  intro e1 e2
  have := (move_ok s ok).2.2
  rw [← e1, ← e2] at this
  have := ok.2.2
  omega
theorem find_any {β : Type} {L : Nat → Nat → Option Int} {xs : List β} {d : β} {K0 : Nat} {ok : β → Bool} (hs : ∀ k i, K0 ≤ k → i < xs.length → L (k + 1) i = if ok (xs.getD i d) = true then some (i : Int) else L k (i + 1)) (he : ∀ k, K0 ≤ k → L (k + 1) xs.length = some (-1)) (k : Nat) (hk : K0 + xs.length < k) : ∃ r, L k 0 = some r ∧ decide (0 ≤ r) = xs.any ok := by
  have h := find_loop (ok := fun i => ok (xs.getD i d)) hs he xs.length k 0 (by omega) hk
  by_cases ha : xs.any ok = true
  · obtain ⟨x, hx, ho⟩ := List.any_eq_true.1 ha
    obtain ⟨j, hj, e⟩ := List.getElem_of_mem hx
    obtain ⟨m, h1, h2, h3⟩ := first_bad (n := xs.length) (ok := fun i => !ok (xs.getD i d)) (fun hn => by
      have := hn j hj
      rw [getD_lt hj, e, ho] at this; cases this)
    refine ⟨_, h.2 m (Nat.zero_le _) h1 (by cases e2 : ok (xs.getD m d) <;> simp_all) (fun j _ hj => by have := h3 j hj; cases e2 : ok (xs.getD j d) <;> simp_all), ?_⟩
    rw [ha]; simp
  · refine ⟨_, h.1 (fun j _ hj => ?_), ?_⟩
    · apply notB
      intro ho
      exact ha (List.any_eq_true.2 ⟨_, by rw [getD_lt hj]; exact List.getElem_mem hj, ho⟩)
    · rw [notB ha]; rfl
def colsR (m : Int → Int → Bool) : Nat → Int → Int → List (Int × Int) → List (Int × Int)
  | 0, _, _, acc => acc
  | d + 1, row, col, acc => colsR m d row (col + 1) (if m row col = true then acc ++ [(row, col)] else acc)
def rowsR (m : Int → Int → Bool) (nc : Nat) : Nat → Int → List (Int × Int) → List (Int × Int)
  | 0, _, acc => acc
  | d + 1, row, acc => rowsR m nc d (row + 1) (colsR m nc row 0 acc)
theorem colsR_len (m : Int → Int → Bool) : ∀ (d : Nat) (row col : Int) (acc : List (Int × Int)), (colsR m d row col acc).length ≤ acc.length + d := by
  intro d
  induction d with
  | zero => intro row col acc; simp [colsR]
  | succ d ih => intro row col acc; simp only [colsR]; refine Nat.le_trans (ih _ _ _) ?_; split <;> simp <;> omega
theorem rowsR_len (m : Int → Int → Bool) (nc : Nat) : ∀ (d : Nat) (row : Int) (acc : List (Int × Int)), (rowsR m nc d row acc).length ≤ acc.length + d * nc := by
  intro d
  induction d with
  | zero => intro row acc; simp [rowsR]
  | succ d ih => intro row acc; simp only [rowsR]; refine Nat.le_trans (ih _ _) ?_; have := colsR_len m nc row 0 acc; rw [Nat.add_mul]; omega
theorem colsR_mem (m : Int → Int → Bool) : ∀ (d : Nat) (row col : Int) (acc : List (Int × Int)) (p : Int × Int), p ∈ colsR m d row col acc ↔ p ∈ acc ∨ (p.1 = row ∧ (col ≤ p.2 ∧ p.2 < col + d) ∧ m p.1 p.2 = true) := by
  intro d
  induction d with
  | zero => intro row col acc p; simp only [colsR]; exact ⟨.inl, fun h => h.elim id (fun h => by omega)⟩
  | succ d ih =>
    intro row col acc p
    simp only [colsR]
    rw [ih]
    obtain ⟨a, b⟩ := p
    dsimp only
    by_cases e : m row col = true
    · rw [if_pos e, List.mem_append, List.mem_singleton, Prod.mk.injEq]
      constructor
      · rintro ((h | ⟨rfl, rfl⟩) | ⟨rfl, h, h2⟩)
        · exact .inl h
        · exact .inr ⟨rfl, by omega, e⟩
        · exact .inr ⟨rfl, by omega, h2⟩
      · rintro (h | ⟨rfl, h, h2⟩)
        · exact .inl (.inl h)
        · by_cases hb : b = col
          · exact .inl (.inr ⟨rfl, hb⟩)
          · exact .inr ⟨rfl, by omega, h2⟩
    · rw [if_neg e]
      constructor
      · rintro (h | ⟨rfl, h, h2⟩)
        · exact .inl h
        · exact .inr ⟨rfl, by omega, h2⟩
      · rintro (h | ⟨rfl, h, h2⟩)
        · exact .inl h
        · by_cases hb : b = col
          · subst hb; exact absurd h2 e
          · exact .inr ⟨rfl, by omega, h2⟩
theorem rowsR_mem (m : Int → Int → Bool) (nc : Nat) : ∀ (d : Nat) (row : Int) (acc : List (Int × Int)) (p : Int × Int), p ∈ rowsR m nc d row acc ↔ p ∈ acc ∨ ((row ≤ p.1 ∧ p.1 < row + d) ∧ (0 ≤ p.2 ∧ p.2 < nc) ∧ m p.1 p.2 = true) := by
  intro d
  induction d with
  | zero => intro row acc p; simp only [rowsR]; exact ⟨.inl, fun h => h.elim id (fun h => by omega)⟩
  | succ d ih =>
    intro row acc p
    simp only [rowsR]
    rw [ih, colsR_mem]
    constructor
    · rintro ((h | ⟨h1, h2, h3⟩) | ⟨h1, h2, h3⟩)
      · exact .inl h
      · exact .inr ⟨by omega, by omega, h3⟩
      · exact .inr ⟨by omega, by omega, h3⟩
    · rintro (h | ⟨h1, h2, h3⟩)
      · exact .inl (.inl h)
      · by_cases hb : p.1 = row
        · exact .inl (.inr ⟨hb, by omega, h3⟩)
        · exact .inr ⟨by omega, by omega, h3⟩
/-- Two loops over all places of a window. -/
theorem places_loop (L0 : Nat → List (Int × Int) → Int → Option (List (Int × Int))) (L1 : Nat → List (Int × Int) → Int → Int → Option (List (Int × Int))) (w h mw mh : Int) (m : Int → Int → Bool) (hw : 1 ≤ w ∧ w ≤ 8) (hh : 1 ≤ h ∧ h ≤ 8) (hmw : 1 ≤ mw ∧ mw ≤ 8) (hmh : 1 ≤ mh ∧ mh ≤ 8)
    (h0 : ∀ k acc row, L0 (k + 1) acc row = if w64 (row + mh) ≤ h then L1 k acc row 0 else some acc)
    (h1 : ∀ k acc row col, 1500 ≤ k → 0 ≤ row → row + mh ≤ h → 0 ≤ col → col ≤ 8 → L1 (k + 1) acc row col = if w64 (col + mw) ≤ w then cond (m row col) ((app 8796093022208 acc [(row, col)]).bind fun l => L1 k l row (w64 (col + 1))) (L1 k acc row (w64 (col + 1))) else L0 k acc (w64 (row + 1))) :
    ∀ k, 2000 ≤ k → L0 k [] 0 = some (rowsR m (w - mw + 1).toNat (h - mh + 1).toNat 0 []) := by
  have row_ : ∀ (d k : Nat) (row col : Int) (acc : List (Int × Int)), 0 ≤ row → row + mh ≤ h → 0 ≤ col → col + d = max (w - mw + 1) 0 → acc.length + d ≤ 1000 → 1500 + d < k → ∃ k', k' + d + 1 = k ∧ L1 k acc row col = L0 k' (colsR m d row col acc) (row + 1) := by
    intro d
    induction d with
    | zero =>
      intro k row col acc hr hr2 hc hd hl hk
      obtain ⟨k, rfl⟩ := succ_of (show 0 < k by omega)
      refine ⟨k, rfl, ?_⟩
      rw [h1 k acc row col (by omega) hr hr2 hc (by omega), w64_id (x := col + mw) (by omega), if_neg (by omega), w64_id (by omega)]; rfl
    | succ d ih =>
      intro k row col acc hr hr2 hc hd hl hk
      obtain ⟨k, rfl⟩ := succ_of (show 0 < k by omega)
      rw [h1 k acc row col (by omega) hr hr2 hc (by omega), w64_id (x := col + mw) (by omega), if_pos (by omega), w64_id (x := col + 1) (by omega)]
      simp only [colsR]
      by_cases e : m row col = true
      · rw [e, if_pos rfl, app_ok (by simp; omega)]; simp only [cond_true, Option.bind_some]
        obtain ⟨k', e1, e2⟩ := ih k row (col + 1) (acc ++ [(row, col)]) hr hr2 (by omega) (by omega) (by simp; omega) (by omega)
        exact ⟨k', by omega, e2⟩
      · rw [notB e, if_neg (by simp)]; simp only [cond_false]
        obtain ⟨k', e1, e2⟩ := ih k row (col + 1) acc hr hr2 (by omega) (by omega) (by omega) (by omega)
        exact ⟨k', by omega, e2⟩
  have all_ : ∀ (d k : Nat) (row : Int) (acc : List (Int × Int)), 0 ≤ row → row + d = max (h - mh + 1) 0 → acc.length + 8 * d ≤ 500 → 1510 + 11 * d ≤ k → L0 k acc row = some (rowsR m (w - mw + 1).toNat d row acc) := by
    intro d
    induction d with
    | zero =>
      intro k row acc hr hd hl hk
      obtain ⟨k, rfl⟩ := succ_of (show 0 < k by omega)
      rw [h0, w64_id (by omega), if_neg (by omega)]; rfl
    | succ d ih =>
      intro k row acc hr hd hl hk
      obtain ⟨k, rfl⟩ := succ_of (show 0 < k by omega)
      rw [h0, w64_id (by omega), if_pos (by omega)]
      obtain ⟨k', e1, e2⟩ := row_ (w - mw + 1).toNat k row 0 acc hr (by omega) (by omega) (by omega) (by omega) (by omega)
      rw [e2]
      have hcl := colsR_len m (w - mw + 1).toNat row 0 acc
      rw [ih k' (row + 1) _ (by omega) (by omega) (by omega) (by omega)]
      rfl
  intro k hk
  exact all_ _ k 0 [] (by omega) (by omega) (by simp; omega) (by omega)
def placesR (w h : Int) (l : List Int) (mw mh : Int) (ml : List Int) : List (Int × Int) := rowsR (fun r c => decide (partR w.toNat r.toNat c.toNat mw.toNat l mh.toNat 0 = ml)) (w - mw + 1).toNat (h - mh + 1).toNat 0 []
theorem placesR_len {w h : Int} {l : List Int} {mw mh : Int} {ml : List Int} (ok : okC w h l) (okm : okC mw mh ml) : (placesR w h l mw mh ml).length ≤ 64 := by
  unfold placesR
  refine Nat.le_trans (rowsR_len _ _ _ _ _) ?_
  have a := ok.1; have b := ok.2.1; have c := okm.1; have d := okm.2.1
  have h1 : (w - mw + 1).toNat ≤ 8 := by omega
  have h2 : (h - mh + 1).toNat ≤ 8 := by omega
  have := Nat.mul_le_mul h2 h1
  simpa using this
theorem placesR_mem {w h : Int} {l : List Int} {mw mh : Int} {ml : List Int} (p : Int × Int) : p ∈ placesR w h l mw mh ml ↔ (0 ≤ p.1 ∧ p.1 < (h - mh + 1).toNat) ∧ (0 ≤ p.2 ∧ p.2 < (w - mw + 1).toNat) ∧ partR w.toNat p.1.toNat p.2.toNat mw.toNat l mh.toNat 0 = ml := by
  unfold placesR
  rw [rowsR_mem]
  simp
theorem placesR_bd {w h : Int} {l : List Int} {mw mh : Int} {ml : List Int} (ok : okC w h l) (okm : okC mw mh ml) : ∀ p ∈ placesR w h l mw mh ml, (0 ≤ p.1 ∧ p.1 ≤ 8) ∧ 0 ≤ p.2 ∧ p.2 ≤ 8 := by
  intro p hp
  rw [placesR_mem] at hp
  have a := ok.1; have b := ok.2.1; have c := okm.1; have d := okm.2.1
  omega
theorem partI {w h R C W H : Int} {l : List Int} (ok : okC w h l) (hR : 0 ≤ R) (hC : 0 ≤ C) (hW : 1 ≤ W) (hH : 1 ≤ H) (hRH : R + H ≤ h) (hCW : C + W ≤ w) (k : Nat) (hk : 200 ≤ k) : impl_Chart_part.f k w h l R C H W = some (W, H, partR w.toNat R.toNat C.toNat W.toNat l H.toNat 0) ∧ spec_l2Part.f k w h l R C H W = some (W, H, partR w.toNat R.toNat C.toNat W.toNat l H.toNat 0) ∧ (partR w.toNat R.toNat C.toNat W.toNat l H.toNat 0).length = H.toNat * W.toNat := by
  obtain ⟨hw, hh, hl⟩ := ok
  obtain ⟨w, rfl⟩ := Int.eq_ofNat_of_zero_le (show 0 ≤ w by omega)
  obtain ⟨h, rfl⟩ := Int.eq_ofNat_of_zero_le (show 0 ≤ h by omega)
  obtain ⟨W, rfl⟩ := Int.eq_ofNat_of_zero_le (show 0 ≤ W by omega)
  obtain ⟨H, rfl⟩ := Int.eq_ofNat_of_zero_le (show 0 ≤ H by omega)
  obtain ⟨R, rfl⟩ := Int.eq_ofNat_of_zero_le hR
  obtain ⟨C, rfl⟩ := Int.eq_ofNat_of_zero_le hC
  simp only [Int.toNat_natCast]
  exact ⟨implPart0 (by omega) (by omega) (lenN hl) (by omega) (by omega) k hk, specPart0 (by omega) (by omega) (lenN hl) (by omega) (by omega) k hk, partR_len (h := h) (H := H) (lenN hl) (by omega) (by omega) H 0 (by omega)⟩
theorem okC_lenN {w h : Int} {l : List Int} (ok : okC w h l) : l.length = h.toNat * w.toNat := by
  obtain ⟨hw, hh, hl⟩ := ok
  obtain ⟨w, rfl⟩ := Int.eq_ofNat_of_zero_le (show 0 ≤ w by omega)
  obtain ⟨h, rfl⟩ := Int.eq_ofNat_of_zero_le (show 0 ≤ h by omega)
  simp only [Int.toNat_natCast]
  rw [lenN hl, Nat.mul_comm]
theorem implPlaces_eq {w h : Int} {l : List Int} {mw mh : Int} {ml : List Int} (ok : okC w h l) (okm : okC mw mh ml) (k : Nat) (hk : 2000 ≤ k) : impl_Chart_places.f k w h l mw mh ml = some (placesR w h l mw mh ml) := by
  unfold impl_Chart_places.f impl_Chart_places.m placesR
  refine places_loop (fun k acc row => impl_Chart_places.l4 k w h l mw mh ml acc row) (fun k acc row col => impl_Chart_places.l9 k w h l mw mh ml acc row col) w h mw mh _ ok.1 ok.2.1 okm.1 okm.2.1 (fun k acc row => by simp only [impl_Chart_places.l4, impl_Chart_places.b4]) ?_ k hk
  intro k acc row col hk hr hr2 hc hc8
  have a := ok.1; have b := okm.1; have b2 := okm.2.1
  simp only [impl_Chart_places.l9, impl_Chart_places.b9]
  rw [w64_id (x := col + mw) (by omega)]
  by_cases e : col + mw ≤ w
  · obtain ⟨p1, _, p3⟩ := partI ok hr hc b.1 b2.1 hr2 e k (by omega)
    rw [if_pos e, if_pos e, p1]; simp only [Option.bind_some]
    rw [implSame_eq k mw mh _ mw mh ml (by rw [p3, ← okC_lenN okm]; have := okC_len okm; omega) (by omega)]; simp only [Option.bind_some]
    rw [decide_eq_decide.2 (show ((mw, mh, partR w.toNat row.toNat col.toNat mw.toNat l mh.toNat 0) = (mw, mh, ml)) ↔ partR w.toNat row.toNat col.toNat mw.toNat l mh.toNat 0 = ml from ⟨fun h => by injection h with _ h; injection h with _ h, fun h => by rw [h]⟩)]
  · rw [if_neg e, if_neg e]
def apartB (mw mh : Int) (p q : Int × Int) : Bool := decide (mh ≤ max (p.1 - q.1) (0 - (p.1 - q.1))) || decide (mw ≤ max (p.2 - q.2) (0 - (p.2 - q.2)))
def takeR (mw mh : Int) : List (Int × Int) → List (Int × Int) → List (Int × Int)
  | [], t => t
  | p :: r, t => takeR mw mh r (if t.all (apartB mw mh p) = true then t ++ [p] else t)
theorem takeR_len (mw mh : Int) : ∀ (r t : List (Int × Int)), t.length ≤ (takeR mw mh r t).length ∧ (takeR mw mh r t).length ≤ t.length + r.length
  | [], t => by simp [takeR]
  | p :: r, t => by
    simp only [takeR, List.length_cons]
    by_cases e : t.all (apartB mw mh p) = true
    · rw [if_pos e]; have := takeR_len mw mh r (t ++ [p]); rw [List.length_append, List.length_singleton] at this; omega
    · rw [if_neg e]; have := takeR_len mw mh r t; omega
def smallP (p : Int × Int) : Prop := (0 ≤ p.1 ∧ p.1 ≤ 8) ∧ 0 ≤ p.2 ∧ p.2 ≤ 8
theorem apart_eq (k : Nat) (mw mh : Int) (ml : List Int) (p q : Int × Int) (hp : smallP p) (hq : smallP q) : impl_ApartPlaces_1.f k q.1 q.2 p.1 p.2 mw mh ml = some (apartB mw mh p q) := by
  obtain ⟨p1, p2⟩ := hp
  obtain ⟨q1, q2⟩ := hq
  unfold impl_ApartPlaces_1.f impl_ApartPlaces_1.m impl_abs.f impl_abs.m apartB
  simp only [Option.bind_some]
  rw [w64_id (x := p.1 - q.1) (by omega), w64_id (x := 0 - (p.1 - q.1)) (by omega), w64_id (x := p.2 - q.2) (by omega), w64_id (x := 0 - (p.2 - q.2)) (by omega)]
  by_cases e : mh ≤ max (p.1 - q.1) (0 - (p.1 - q.1))
  · rw [if_pos e, decide_eq_true e]; rfl
  · rw [if_neg e, decide_eq_false e]; rfl
theorem allApart_eq (k : Nat) (mw mh : Int) (ml : List Int) (p : Int × Int) (hp : smallP p) (t : List (Int × Int)) (ht : ∀ q ∈ t, smallP q) (hl : t.length ≤ 1000) (hk : 1100 ≤ k) : impl_areAll_2_int__impl_ApartPlaces_1.f k t p.1 p.2 mw mh ml = some (t.all (apartB mw mh p)) := by
  unfold impl_areAll_2_int__impl_ApartPlaces_1.f impl_areAll_2_int__impl_ApartPlaces_1.m slices_ContainsFunc_2_int_2_int__impl_areAll_2_int_1__impl_ApartPlaces_1.f slices_ContainsFunc_2_int_2_int__impl_areAll_2_int_1__impl_ApartPlaces_1.m slices_IndexFunc_2_int_2_int__impl_areAll_2_int_1__impl_ApartPlaces_1.f slices_IndexFunc_2_int_2_int__impl_areAll_2_int_1__impl_ApartPlaces_1.m
  obtain ⟨r, h1, h2⟩ := find_any (L := fun k i => slices_IndexFunc_2_int_2_int__impl_areAll_2_int_1__impl_ApartPlaces_1.l3 k t p.1 p.2 mw mh ml (t.length : Int) (i : Int)) (xs := t) (d := (0, 0)) (K0 := 20) (ok := fun q => !apartB mw mh p q) (fun k i hk hi => by
      have hq : smallP (t.getD i (0, 0)) := by rw [getD_lt hi]; exact ht _ (List.getElem_mem hi)
      simp (disch := omega) only [slices_IndexFunc_2_int_2_int__impl_areAll_2_int_1__impl_ApartPlaces_1.l3, slices_IndexFunc_2_int_2_int__impl_areAll_2_int_1__impl_ApartPlaces_1.b3, if_pos, chk_nat, Option.bind_some, w64_id, impl_areAll_2_int_1__impl_ApartPlaces_1.f, impl_areAll_2_int_1__impl_ApartPlaces_1.m, apart_eq _ _ _ _ _ _ hp hq, Int.natCast_add, Int.cast_ofNat_Int]
      cases apartB mw mh p (t.getD i (0, 0)) <;> simp only [Bool.not_true, Bool.not_false, cond_true, cond_false, Bool.true_and, Bool.false_and, Bool.and_true, Bool.and_false, Bool.false_eq_true, Bool.true_or, Bool.or_true, Bool.false_or, Bool.or_false, Bool.or_self, Bool.and_self, decide_true, decide_false, if_true, if_false, not_true, not_false_eq_true, not_true_eq_false, false_or, or_false, true_and, and_true, Bool.not_eq_true, Bool.true_eq_false, reduceCtorEq])
    (fun k hk => by simp (disch := omega) only [slices_IndexFunc_2_int_2_int__impl_areAll_2_int_1__impl_ApartPlaces_1.l3, slices_IndexFunc_2_int_2_int__impl_areAll_2_int_1__impl_ApartPlaces_1.b3, if_neg]) k (by omega)
  rw [show ((0 : Nat) : Int) = 0 from rfl] at h1
  rw [h1]; simp only [Option.bind_some]
  rw [h2, List.all_eq_not_any_not]
theorem implApart_l (mw mh : Int) (ml : List Int) (all : List (Int × Int)) (ha : ∀ q ∈ all, smallP q) (hl : all.length ≤ 100) : ∀ (d k i : Nat) (t : List (Int × Int)), i + d = all.length → (∀ q ∈ t, smallP q) → t.length ≤ i → 1200 + d < k → impl_ApartPlaces.l7 k mw mh ml t all (all.length : Int) (i : Int) = some (((takeR mw mh (all.drop i) t).length : Int), true) := by
  intro d
  induction d with
  | zero =>
    intro k i t h1 h2 h3 h4
    obtain ⟨k, rfl⟩ := succ_of (show 0 < k by omega)
    rw [List.drop_of_length_le (by omega)]
    simp (disch := omega) only [impl_ApartPlaces.l7, impl_ApartPlaces.b7, if_neg, takeR]
  | succ d ih =>
    intro k i t h1 h2 h3 h4
    obtain ⟨k, rfl⟩ := succ_of (show 0 < k by omega)
    have hi : i < all.length := by omega
    have hp : smallP (all.getD i (0, 0)) := by rw [getD_lt hi]; exact ha _ (List.getElem_mem hi)
    simp (disch := omega) only [impl_ApartPlaces.l7, impl_ApartPlaces.b7, if_pos, chk_nat, Option.bind_some]
    rw [allApart_eq k mw mh ml _ hp t h2 (by omega) (by omega)]; simp only [Option.bind_some]
    rw [List.drop_eq_getElem_cons hi, ← getD_lt (d := ((0 : Int), (0 : Int))) hi]
    simp only [takeR]
    rw [w64_id (x := (i : Int) + 1) (by omega), show (i : Int) + 1 = ((i + 1 : Nat) : Int) by omega]
    cases e : t.all (apartB mw mh (all.getD i (0, 0)))
    · simp only [Bool.not_true, Bool.not_false, cond_true, cond_false, Bool.true_and, Bool.false_and, Bool.and_true, Bool.and_false, Bool.false_eq_true, Bool.true_or, Bool.or_true, Bool.false_or, Bool.or_false, Bool.or_self, Bool.and_self, decide_true, decide_false, if_true, if_false, not_true, not_false_eq_true, not_true_eq_false, false_or, or_false, true_and, and_true, Bool.not_eq_true, Bool.true_eq_false, reduceCtorEq]
      exact ih k (i + 1) t (by omega) h2 (by omega) (by omega)
    · simp only [Bool.not_true, Bool.not_false, cond_true, cond_false, Bool.true_and, Bool.false_and, Bool.and_true, Bool.and_false, Bool.false_eq_true, Bool.true_or, Bool.or_true, Bool.false_or, Bool.or_false, Bool.or_self, Bool.and_self, decide_true, decide_false, if_true, if_false, not_true, not_false_eq_true, not_true_eq_false, false_or, or_false, true_and, and_true, Bool.not_eq_true, Bool.true_eq_false, reduceCtorEq]
      rw [app_ok (by simp; omega)]; simp only [Option.bind_some]
      exact ih k (i + 1) _ (by omega) (fun q hq => by
        rw [List.mem_append, List.mem_singleton] at hq
        rcases hq with hq | rfl
        · exact h2 q hq
        · exact hp) (by simp; omega) (by omega)
theorem takeR_pos (mw mh : Int) (all : List (Int × Int)) : (0 < (takeR mw mh all []).length) ↔ 0 < all.length := by
  cases all with
  | nil => simp [takeR]
  | cons p r =>
    simp only [takeR, List.all_nil, if_true, List.nil_append, List.length_cons]
    have := (takeR_len mw mh r [p]).1
    simp only [List.length_singleton] at this
    omega
theorem vInts_self (k : Nat) (c : List Int) (hl : c.length ≤ 1000) (hk : 1100 ≤ k) : laws_vInts.f k c c = some true := by
  unfold laws_vInts.f laws_vInts.m
  have h := (all_loop (L := fun k i => laws_vInts.l6 k c c (i : Int)) (n := c.length) (K0 := 20) (ok := fun _ => true) (f := some false) (fun k i hk hi => ?_)) c.length k 0 (by omega) (by omega)
  · rw [show ((0 : Nat) : Int) = 0 from rfl] at h
    simp only [Bool.not_true, Bool.not_false, cond_true, cond_false, Bool.true_and, Bool.false_and, Bool.and_true, Bool.and_false, Bool.false_eq_true, Bool.true_or, Bool.or_true, Bool.false_or, Bool.or_false, Bool.or_self, Bool.and_self, decide_true, decide_false, if_true, if_false, not_true, not_false_eq_true, not_true_eq_false, false_or, or_false, true_and, and_true, Bool.not_eq_true, Bool.true_eq_false, reduceCtorEq]
    exact h.1 (some true) (fun k hk => by simp (disch := omega) only [laws_vInts.l6, laws_vInts.b6, if_neg]) (fun _ _ _ => rfl)
  · simp (disch := omega) only [laws_vInts.l6, laws_vInts.b6, if_pos, chk_nat, Option.bind_some, w64_id, Bool.not_true, Bool.not_false, cond_true, cond_false, Bool.true_and, Bool.false_and, Bool.and_true, Bool.and_false, Bool.false_eq_true, Bool.true_or, Bool.or_true, Bool.false_or, Bool.or_false, Bool.or_self, Bool.and_self, decide_true, decide_false, if_true, if_false, not_true, not_false_eq_true, not_true_eq_false, false_or, or_false, true_and, and_true, Bool.not_eq_true, Bool.true_eq_false, reduceCtorEq, Int.natCast_add, Int.cast_ofNat_Int]
theorem vChart_self (k : Nat) (w h : Int) (l : List Int) (hl : l.length ≤ 1000) (hk : 1100 ≤ k) : laws_vChart.f k w h l w h l = some true := by
  unfold laws_vChart.f laws_vChart.m
  rw [vInts_self k l hl hk]; simp only [Bool.not_true, Bool.not_false, cond_true, cond_false, Bool.true_and, Bool.false_and, Bool.and_true, Bool.and_false, Bool.false_eq_true, Bool.true_or, Bool.or_true, Bool.false_or, Bool.or_false, Bool.or_self, Bool.and_self, decide_true, decide_false, if_true, if_false, not_true, not_false_eq_true, not_true_eq_false, false_or, or_false, true_and, and_true, Bool.not_eq_true, Bool.true_eq_false, reduceCtorEq, Option.bind_some]
theorem motif_ok (k : Nat) {l : List Int} {a : Int} (s : Int) (hb : By l) (ha : 0 ≤ a ∧ a ≤ 500000) (hk : 2000 ≤ k) : Yl (spec_l1Cur_motif.f k l a s) fun r => r.2.2.2.1 = l ∧ (r.2.2.1.length ≤ 300 ∧ a ≤ r.2.2.2.2.1 ∧ r.2.2.2.2.1 ≤ a + 4000) := by
  unfold spec_l1Cur_motif.f spec_l1Cur_motif.m
  (refine Yl.bind (one_ok _ _ _ (by assumption) (by omega) (by omega)) ?_; rintro ⟨vq, lq, aq, sq⟩ ⟨eq1, eq2, eq3⟩; dsimp only at *; subst eq1)
  refine Yl.cond (fun _ => ?_) fun _ => ?_
  · refine Yl.bind (chart_ok k _ hb (by omega) hk) ?_
    rintro ⟨w, h, kn, l', a', s'⟩ ⟨e1, e2, e3⟩
    dsimp only at *; subst e1
    exact Yl.ret ⟨rfl, by dsimp only; omega⟩
  · (refine Yl.bind (among_ok _ _ 1 3 (by simp) (by intro x hx; simp at hx; omega) (by assumption) (by omega) (by omega)) ?_; rintro ⟨vq, lq, aq, sq, xq⟩ ⟨eq1, eq2, eq3, eq4, eq5, eq6⟩; dsimp only at *; subst eq1; subst eq2)
    (refine Yl.bind (among_ok _ _ 1 3 (by simp) (by intro x hx; simp at hx; omega) (by assumption) (by omega) (by omega)) ?_; rintro ⟨vq, lq, aq, sq, xq⟩ ⟨eq1, eq2, eq3, eq4, eq5, eq6⟩; dsimp only at *; subst eq1; subst eq2)
    refine Yl.bind (plain_ok k _ (by omega) (by omega) hb (by omega) (by omega)) ?_
    rintro ⟨w', h', kn, l', a3, s3⟩ ⟨g1, g2, e1, g3, g4, g5⟩
    dsimp only at *; subst e1; subst g1; subst g2
    have hm := mul_bd (w := w') (h := h') (by omega) (by omega)
    exact Yl.ret ⟨rfl, by dsimp only; omega⟩
theorem repOut_pos {w h : Int} {l : List Int} {x y : Int} (hc : (repOut w h l x y).2.2.2 = true) : 1 ≤ (repOut w h l x y).2.2.1.length ∧ (repOut w h l x y).2.2.1.length ≤ 64 := by
  unfold repOut at *
  by_cases hr : repC w h l x y
  · rw [if_pos hr]
    obtain ⟨hg, ⟨h1, h2⟩, h3, h4⟩ := hr
    obtain ⟨hw, hh, _⟩ := good_of hg
    have b1 := side_mul hw.1 h1
    have b2 := side_mul hh.1 h3
    unfold repL
    rw [gridL_len]
    have a1 : 1 ≤ (x * w).toNat ∧ (x * w).toNat ≤ 8 := by omega
    have a2 : 1 ≤ (y * h).toNat ∧ (y * h).toNat ≤ 8 := by omega
    exact ⟨Nat.mul_le_mul a1.1 a2.1, Nat.mul_le_mul a1.2 a2.2⟩
  · rw [if_neg hr] at hc; cases hc
def smallL (w h : Nat) (l : List Int) : List Int := partR w 0 0 (divN w h l) l (divN h w (turnL w h l)) 0
theorem turn_at {w h : Nat} {l : List Int} {x r : Nat} (hx : x < h) (hr : r < w) : (turnL (w : Int) (h : Int) l).getD (r * h + (h - 1 - x)) 0 = l.getD (x * w + r) 0 := by
  rw [turnN, grid_at hr (by omega)]
  unfold atL
  rw [show (h : Int) - 1 - ((h - 1 - x : Nat) : Int) = (x : Int) by omega, ← Int.natCast_mul, ← Int.natCast_add, Int.toNat_natCast]
theorem vper {w h p : Nat} {l : List Int} (hp : perB h w (turnL (w : Int) (h : Int) l) p = true) (h1 : 1 ≤ p) : ∀ x r, r < w → x < h → l.getD (x * w + r) 0 = l.getD (x % p * w + r) 0 := by
  intro x
  induction x using Nat.strongRecOn with
  | _ x ih =>
    intro r hr hx
    by_cases hlt : x < p
    · rw [Nat.mod_eq_of_lt hlt]
    · have h2 := perB_iff.1 hp r (h - 1 - x) hr (by omega)
      rw [turn_at hx hr, show h - 1 - x + p = h - 1 - (x - p) by omega, turn_at (by omega) hr] at h2
      have h3 : x % p = (x - p) % p := Nat.mod_eq_sub_mod (by omega)
      rw [h2, h3]
      exact ih (x - p) (by omega) r hr (by omega)
theorem small_all {w h : Nat} {l : List Int} (hg : goodB (w : Int) (h : Int) l = true) : ((1 ≤ divN w h l ∧ divN w h l ≤ w) ∧ w % divN w h l = 0) ∧ ((1 ≤ divN h w (turnL w h l) ∧ divN h w (turnL w h l) ≤ h) ∧ h % divN h w (turnL w h l) = 0) ∧ goodB ((divN w h l : Nat) : Int) ((divN h w (turnL w h l) : Nat) : Int) (smallL w h l) = true ∧
    gridL w h (fun r c => (smallL w h l).getD (r % divN h w (turnL w h l) * divN w h l + c % divN w h l) 0) = l := by
  obtain ⟨hw, hh, hlen, hcol⟩ := good_of hg
  have hl := lenN hlen
  obtain ⟨a1, a2, a3⟩ := divN_of (w := w) (h := h) (l := l) (by omega)
  obtain ⟨b1, b2, b3⟩ := divN_of (w := h) (h := w) (l := turnL w h l) (by omega)
  unfold smallL
  generalize divN w h l = p at *
  generalize divN h w (turnL w h l) = q at *
  refine ⟨⟨a1, a2⟩, ⟨b1, b2⟩, ?_, ?_⟩
  · unfold goodB
    rw [inB_of (by omega), inB_of (by omega), partR_len (h := h) (H := q) hl (by omega) (by omega) q 0 (by omega)]
    simp only [Bool.true_and, Bool.and_eq_true, decide_eq_true_eq, List.all_eq_true]
    refine ⟨by rw [nat_mul_cast, Int.mul_comm], fun x hx => ?_⟩
    exact inB_of (hcol x (partR_mem _ _ x hx))
  · refine (grid_ext hl (by omega) fun r c hr hc => ?_).symm
    have m1 : r % q < q := Nat.mod_lt _ (by omega)
    have m2 : c % p < p := Nat.mod_lt _ (by omega)
    rw [partR_at hl (by omega) (by omega) m1 m2, Nat.zero_add, Nat.zero_add, ← per_mod a3 a1.1 c (r % q) (by omega) hc, ← vper b3 b1.1 r c hc hr]
theorem implSmall_eq {w h : Nat} {l : List Int} (hg : goodB (w : Int) (h : Int) l = true) (k : Nat) (hk : 1000 ≤ k) : impl_SmallestMotif.f k w h l = some (((divN w h l : Nat) : Int), ((divN h w (turnL w h l) : Nat) : Int), smallL w h l, true) := by
  obtain ⟨⟨a1, a2⟩, ⟨b1, b2⟩, _⟩ := small_all hg
  obtain ⟨hw, hh, hlen, hcol⟩ := good_of hg
  have hl := lenN hlen
  have ok := good_ok hg
  have h64 := okC_len ok
  have hl' : (turnL w h l).length = h * w := by have := turnL_len ok; rw [← nat_mul_cast] at this; omega
  unfold impl_SmallestMotif.f impl_SmallestMotif.m
  rw [isChart_eq k _ _ l (by omega) (by omega), hg, implTurn_eq ok k (by omega)]; simp only [Option.bind_some, Bool.not_true, Bool.not_false, cond_true, cond_false, Bool.true_and, Bool.false_and, Bool.and_true, Bool.and_false, Bool.false_eq_true, Bool.true_or, Bool.or_true, Bool.false_or, Bool.or_false, Bool.or_self, Bool.and_self, decide_true, decide_false, if_true, if_false, not_true, not_false_eq_true, not_true_eq_false, false_or, or_false, true_and, and_true, Bool.not_eq_true, Bool.true_eq_false, reduceCtorEq]
  rw [implDiv_eq (by omega) (by omega) hl' k (by omega), implDiv_eq (by omega) (by omega) hl k (by omega)]; simp only [Option.bind_some]
  have := implPart0 (R := 0) (C := 0) (show w ≤ 8 by omega) (show h ≤ 8 by omega) hl (show 0 + divN w h l ≤ w by omega) (show 0 + divN h w (turnL w h l) ≤ h by omega) k (by omega)
  rw [show ((0 : Nat) : Int) = 0 from rfl] at this
  rw [this]; rfl
theorem le_of_sub {β : Type} [DecidableEq β] : ∀ {t p : List β}, t.Nodup → (∀ x ∈ t, x ∈ p) → t.length ≤ p.length
  | [], p, _, _ => Nat.zero_le _
  | a :: t, p, hn, hs => by
    rw [List.nodup_cons] at hn
    have ha := hs a List.mem_cons_self
    have h1 : t.length ≤ (p.erase a).length := le_of_sub hn.2 fun x hx => by
      have hxa : x ≠ a := fun h => hn.1 (h ▸ hx)
      exact (List.mem_erase_of_ne hxa).2 (hs x (List.mem_cons_of_mem _ hx))
    rw [List.length_erase_of_mem ha] at h1
    have := List.length_pos_of_mem ha
    rw [List.length_cons]; omega
def tiles (x y w h : Nat) : List (Int × Int) := (List.range (x * y)).map fun n => (((n / x * h : Nat) : Int), ((n % x * w : Nat) : Int))
theorem tiles_nodup {x y w h : Nat} (hw : 1 ≤ w) (hh : 1 ≤ h) : (tiles x y w h).Nodup := by
  unfold tiles List.Nodup
  rw [List.pairwise_map]
  refine List.pairwise_lt_range.imp fun {a b} hab he => ?_
  injection he with h1 h2
  have h3 : a / x = b / x := Nat.eq_of_mul_eq_mul_right (by omega) (Int.ofNat.inj h1)
  have h4 : a % x = b % x := Nat.eq_of_mul_eq_mul_right (by omega) (Int.ofNat.inj h2)
  have e1 := Nat.div_add_mod a x
  have e2 := Nat.div_add_mod b x
  rw [h3, h4] at e1
  omega
theorem repL_at {w h x y : Nat} {l : List Int} {r c : Nat} (hr : r < y * h) (hc : c < x * w) : (repL (w : Int) (h : Int) l (x : Int) (y : Int)).getD (r * (x * w) + c) 0 = l.getD (r % h * w + c % w) 0 := by
  unfold repL
  rw [← nat_mul_cast, ← nat_mul_cast, Int.toNat_natCast, Int.toNat_natCast, Int.toNat_natCast, Int.toNat_natCast, grid_at hr hc]
theorem repL_len {w h x y : Nat} {l : List Int} : (repL (w : Int) (h : Int) l (x : Int) (y : Int)).length = (x * w) * (y * h) := by
  unfold repL
  rw [gridL_len, ← nat_mul_cast, ← nat_mul_cast, Int.toNat_natCast, Int.toNat_natCast]
theorem repL_good {w h x y : Nat} {l : List Int} (hg : goodB (w : Int) (h : Int) l = true) (hx : 1 ≤ x ∧ x * w ≤ 8) (hy : 1 ≤ y ∧ y * h ≤ 8) : goodB ((x * w : Nat) : Int) ((y * h : Nat) : Int) (repL (w : Int) (h : Int) l (x : Int) (y : Int)) = true := by
  obtain ⟨hw, hh, hlen, hcol⟩ := good_of hg
  have hl := lenN hlen
  have hx1 : 1 ≤ x * w := Nat.mul_le_mul hx.1 (show 1 ≤ w by omega)
  have hy1 : 1 ≤ y * h := Nat.mul_le_mul hy.1 (show 1 ≤ h by omega)
  unfold goodB
  rw [inB_of (by omega), inB_of (by omega), repL_len]
  simp only [Bool.true_and, Bool.and_eq_true, decide_eq_true_eq, List.all_eq_true]
  refine ⟨by rw [nat_mul_cast], fun q hq => ?_⟩
  unfold repL at hq
  refine inB_of (gridL_all _ _ _ (fun v => 0 ≤ v ∧ v ≤ 5) (fun r c hr hc => ?_) q hq)
  simp only [Int.toNat_natCast]
  exact all_getD (p := fun v => 0 ≤ v ∧ v ≤ 5) hcol (by rw [hl]; exact at_lt (Nat.mod_lt _ (by omega)) (Nat.mod_lt _ (by omega)))
theorem mul_add_mod_lt {i h a : Nat} (ha : a < h) : (i * h + a) % h = a := by rw [Nat.mul_comm, Nat.mul_add_mod, Nat.mod_eq_of_lt ha]
theorem tile_place {w h x y i j : Nat} {l : List Int} (hg : goodB (w : Int) (h : Int) l = true) (hx : 1 ≤ x ∧ x * w ≤ 8) (hy : 1 ≤ y ∧ y * h ≤ 8) (hi : i < y) (hj : j < x) :
    (((i * h : Nat) : Int), ((j * w : Nat) : Int)) ∈ placesR ((x * w : Nat) : Int) ((y * h : Nat) : Int) (repL (w : Int) (h : Int) l (x : Int) (y : Int)) (w : Int) (h : Int) l := by
  obtain ⟨hw, hh, hlen, hcol⟩ := good_of hg
  have hl := lenN hlen
  have hi2 : i * h + h ≤ y * h := by rw [← Nat.succ_mul]; exact Nat.mul_le_mul_right _ hi
  have hj2 : j * w + w ≤ x * w := by rw [← Nat.succ_mul]; exact Nat.mul_le_mul_right _ hj
  rw [placesR_mem]
  simp only [Int.toNat_natCast]
  refine ⟨by omega, by omega, ?_⟩
  have h1 : (partR (x * w) (i * h) (j * w) w (repL (w : Int) (h : Int) l (x : Int) (y : Int)) h 0).length = w * h := by
    rw [partR_len (h := y * h) (H := h) repL_len (by omega) (by omega) h 0 (by omega), Nat.mul_comm]
  rw [grid_ext (f := fun r c => l.getD (r * w + c) 0) h1 (by omega) fun r c hr hc => ?_]
  · exact (grid_ext hl (by omega) fun r c _ _ => rfl).symm
  · rw [partR_at repL_len (by omega) (by omega) hr hc, repL_at (by omega) (by omega), mul_add_mod_lt hr, mul_add_mod_lt hc]
theorem places_many {w h x y : Nat} {l : List Int} (hg : goodB (w : Int) (h : Int) l = true) (hx : 1 ≤ x ∧ x * w ≤ 8) (hy : 1 ≤ y ∧ y * h ≤ 8) : x * y ≤ (placesR ((x * w : Nat) : Int) ((y * h : Nat) : Int) (repL (w : Int) (h : Int) l (x : Int) (y : Int)) (w : Int) (h : Int) l).length := by
  obtain ⟨hw, hh, _⟩ := good_of hg
  have := le_of_sub (tiles_nodup (x := x) (y := y) (w := w) (h := h) (by omega) (by omega)) (p := placesR ((x * w : Nat) : Int) ((y * h : Nat) : Int) (repL (w : Int) (h : Int) l (x : Int) (y : Int)) (w : Int) (h : Int) l) (fun p hp => by
    unfold tiles at hp
    rw [List.mem_map] at hp
    obtain ⟨n, hn, rfl⟩ := hp
    rw [List.mem_range] at hn
    exact tile_place hg hx hy (Nat.div_lt_of_lt_mul hn) (Nat.mod_lt _ (by omega)))
  unfold tiles at this
  rwa [List.length_map, List.length_range] at this
theorem small_le {w h x y : Nat} {l : List Int} (hg : goodB (w : Int) (h : Int) l = true) (hx : 1 ≤ x ∧ x * w ≤ 8) (hy : 1 ≤ y ∧ y * h ≤ 8) : divN (x * w) (y * h) (repL (w : Int) (h : Int) l (x : Int) (y : Int)) ≤ w ∧ divN (y * h) (x * w) (turnL ((x * w : Nat) : Int) ((y * h : Nat) : Int) (repL (w : Int) (h : Int) l (x : Int) (y : Int))) ≤ h := by
  obtain ⟨hw, hh, _⟩ := good_of hg
  have hx1 : 1 ≤ x * w := Nat.mul_le_mul hx.1 (show 1 ≤ w by omega)
  have hy1 : 1 ≤ y * h := Nat.mul_le_mul hy.1 (show 1 ≤ h by omega)
  constructor
  · refine least_le (by rw [show 1 + (x * w - 1) = x * w by omega]; exact divB_w _ _ _) (by omega) ?_
    unfold divB
    rw [Nat.mul_mod_left, perB_iff.2 fun r c hr hc => ?_]
    · rfl
    · rw [repL_at hr (by omega), repL_at hr (by omega), Nat.add_mod_right]
  · refine least_le (by rw [show 1 + (y * h - 1) = y * h by omega]; exact divB_w _ _ _) (by omega) ?_
    unfold divB
    rw [Nat.mul_mod_left, perB_iff.2 fun r c hr hc => ?_]
    · rfl
    · have e1 := turn_at (l := repL (w : Int) (h : Int) l (x : Int) (y : Int)) (show y * h - 1 - c < y * h by omega) hr
      have e2 := turn_at (l := repL (w : Int) (h : Int) l (x : Int) (y : Int)) (show y * h - 1 - (c + h) < y * h by omega) hr
      rw [show y * h - 1 - (y * h - 1 - c) = c by omega] at e1
      rw [show y * h - 1 - (y * h - 1 - (c + h)) = c + h by omega] at e2
      rw [e1, e2, repL_at (by omega) hr, repL_at (by omega) hr]
      have : (y * h - 1 - c) % h = (y * h - 1 - (c + h)) % h := by
        rw [show y * h - 1 - c = y * h - 1 - (c + h) + h by omega, Nat.add_mod_right]
      rw [this]
def mrF (w h : Nat) (l : List Int) (r c : Nat) : Int := if c / w % 2 = 1 then (mirrL (w : Int) (h : Int) l).getD (r * w + c % w) 0 else l.getD (r * w + c % w) 0
def mrC (w h : Int) (l : List Int) (x : Int) : Prop := goodB w h l = true ∧ 1 ≤ x ∧ x * w ≤ 8
instance (w h : Int) (l : List Int) (x : Int) : Decidable (mrC w h l x) := by unfold mrC; infer_instance
def mrL (w h : Int) (l : List Int) (x : Int) : List Int := gridL (x * w).toNat h.toNat (mrF w.toNat h.toNat l)
def mrOut (w h : Int) (l : List Int) (x : Int) : Int × Int × List Int × Bool := if mrC w h l x then (x * w, h, mrL w h l x, true) else (0, 0, [], false)
theorem mr_rows {X w h : Nat} {m : List Int} (hX : X * w ≤ 8) (hh8 : 1 ≤ h ∧ h ≤ 8) (hw : 1 ≤ w ∧ w ≤ 8) (hm : m.length = w * h) : ∀ (d k j : Nat) (l : List Int), j + d = X → d + 300 < k → l.length = (X * w) * h → (∀ r c, r < h → c < j * w → l.getD (r * (X * w) + c) 0 = mrF w h m r c) → 1 ≤ X →
    spec_MirrorRepeat.l10 k (X : Int) (w : Int) (h : Int) m 0 0 [] ((X * w : Nat) : Int) (h : Int) l (j : Int) = some (((X * w : Nat) : Int), (h : Int), gridL (X * w) h (mrF w h m), true) := by
  have ok : okC (w : Int) (h : Int) m := ⟨by omega, by omega, by rw [hm, nat_mul_cast]⟩
  have hml : (mirrL (w : Int) (h : Int) m).length = w * h := by have := mirrL_len ok; rw [← nat_mul_cast] at this; omega
  have hXX : X ≤ X * w := Nat.le_mul_of_pos_right X hw.1
  intro d
  induction d with
  | zero =>
    intro k j l h1 h2 hl t hX1
    obtain ⟨k, rfl⟩ := succ_of (show 0 < k by omega)
    have : j = X := by omega
    subst this
    simp only [spec_MirrorRepeat.l10, spec_MirrorRepeat.b10]
    rw [if_neg (by omega), ← grid_ext hl (by omega) t]
  | succ d ih =>
    intro k j l h1 h2 hl t hX1
    obtain ⟨k, rfl⟩ := succ_of (show 0 < k by omega)
    have hj2 : j * w + w ≤ X * w := by rw [← Nat.succ_mul]; exact Nat.mul_le_mul_right _ (by omega)
    have step : ∀ p : List Int, p.length = w * h → (∀ r c, r < h → c < w → p.getD (r * w + c) 0 = mrF w h m r (j * w + c)) → (putR (X * w) 0 (j * w) w p h 0 l).length = (X * w) * h ∧ ∀ r c, r < h → c < (j + 1) * w → (putR (X * w) 0 (j * w) w p h 0 l).getD (r * (X * w) + c) 0 = mrF w h m r c := fun p hp hpv => by
      refine ⟨putR_len (X * w) h 0 (j * w) w h p hp hj2 h 0 l (by omega) (by omega) hl, fun r c hr hc => ?_⟩
      rw [Nat.succ_mul] at hc
      rw [putR_at hp hj2 (by omega) hw.1 hr (by omega) h 0 l (by omega) hl]
      by_cases e : j * w ≤ c
      · rw [if_pos (by omega), Nat.sub_zero, hpv r (c - j * w) hr (by omega), show j * w + (c - j * w) = c by omega]
      · rw [if_neg (by omega)]; exact t r c hr (by omega)
    have hdiv : ∀ c, c < w → (j * w + c) / w = j ∧ (j * w + c) % w = c := fun c hc => ⟨(tile_div (i := j) (by omega) (by omega)).1, mul_add_mod_lt hc⟩
    simp only [spec_MirrorRepeat.l10, spec_MirrorRepeat.b10]
    rw [if_pos (by omega), show (2 : Int) = ((2 : Nat) : Int) from rfl, tmodN j 2 (by omega)]; simp only [Option.bind_some]
    rw [← nat_mul_cast, w64_id (x := ((j * w : Nat) : Int)) (by omega), w64_id (x := (j : Int) + 1) (by omega), show (j : Int) + 1 = ((j + 1 : Nat) : Int) by omega]
    by_cases e : j % 2 = 1
    · obtain ⟨s1, s2⟩ := step _ hml (fun r c hr hc => by unfold mrF; rw [(hdiv c hc).1, (hdiv c hc).2, if_pos e])
      have hp := specPut0 (R := 0) hX (show h ≤ 8 by omega) hl hml hj2 (by omega) hw.1 k (by omega)
      rw [show ((0 : Nat) : Int) = 0 from rfl] at hp
      rw [if_pos (by omega), specMirr_eq ok k (by omega)]; simp only [Option.bind_some]
      rw [hp]; simp only [Option.bind_some]
      exact ih k (j + 1) _ (by omega) (by omega) s1 s2 hX1
    · obtain ⟨s1, s2⟩ := step _ hm (fun r c hr hc => by unfold mrF; rw [(hdiv c hc).1, (hdiv c hc).2, if_neg e])
      have hp := specPut0 (R := 0) hX (show h ≤ 8 by omega) hl hm hj2 (by omega) hw.1 k (by omega)
      rw [show ((0 : Nat) : Int) = 0 from rfl] at hp
      rw [if_neg (by omega), hp]; simp only [Option.bind_some]
      exact ih k (j + 1) _ (by omega) (by omega) s1 s2 hX1
theorem specMR_eq (k : Nat) (w h : Int) (l : List Int) (x : Int) (hl : l.length ≤ 100000000000000) (hk : l.length + 1000 ≤ k) : spec_MirrorRepeat.f k w h l x = some (mrOut w h l x) := by
  unfold spec_MirrorRepeat.f spec_MirrorRepeat.m mrOut
  rw [l2Good_eq k w h l hl (by omega)]; simp only [Option.bind_some]
  by_cases hg : goodB w h l = true
  · rw [hg, times_eq]; simp only [Option.bind_some, Bool.not_true, Bool.not_false, cond_true, cond_false, Bool.true_and, Bool.false_and, Bool.and_true, Bool.and_false, Bool.false_eq_true, Bool.true_or, Bool.or_true, Bool.false_or, Bool.or_false, Bool.or_self, Bool.and_self, decide_true, decide_false, if_true, if_false, not_true, not_false_eq_true, not_true_eq_false, false_or, or_false, true_and, and_true, Bool.not_eq_true, Bool.true_eq_false, reduceCtorEq]
    obtain ⟨hw, hh, hlen, _⟩ := good_of hg
    by_cases hx : 1 ≤ x ∧ x ≤ 8
    · rw [inB_of hx, blank_all]; simp only [Option.bind_some, Bool.not_true, Bool.not_false, cond_true, cond_false, Bool.true_and, Bool.false_and, Bool.and_true, Bool.and_false, Bool.false_eq_true, Bool.true_or, Bool.or_true, Bool.false_or, Bool.or_false, Bool.or_self, Bool.and_self, decide_true, decide_false, if_true, if_false, not_true, not_false_eq_true, not_true_eq_false, false_or, or_false, true_and, and_true, Bool.not_eq_true, Bool.true_eq_false, reduceCtorEq]
      have b1 := side_le hw hx
      rw [w64_id (x := x * w) (by omega)]
      by_cases hc : x * w ≤ 8
      · rw [if_pos (by omega), if_pos (show mrC w h l x from ⟨hg, hx.1, hc⟩)]; simp only [Bool.not_true, Bool.not_false, cond_true, cond_false, Bool.true_and, Bool.false_and, Bool.and_true, Bool.and_false, Bool.false_eq_true, Bool.true_or, Bool.or_true, Bool.false_or, Bool.or_false, Bool.or_self, Bool.and_self, decide_true, decide_false, if_true, if_false, not_true, not_false_eq_true, not_true_eq_false, false_or, or_false, true_and, and_true, Bool.not_eq_true, Bool.true_eq_false, reduceCtorEq]
        unfold mrL
        obtain ⟨w, rfl⟩ := Int.eq_ofNat_of_zero_le (show 0 ≤ w by omega)
        obtain ⟨h, rfl⟩ := Int.eq_ofNat_of_zero_le (show 0 ≤ h by omega)
        obtain ⟨x, rfl⟩ := Int.eq_ofNat_of_zero_le (show 0 ≤ x by omega)
        simp only [← nat_mul_cast, Int.toNat_natCast] at *
        exact mr_rows (by omega) (by omega) (by omega) (lenN hlen) x k 0 _ (by omega) (by omega) (by rw [List.length_replicate]) (fun r c _ hc => by omega) (by omega)
      · rw [if_neg (fun h => hc h.1.2), if_neg (fun h => hc h.2.2)]; rfl
    · rw [notB (fun h => hx (inB_iff.1 h)), if_neg (fun h => hx ⟨h.2.1, Int.le_trans (side_mul hw.1 h.2.1).2 h.2.2⟩)]; rfl
  · rw [notB hg, if_neg (fun h => hg h.1)]; rfl
theorem implMR_eq (k : Nat) (w h : Int) (l : List Int) (x : Int) (hl : l.length ≤ 100000000000000) (hk : l.length + 1000 ≤ k) : impl_MirrorRepeat.f k w h l x = some (mrOut w h l x) := by
  unfold impl_MirrorRepeat.f impl_MirrorRepeat.m mrOut
  rw [isChart_eq k w h l hl (by omega)]; simp only [Option.bind_some]
  by_cases hg : goodB w h l = true
  · have ok := good_ok hg
    obtain ⟨hw, hh, hlen, _⟩ := good_of hg
    rw [hg, copies_eq k w x hw]; simp only [Option.bind_some, Bool.not_true, Bool.not_false, cond_true, cond_false, Bool.true_and, Bool.false_and, Bool.and_true, Bool.and_false, Bool.false_eq_true, Bool.true_or, Bool.or_true, Bool.false_or, Bool.or_false, Bool.or_self, Bool.and_self, decide_true, decide_false, if_true, if_false, not_true, not_false_eq_true, not_true_eq_false, false_or, or_false, true_and, and_true, Bool.not_eq_true, Bool.true_eq_false, reduceCtorEq]
    by_cases hx : 1 ≤ x ∧ x * w ≤ 8
    · have s1 := side_mul hw.1 hx.1
      rw [decide_eq_true hx, if_pos (show mrC w h l x from ⟨hg, hx⟩), implMirr_eq ok k (by omega)]; simp only [Option.bind_some, Bool.not_true, Bool.not_false, cond_true, cond_false, Bool.true_and, Bool.false_and, Bool.and_true, Bool.and_false, Bool.false_eq_true, Bool.true_or, Bool.or_true, Bool.false_or, Bool.or_false, Bool.or_self, Bool.and_self, decide_true, decide_false, if_true, if_false, not_true, not_false_eq_true, not_true_eq_false, false_or, or_false, true_and, and_true, Bool.not_eq_true, Bool.true_eq_false, reduceCtorEq]
      rw [Int.mul_comm w x, w64_id (x := x * w) (by omega)]
      unfold mrL
      obtain ⟨w, rfl⟩ := Int.eq_ofNat_of_zero_le (show 0 ≤ w by omega)
      obtain ⟨h, rfl⟩ := Int.eq_ofNat_of_zero_le (show 0 ≤ h by omega)
      obtain ⟨x, rfl⟩ := Int.eq_ofNat_of_zero_le (show 0 ≤ x by omega)
      have hml : (mirrL (w : Int) (h : Int) l).length = w * h := by have := mirrL_len ok; rw [← nat_mul_cast] at this; omega
      simp only [← nat_mul_cast, Int.toNat_natCast] at *
      have hlen' : l.length = w * h := by omega
      have hgr := grid_loop (fun k row acc => impl_makeChart__impl_MirrorRepeat_1.l4 k ((x * w : Nat) : Int) (w : Int) (h : Int) l (w : Int) (h : Int) (mirrL w h l) 0 0 [] ((x * w : Nat) : Int) (h : Int) acc (h : Int) row) (fun k row col acc => impl_makeChart__impl_MirrorRepeat_1.l10 k ((x * w : Nat) : Int) (w : Int) (h : Int) l (w : Int) (h : Int) (mirrL w h l) 0 0 [] ((x * w : Nat) : Int) (h : Int) acc row (h : Int) row ((x * w : Nat) : Int) col) (fun acc => some (((x * w : Nat) : Int), (h : Int), acc)) (x * w) h (by omega) (by omega)
        (fun k row col => impl_MirrorRepeat_1.f k row col w h l w h (mirrL w h l)) (mrF w h l)
        (fun k row acc => by simp only [impl_makeChart__impl_MirrorRepeat_1.l4, impl_makeChart__impl_MirrorRepeat_1.b4]) (fun k row col acc => by simp only [impl_makeChart__impl_MirrorRepeat_1.l10, impl_makeChart__impl_MirrorRepeat_1.b10])
        (fun k r c hr hc => by
          unfold impl_MirrorRepeat_1.f impl_MirrorRepeat_1.m mrF
          rw [quoN (w := c) (p := w) (by omega) (by omega)]; simp only [Option.bind_some]
          rw [show (2 : Int) = ((2 : Nat) : Int) from rfl, tmodN (c / w) 2 (by omega), tmodN c w (by omega)]; simp only [Option.bind_some]
          by_cases e : c / w % 2 = 1
          · rw [if_pos (by omega), if_pos e, iatN k (by omega) (by omega) hml hr (Nat.mod_lt _ (by omega))]; rfl
          · rw [if_neg (by omega), if_neg e, iatN k (by omega) (by omega) hlen' hr (Nat.mod_lt _ (by omega))]; rfl) k (Nat.le_trans (Nat.mul_le_mul (show h + 1 ≤ 9 by omega) (show x * w + 2 ≤ 10 by omega)) (by omega))
      unfold impl_makeChart__impl_MirrorRepeat_1.f impl_makeChart__impl_MirrorRepeat_1.m
      rw [hgr]; rfl
    · rw [decide_eq_false hx, if_neg (fun h => hx h.2)]; rfl
  · rw [notB hg, if_neg (fun h => hg h.1)]; rfl
theorem mirr_at {w h : Nat} {l : List Int} {r c : Nat} (hr : r < h) (hc : c < w) : (mirrL (w : Int) (h : Int) l).getD (r * w + c) 0 = l.getD (r * w + (w - 1 - c)) 0 := by
  rw [mirrN, grid_at hr hc]
  unfold atL
  rw [show (w : Int) - 1 - ((c : Nat) : Int) = ((w - 1 - c : Nat) : Int) by omega, ← Int.natCast_mul, ← Int.natCast_add, Int.toNat_natCast]
theorem mr_sym {w h x : Nat} {l : List Int} (hw : 1 ≤ w) (hx : 1 ≤ x) (he : x % 2 = 0) : mirrL ((x * w : Nat) : Int) (h : Int) (gridL (x * w) h (mrF w h l)) = gridL (x * w) h (mrF w h l) := by
  have hp : 1 ≤ x * w := Nat.mul_le_mul hx hw
  rw [mirrN]
  apply gridL_congr
  intro r c hr hc
  have hq : c / w < x := Nat.div_lt_of_lt_mul (by rw [Nat.mul_comm]; exact hc)
  have hs : c % w < w := Nat.mod_lt _ hw
  have hdm := Nat.div_add_mod c w
  unfold atL
  rw [show ((x * w : Nat) : Int) - 1 - (c : Int) = ((x * w - 1 - c : Nat) : Int) by omega, ← Int.natCast_mul, ← Int.natCast_add, Int.toNat_natCast, grid_at hr (by omega)]
  have hk : x * w - 1 - c = (x - 1 - c / w) * w + (w - 1 - c % w) := by
    have h1 : (x - 1 - c / w) * w + (c / w * w + w) = x * w := by
      rw [← Nat.succ_mul, ← Nat.add_mul]; congr 1; omega
    rw [Nat.mul_comm] at hdm
    omega
  have d1 : (x * w - 1 - c) / w = x - 1 - c / w := by rw [hk]; exact (tile_div (i := x - 1 - c / w) (by omega) (by omega)).1
  have d2 : (x * w - 1 - c) % w = w - 1 - c % w := by rw [hk]; exact mul_add_mod_lt (by omega)
  unfold mrF
  rw [d1, d2]
  by_cases e : c / w % 2 = 1
  · rw [if_neg (by omega), if_pos e, mirr_at hr hs]
  · rw [if_pos (by omega), if_neg e, mirr_at hr (by omega), show w - 1 - (w - 1 - c % w) = c % w by omega]
theorem mrL_good {w h x : Nat} {l : List Int} (hg : goodB (w : Int) (h : Int) l = true) (hx : 1 ≤ x ∧ x * w ≤ 8) : goodB ((x * w : Nat) : Int) (h : Int) (gridL (x * w) h (mrF w h l)) = true := by
  have ok := good_ok hg
  obtain ⟨hw, hh, hlen, hcol⟩ := good_of hg
  have hl := lenN hlen
  have hp : 1 ≤ x * w := Nat.mul_le_mul hx.1 (show 1 ≤ w by omega)
  unfold goodB
  rw [inB_of (by omega), inB_of hh, gridL_len]
  simp only [Bool.true_and, Bool.and_eq_true, decide_eq_true_eq, List.all_eq_true]
  refine ⟨by rw [nat_mul_cast], fun q hq => inB_of (gridL_all _ _ _ (fun v => 0 ≤ v ∧ v ≤ 5) (fun r c hr hc => ?_) q hq)⟩
  have hs : c % w < w := Nat.mod_lt _ (by omega)
  have hv : ∀ i, i < w → 0 ≤ l.getD (r * w + i) 0 ∧ l.getD (r * w + i) 0 ≤ 5 := fun i hi => all_getD (p := fun v => 0 ≤ v ∧ v ≤ 5) hcol (by rw [hl]; exact at_lt hr hi)
  unfold mrF
  split
  · rw [mirr_at hr hs]; exact hv _ (by omega)
  · exact hv _ hs
def hdF (w h : Nat) (l : List Int) (r c : Nat) : Int := if w ≤ c then l.getD ((r + h / 2) % h * w + c % w) 0 else l.getD (r * w + c % w) 0
def hdC (w h : Int) (l : List Int) : Prop := goodB w h l = true ∧ h.toNat % 2 = 0 ∧ 2 * w ≤ 8
instance (w h : Int) (l : List Int) : Decidable (hdC w h l) := by unfold hdC; infer_instance
def hdOut (w h : Int) (l : List Int) : Int × Int × List Int × Bool := if hdC w h l then (2 * w, h, gridL (2 * w).toNat h.toNat (hdF w.toNat h.toNat l), true) else (0, 0, [], false)
theorem hd_puts {w g : Nat} {l : List Int} (hw : 1 ≤ w) (hg : 1 ≤ g) (hl : l.length = w * (g + g)) : putR (w + w) g w w (partR w 0 0 w l g 0) g 0 (putR (w + w) 0 w w (partR w g 0 w l g 0) g 0 (putR (w + w) 0 0 w l (g + g) 0 (List.replicate ((w + w) * (g + g)) 0))) = gridL (w + w) (g + g) (hdF w (g + g) l) := by
  have lp : ∀ R, R + g ≤ g + g → (partR w R 0 w l g 0).length = w * g := fun R hR => by rw [partR_len (h := g + g) (H := g) hl (by omega) (by omega) g 0 (by omega), Nat.mul_comm]
  have l1 : (putR (w + w) 0 0 w l (g + g) 0 (List.replicate ((w + w) * (g + g)) 0)).length = (w + w) * (g + g) := putR_len (w + w) (g + g) 0 0 w (g + g) l hl (by omega) (g + g) 0 _ (by omega) (by omega) (rep_len rfl)
  have l2 : (putR (w + w) 0 w w (partR w g 0 w l g 0) g 0 (putR (w + w) 0 0 w l (g + g) 0 (List.replicate ((w + w) * (g + g)) 0))).length = (w + w) * (g + g) := putR_len (w + w) (g + g) 0 w w g _ (lp g (by omega)) (by omega) g 0 _ (by omega) (by omega) l1
  refine grid_ext (putR_len (w + w) (g + g) g w w g _ (lp 0 (by omega)) (by omega) g 0 _ (by omega) (by omega) l2) (by omega) fun r c hr hc => ?_
  rw [putR_at (lp 0 (by omega)) (by omega) (by omega) hw hr hc g 0 _ (by omega) l2, putR_at (lp g (by omega)) (by omega) (by omega) hw hr hc g 0 _ (by omega) l1, putR_at hl (by omega) (by omega) hw hr hc (g + g) 0 _ (by omega) (rep_len rfl)]
  simp only [Nat.add_zero, Nat.zero_add, Nat.sub_zero]
  unfold hdF
  rw [show (g + g) / 2 = g by omega]
  by_cases hcw : w ≤ c
  · have hm : c % w = c - w := by rw [Nat.mod_eq_sub_mod hcw, Nat.mod_eq_of_lt (by omega)]
    rw [if_pos hcw, hm]
    by_cases hrg : g ≤ r
    · rw [if_pos (by omega), partR_at hl (by omega) (by omega) (show r - g < g by omega) (show c - w < w by omega), Nat.mod_eq_sub_mod (show g + g ≤ r + g by omega), Nat.mod_eq_of_lt (by omega), Nat.zero_add, Nat.zero_add, show r + g - (g + g) = r - g by omega]
    · rw [if_neg (by omega), if_pos (by omega), partR_at hl (by omega) (by omega) (show r < g by omega) (show c - w < w by omega), Nat.mod_eq_of_lt (show r + g < g + g by omega), Nat.zero_add, Nat.add_comm g r]
  · rw [if_neg (by omega), if_neg (by omega), if_pos (by omega), if_neg hcw, Nat.mod_eq_of_lt (show c < w by omega)]
theorem half_cond {h : Nat} : ((h % 2 : Nat) : Int) = 1 ↔ ¬ h % 2 = 0 := by omega
theorem specHD_eq (k : Nat) (w h : Int) (l : List Int) (hl : l.length ≤ 100000000000000) (hk : l.length + 1000 ≤ k) : spec_HalfDrop.f k w h l = some (hdOut w h l) := by
  unfold spec_HalfDrop.f spec_HalfDrop.m hdOut
  rw [l2Good_eq k w h l hl (by omega)]; simp only [Option.bind_some]
  by_cases hg : goodB w h l = true
  · obtain ⟨hw, hh, hlen, _⟩ := good_of hg
    rw [hg]; simp only [Bool.not_true, Bool.not_false, cond_true, cond_false, Bool.true_and, Bool.false_and, Bool.and_true, Bool.and_false, Bool.false_eq_true, Bool.true_or, Bool.or_true, Bool.false_or, Bool.or_false, Bool.or_self, Bool.and_self, decide_true, decide_false, if_true, if_false, not_true, not_false_eq_true, not_true_eq_false, false_or, or_false, true_and, and_true, Bool.not_eq_true, Bool.true_eq_false, reduceCtorEq]
    obtain ⟨w, rfl⟩ := Int.eq_ofNat_of_zero_le (show 0 ≤ w by omega)
    obtain ⟨h, rfl⟩ := Int.eq_ofNat_of_zero_le (show 0 ≤ h by omega)
    rw [show (2 : Int) = ((2 : Nat) : Int) from rfl, tmodN h 2 (by omega)]; simp only [Option.bind_some]
    by_cases e : h % 2 = 0
    · rw [if_neg (by omega), blank_all]; simp only [Option.bind_some]
      rw [w64_id (x := ((2 : Nat) : Int) * (w : Int)) (by omega)]
      by_cases hc : 2 * w ≤ 8
      · rw [if_pos (by omega), if_pos (show hdC (w : Int) (h : Int) l from ⟨hg, by simpa using e, by omega⟩)]; simp only [Bool.not_true, Bool.not_false, cond_true, cond_false, Bool.true_and, Bool.false_and, Bool.and_true, Bool.and_false, Bool.false_eq_true, Bool.true_or, Bool.or_true, Bool.false_or, Bool.or_false, Bool.or_self, Bool.and_self, decide_true, decide_false, if_true, if_false, not_true, not_false_eq_true, not_true_eq_false, false_or, or_false, true_and, and_true, Bool.not_eq_true, Bool.true_eq_false, reduceCtorEq]
        obtain ⟨g, rfl⟩ : ∃ g, h = g + g := ⟨h / 2, by omega⟩
        have hl2 := lenN hlen
        have lp : ∀ R, R + g ≤ g + g → (partR w R 0 w l g 0).length = w * g := fun R hR => by rw [partR_len (h := g + g) (H := g) hl2 (by omega) (by omega) g 0 (by omega), Nat.mul_comm]
        rw [quoN (w := g + g) (p := 2) (by omega) (by omega), show (g + g) / 2 = g by omega]; simp only [Option.bind_some]
        rw [show ((2 : Nat) : Int) * (w : Int) = ((w + w : Nat) : Int) by omega]
        have er : (((w + w : Nat) : Int) * ((g + g : Nat) : Int)).toNat = (w + w) * (g + g) := by rw [← nat_mul_cast, Int.toNat_natCast]
        rw [er]
        have l1 : (putR (w + w) 0 0 w l (g + g) 0 (List.replicate ((w + w) * (g + g)) 0)).length = (w + w) * (g + g) := putR_len (w + w) (g + g) 0 0 w (g + g) l hl2 (by omega) (g + g) 0 _ (by omega) (by omega) (rep_len rfl)
        have l2 : (putR (w + w) 0 w w (partR w g 0 w l g 0) g 0 (putR (w + w) 0 0 w l (g + g) 0 (List.replicate ((w + w) * (g + g)) 0))).length = (w + w) * (g + g) := putR_len (w + w) (g + g) 0 w w g _ (lp g (by omega)) (by omega) g 0 _ (by omega) (by omega) l1
        have q1 := specPut0 (R := 0) (C := 0) (show w + w ≤ 8 by omega) (show g + g ≤ 8 by omega) (rep_len (n := (w + w) * (g + g)) rfl) hl2 (by omega) (by omega) (by omega) k (by omega)
        have q2 := specPart0 (R := g) (C := 0) (W := w) (H := g) (show w ≤ 8 by omega) (show g + g ≤ 8 by omega) hl2 (by omega) (by omega) k (by omega)
        have q3 := specPut0 (R := 0) (C := w) (show w + w ≤ 8 by omega) (show g + g ≤ 8 by omega) l1 (lp g (by omega)) (by omega) (by omega) (by omega) k (by omega)
        have q4 := specPart0 (R := 0) (C := 0) (W := w) (H := g) (show w ≤ 8 by omega) (show g + g ≤ 8 by omega) hl2 (by omega) (by omega) k (by omega)
        have q5 := specPut0 (R := g) (C := w) (show w + w ≤ 8 by omega) (show g + g ≤ 8 by omega) l2 (lp 0 (by omega)) (by omega) (by omega) (by omega) k (by omega)
        rw [show ((0 : Nat) : Int) = 0 from rfl] at q1 q2 q3 q4
        rw [q1]; simp only [Option.bind_some]
        rw [q2]; simp only [Option.bind_some]
        rw [q3]; simp only [Option.bind_some]
        rw [q4]; simp only [Option.bind_some]
        rw [q5, hd_puts (by omega) (by omega) hl2]
        rfl
      · rw [if_neg (by omega), if_neg (fun h => hc (by have := h.2.2; omega))]; rfl
    · rw [if_pos (by omega), if_neg (fun h => e (by simpa using h.2.1))]
  · rw [notB hg, if_neg (fun h => hg h.1)]; rfl
theorem implHD_eq (k : Nat) (w h : Int) (l : List Int) (hl : l.length ≤ 100000000000000) (hk : l.length + 1000 ≤ k) : impl_HalfDrop.f k w h l = some (hdOut w h l) := by
  unfold impl_HalfDrop.f impl_HalfDrop.m hdOut
  rw [isChart_eq k w h l hl (by omega)]; simp only [Option.bind_some]
  by_cases hg : goodB w h l = true
  · obtain ⟨hw, hh, hlen, _⟩ := good_of hg
    rw [hg]; simp only [Bool.not_true, Bool.not_false, cond_true, cond_false, Bool.true_and, Bool.false_and, Bool.and_true, Bool.and_false, Bool.false_eq_true, Bool.true_or, Bool.or_true, Bool.false_or, Bool.or_false, Bool.or_self, Bool.and_self, decide_true, decide_false, if_true, if_false, not_true, not_false_eq_true, not_true_eq_false, false_or, or_false, true_and, and_true, Bool.not_eq_true, Bool.true_eq_false, reduceCtorEq]
    obtain ⟨w, rfl⟩ := Int.eq_ofNat_of_zero_le (show 0 ≤ w by omega)
    obtain ⟨h, rfl⟩ := Int.eq_ofNat_of_zero_le (show 0 ≤ h by omega)
    rw [copies_eq k w 2 hw, show rem (h : Int) 2 = some ((h % 2 : Nat) : Int) from tmodN h 2 (by omega)]; simp only [Option.bind_some]
    by_cases e : h % 2 = 0
    · rw [if_neg (by omega)]
      by_cases hc : 2 * w ≤ 8
      · rw [decide_eq_true (show (1 : Int) ≤ 2 ∧ 2 * (w : Int) ≤ 8 by omega), if_pos (show hdC (w : Int) (h : Int) l from ⟨hg, by simpa using e, by omega⟩)]; simp only [Bool.not_true, Bool.not_false, cond_true, cond_false, Bool.true_and, Bool.false_and, Bool.and_true, Bool.and_false, Bool.false_eq_true, Bool.true_or, Bool.or_true, Bool.false_or, Bool.or_false, Bool.or_self, Bool.and_self, decide_true, decide_false, if_true, if_false, not_true, not_false_eq_true, not_true_eq_false, false_or, or_false, true_and, and_true, Bool.not_eq_true, Bool.true_eq_false, reduceCtorEq]
        have hl2 := lenN hlen
        rw [w64_id (x := 2 * (w : Int)) (by omega), show 2 * (w : Int) = ((2 * w : Nat) : Int) by omega]
        simp only [Int.toNat_natCast]
        have hgr := grid_loop (fun k row acc => impl_makeChart__impl_HalfDrop_1.l4 k ((2 * w : Nat) : Int) (w : Int) (h : Int) l 0 0 [] ((2 * w : Nat) : Int) (h : Int) acc (h : Int) row) (fun k row col acc => impl_makeChart__impl_HalfDrop_1.l10 k ((2 * w : Nat) : Int) (w : Int) (h : Int) l 0 0 [] ((2 * w : Nat) : Int) (h : Int) acc row (h : Int) row ((2 * w : Nat) : Int) col) (fun acc => some (((2 * w : Nat) : Int), (h : Int), acc)) (2 * w) h (by omega) (by omega)
          (fun k row col => impl_HalfDrop_1.f k row col w h l) (hdF w h l)
          (fun k row acc => by simp only [impl_makeChart__impl_HalfDrop_1.l4, impl_makeChart__impl_HalfDrop_1.b4]) (fun k row col acc => by simp only [impl_makeChart__impl_HalfDrop_1.l10, impl_makeChart__impl_HalfDrop_1.b10])
          (fun k r c hr hc => by
            unfold impl_HalfDrop_1.f impl_HalfDrop_1.m hdF
            rw [tmodN c w (by omega), show quo .i64 (h : Int) 2 = some ((h / 2 : Nat) : Int) from quoN (w := h) (p := 2) (by omega) (by omega)]; simp only [Option.bind_some]
            rw [w64_id (x := (r : Int) + ((h / 2 : Nat) : Int)) (by omega), show (r : Int) + ((h / 2 : Nat) : Int) = ((r + h / 2 : Nat) : Int) by omega, tmodN (r + h / 2) h (by omega)]; simp only [Option.bind_some]
            by_cases e : w ≤ c
            · rw [if_pos (by omega), if_pos e, iatN k (by omega) (by omega) hl2 (Nat.mod_lt _ (by omega)) (Nat.mod_lt _ (by omega))]; rfl
            · rw [if_neg (by omega), if_neg e, iatN k (by omega) (by omega) hl2 hr (Nat.mod_lt _ (by omega))]; rfl) k (Nat.le_trans (Nat.mul_le_mul (show h + 1 ≤ 9 by omega) (show 2 * w + 2 ≤ 10 by omega)) (by omega))
        unfold impl_makeChart__impl_HalfDrop_1.f impl_makeChart__impl_HalfDrop_1.m
        rw [hgr]; rfl
      · rw [decide_eq_false (show ¬ ((1 : Int) ≤ 2 ∧ 2 * (w : Int) ≤ 8) by omega), if_neg (fun h => hc (by have := h.2.2; omega))]; rfl
    · rw [if_pos (by omega), if_neg (fun h => e (by simpa using h.2.1))]
  · rw [notB hg, if_neg (fun h => hg h.1)]; rfl
theorem implPlacesOf_eq (k : Nat) (w h : Int) (l : List Int) (mw mh : Int) (ml : List Int) (hl : l.length ≤ 300) (hml : ml.length ≤ 300) (hk : 3000 ≤ k) : impl_PlacesOf.f k w h l mw mh ml = some (if goodB w h l = true ∧ goodB mw mh ml = true then (placesR w h l mw mh ml, true) else ([], false)) := by
  unfold impl_PlacesOf.f impl_PlacesOf.m
  rw [isChart_eq k w h l (by omega) (by omega)]; simp only [Option.bind_some]
  cases h1 : goodB w h l <;> simp only [Bool.not_true, Bool.not_false, cond_true, cond_false, Bool.true_and, Bool.false_and, Bool.and_true, Bool.and_false, Bool.false_eq_true, Bool.true_or, Bool.or_true, Bool.false_or, Bool.or_false, Bool.or_self, Bool.and_self, decide_true, decide_false, if_true, if_false, not_true, not_false_eq_true, not_true_eq_false, false_or, or_false, true_and, and_true, Bool.not_eq_true, Bool.true_eq_false, reduceCtorEq, false_and]
  rw [isChart_eq k mw mh ml (by omega) (by omega)]; simp only [Option.bind_some]
  cases h2 : goodB mw mh ml <;> simp only [Bool.not_true, Bool.not_false, cond_true, cond_false, Bool.true_and, Bool.false_and, Bool.and_true, Bool.and_false, Bool.false_eq_true, Bool.true_or, Bool.or_true, Bool.false_or, Bool.or_false, Bool.or_self, Bool.and_self, decide_true, decide_false, if_true, if_false, not_true, not_false_eq_true, not_true_eq_false, false_or, or_false, true_and, and_true, Bool.not_eq_true, Bool.true_eq_false, reduceCtorEq]
  rw [implPlaces_eq (good_ok h1) (good_ok h2) k (by omega)]; rfl
theorem smallP_all {w h : Int} {l : List Int} {mw mh : Int} {ml : List Int} (h1 : goodB w h l = true) (h2 : goodB mw mh ml = true) : ∀ q ∈ placesR w h l mw mh ml, smallP q := placesR_bd (good_ok h1) (good_ok h2)
theorem implApartOf_eq (k : Nat) (w h : Int) (l : List Int) (mw mh : Int) (ml : List Int) (hl : l.length ≤ 300) (hml : ml.length ≤ 300) (hk : 30000 ≤ k) : impl_ApartPlaces.f k w h l mw mh ml = some (if goodB w h l = true ∧ goodB mw mh ml = true then (((takeR mw mh (placesR w h l mw mh ml) []).length : Int), true) else (0, false)) := by
  unfold impl_ApartPlaces.f impl_ApartPlaces.m
  rw [isChart_eq k w h l (by omega) (by omega)]; simp only [Option.bind_some]
  cases h1 : goodB w h l <;> simp only [Bool.not_true, Bool.not_false, cond_true, cond_false, Bool.true_and, Bool.false_and, Bool.and_true, Bool.and_false, Bool.false_eq_true, Bool.true_or, Bool.or_true, Bool.false_or, Bool.or_false, Bool.or_self, Bool.and_self, decide_true, decide_false, if_true, if_false, not_true, not_false_eq_true, not_true_eq_false, false_or, or_false, true_and, and_true, Bool.not_eq_true, Bool.true_eq_false, reduceCtorEq, false_and]
  rw [isChart_eq k mw mh ml (by omega) (by omega)]; simp only [Option.bind_some]
  cases h2 : goodB mw mh ml <;> simp only [Bool.not_true, Bool.not_false, cond_true, cond_false, Bool.true_and, Bool.false_and, Bool.and_true, Bool.and_false, Bool.false_eq_true, Bool.true_or, Bool.or_true, Bool.false_or, Bool.or_false, Bool.or_self, Bool.and_self, decide_true, decide_false, if_true, if_false, not_true, not_false_eq_true, not_true_eq_false, false_or, or_false, true_and, and_true, Bool.not_eq_true, Bool.true_eq_false, reduceCtorEq]
  rw [implPlaces_eq (good_ok h1) (good_ok h2) k (by omega)]; simp only [Option.bind_some]
  have hp := placesR_len (good_ok h1) (good_ok h2)
  exact implApart_l mw mh ml _ (smallP_all h1 h2) (by omega) _ k 0 [] (Nat.zero_add _) (by intro q hq; cases hq) (Nat.le_refl _) (by omega)
theorem drawRep_ok (k : Nat) {l : List Int} (hb : By l) (hk : 3000 ≤ k) : Yl (spec_DrawRepeatMotif.f k l) fun r => r.2.2.1.length ≤ 300 := by
  unfold spec_DrawRepeatMotif.f spec_DrawRepeatMotif.m
  refine Yl.bind (motif_ok _ 0 hb (by omega) (by omega)) ?_
  rintro ⟨w, h, kn, l', a1, s1⟩ ⟨e1, e2, e3, e4⟩
  dsimp only at *; subst e1
  (refine Yl.bind (among_any _ _ (by simp) (by assumption) (by omega) (by omega)) ?_; rintro ⟨vq, lq, aq, sq, xq⟩ ⟨eq1, eq2, eq3, eq4⟩; dsimp only at *; subst eq1; subst eq2)
  (refine Yl.bind (among_any _ _ (by simp) (by assumption) (by omega) (by omega)) ?_; rintro ⟨vq, lq, aq, sq, xq⟩ ⟨eq1, eq2, eq3, eq4⟩; dsimp only at *; subst eq1; subst eq2)
  exact Yl.ret e2
theorem drawMR_ok (k : Nat) {l : List Int} (hb : By l) (hk : 3000 ≤ k) : Yl (spec_DrawMirrorRepeat.f k l) fun r => r.2.2.1.length ≤ 300 := by
  unfold spec_DrawMirrorRepeat.f spec_DrawMirrorRepeat.m
  refine Yl.bind (motif_ok _ 0 hb (by omega) (by omega)) ?_
  rintro ⟨w, h, kn, l', a1, s1⟩ ⟨e1, e2, e3, e4⟩
  dsimp only at *; subst e1
  (refine Yl.bind (among_any _ _ (by simp) (by assumption) (by omega) (by omega)) ?_; rintro ⟨vq, lq, aq, sq, xq⟩ ⟨eq1, eq2, eq3, eq4⟩; dsimp only at *; subst eq1; subst eq2)
  exact Yl.ret e2
theorem drawHD_ok (k : Nat) {l : List Int} (hb : By l) (hk : 3000 ≤ k) : Yl (spec_DrawHalfDrop.f k l) fun r => r.2.2.length ≤ 300 := by
  unfold spec_DrawHalfDrop.f spec_DrawHalfDrop.m
  (refine Yl.bind (one_ok _ _ _ (by assumption) (by omega) (by omega)) ?_; rintro ⟨vq, lq, aq, sq⟩ ⟨eq1, eq2, eq3⟩; dsimp only at *; subst eq1)
  refine Yl.cond (fun _ => ?_) fun _ => ?_
  · (refine Yl.bind (among_ok _ _ 1 5 (by simp) (by intro x hx; simp at hx; omega) (by assumption) (by omega) (by omega)) ?_; rintro ⟨vq, lq, aq, sq, xq⟩ ⟨eq1, eq2, eq3, eq4, eq5, eq6⟩; dsimp only at *; subst eq1; subst eq2)
    (refine Yl.bind (among_ok _ _ 2 8 (by simp) (by intro x hx; simp at hx; omega) (by assumption) (by omega) (by omega)) ?_; rintro ⟨vq, lq, aq, sq, xq⟩ ⟨eq1, eq2, eq3, eq4, eq5, eq6⟩; dsimp only at *; subst eq1; subst eq2)
    refine Yl.bind (plain_ok k _ (by omega) (by omega) hb (by omega) (by omega)) ?_
    rintro ⟨w', h', kn, l', a3, s3⟩ ⟨g1, g2, e1, g3, g4, g5⟩
    dsimp only at *; subst e1; subst g1; subst g2
    have hm := mul_bd (w := w') (h := h') (by omega) (by omega)
    exact Yl.ret (by dsimp only; omega)
  · refine Yl.bind (motif_ok _ _ hb (by omega) (by omega)) ?_
    rintro ⟨w, h, kn, l', a1, s1⟩ ⟨e1, e2, e3, e4⟩
    exact Yl.ret e2
theorem rep43 (k : Nat) {l0 : List Int} (hb : By l0) (hk : 3001 ≤ k) : laws_FnRepeats.l43 k l0 = some true := by
  obtain ⟨k, rfl⟩ := succ_of (show 0 < k by omega)
  simp only [laws_FnRepeats.l43, laws_FnRepeats.b43]
  obtain ⟨⟨w, h, l⟩, e, h1⟩ := drawHD_ok k hb (by omega)
  dsimp only at h1
  rw [e]; simp only [Option.bind_some]
  rw [implHD_eq k w h l (by omega) (by omega), specHD_eq k w h l (by omega) (by omega)]; simp only [Option.bind_some]
  rw [if_pos trivial, vChart_self k _ _ _ ?_ (by omega)]; · rfl
  unfold hdOut
  by_cases hc : hdC w h l
  · rw [if_pos hc]
    obtain ⟨hg, _, h8⟩ := hc
    obtain ⟨hw, hh, _⟩ := good_of hg
    dsimp only
    rw [gridL_len]
    exact Nat.le_trans (Nat.mul_le_mul (show (2 * w).toNat ≤ 8 by omega) (show h.toNat ≤ 8 by omega)) (by omega)
  · rw [if_neg hc]; simp
theorem hasSym4 (k : Nat) {w h x : Nat} {l : List Int} (hg : goodB (w : Int) (h : Int) l = true) (hx : 1 ≤ x ∧ x * w ≤ 8) (he : x % 2 = 0) (hk : 2000 ≤ k) : impl_HasSymmetry.f k ((x * w : Nat) : Int) (h : Int) (gridL (x * w) h (mrF w h l)) 4 = some (true, true) := by
  have hgg := mrL_good hg hx
  have ok := good_ok hgg
  have hlen := okC_len ok
  obtain ⟨hw, hh, _⟩ := good_of hg
  have hm := mr_sym (w := w) (h := h) (l := l) (by omega) hx.1 he
  unfold impl_HasSymmetry.f impl_HasSymmetry.m impl_isSymmetry.f impl_isSymmetry.m
  rw [isChart_eq k _ _ _ (by omega) (by omega), hgg, implIn_eq]; simp only [Option.bind_some, Bool.not_true, Bool.not_false, cond_true, cond_false, Bool.true_and, Bool.false_and, Bool.and_true, Bool.and_false, Bool.false_eq_true, Bool.true_or, Bool.or_true, Bool.false_or, Bool.or_false, Bool.or_self, Bool.and_self, decide_true, decide_false, if_true, if_false, not_true, not_false_eq_true, not_true_eq_false, false_or, or_false, true_and, and_true, Bool.not_eq_true, Bool.true_eq_false, reduceCtorEq]
  rw [inB_of (by omega), implMove_eq ok (by omega) k (by omega)]; simp only [Option.bind_some, Bool.not_true, Bool.not_false, cond_true, cond_false, Bool.true_and, Bool.false_and, Bool.and_true, Bool.and_false, Bool.false_eq_true, Bool.true_or, Bool.or_true, Bool.false_or, Bool.or_false, Bool.or_self, Bool.and_self, decide_true, decide_false, if_true, if_false, not_true, not_false_eq_true, not_true_eq_false, false_or, or_false, true_and, and_true, Bool.not_eq_true, Bool.true_eq_false, reduceCtorEq]
  have hmv : moveR ((x * w : Nat) : Int) (h : Int) (gridL (x * w) h (mrF w h l)) 4 = (((x * w : Nat) : Int), (h : Int), gridL (x * w) h (mrF w h l)) := by
    show (((x * w : Nat) : Int), (h : Int), mirrL ((x * w : Nat) : Int) (h : Int) (gridL (x * w) h (mrF w h l))) = _
    rw [hm]
  rw [hmv, implSame_eq k _ _ _ _ _ _ (by omega) (by omega)]; simp
theorem rep44 (k : Nat) {l0 : List Int} (hb : By l0) (hk : 4000 ≤ k) (W H : Int) (L : List Int) (b : Bool) (h : b = true → impl_HasSymmetry.f (k - 1) W H L 4 = some (true, true)) : laws_FnRepeats.l44 k l0 W H L b = some true := by
  obtain ⟨k, rfl⟩ := succ_of (show 0 < k by omega)
  rw [Nat.add_sub_cancel] at h
  simp only [laws_FnRepeats.l44, laws_FnRepeats.b44]
  cases b
  · simp only [cond_false]; exact rep43 k hb (by omega)
  · rw [h rfl]; simp only [Option.bind_some, Bool.not_true, cond_true, cond_false]; exact rep43 k hb (by omega)
theorem repTail (k : Nat) {l0 : List Int} (hb : By l0) (hk : 5000 ≤ k) : ((spec_DrawMirrorRepeat.f k l0).bind fun r14 => ((impl_MirrorRepeat.f k r14.1 r14.2.1 r14.2.2.1 r14.2.2.2).bind fun r15 => ((spec_MirrorRepeat.f k r14.1 r14.2.1 r14.2.2.1 r14.2.2.2).bind fun r16 => (if ¬ r15.2.2.2 = r16.2.2.2 then (some false) else ((laws_vChart.f k r15.1 r15.2.1 r15.2.2.1 r16.1 r16.2.1 r16.2.2.1).bind fun r17 => (cond (!r17) (some false) (cond r15.2.2.2 ((rem r14.2.2.2 2).bind fun q18 => (laws_FnRepeats.l44 k l0 r15.1 r15.2.1 r15.2.2.1 (decide (q18 = 0)))) (laws_FnRepeats.l44 k l0 r15.1 r15.2.1 r15.2.2.1 false)))))))) = some true := by
  obtain ⟨⟨w, h, l, x⟩, e, h1⟩ := drawMR_ok k hb (by omega)
  dsimp only at h1
  rw [e]; simp only [Option.bind_some]
  rw [implMR_eq k w h l x (by omega) (by omega), specMR_eq k w h l x (by omega) (by omega)]; simp only [Option.bind_some]
  rw [if_neg (fun hn => hn trivial)]
  unfold mrOut
  by_cases hc : mrC w h l x
  · rw [if_pos hc]
    obtain ⟨hg, hx, hx8⟩ := hc
    obtain ⟨hw, hh, _⟩ := good_of hg
    obtain ⟨w, rfl⟩ := Int.eq_ofNat_of_zero_le (show 0 ≤ w by omega)
    obtain ⟨h, rfl⟩ := Int.eq_ofNat_of_zero_le (show 0 ≤ h by omega)
    obtain ⟨x, rfl⟩ := Int.eq_ofNat_of_zero_le (show 0 ≤ x by omega)
    unfold mrL
    simp only [← nat_mul_cast, Int.toNat_natCast] at *
    have hgg := mrL_good hg (show 1 ≤ x ∧ x * w ≤ 8 by omega)
    have hlen := okC_len (good_ok hgg)
    rw [vChart_self k _ _ _ (by omega) (by omega)]; simp only [Option.bind_some, Bool.not_true, cond_false, cond_true]
    rw [show rem (x : Int) 2 = some ((x % 2 : Nat) : Int) from tmodN x 2 (by omega)]; simp only [Option.bind_some]
    refine rep44 k hb (by omega) _ _ _ _ fun hd => ?_
    have hd2 := of_decide_eq_true hd
    exact hasSym4 (k - 1) hg (by omega) (by omega) (by omega)
  · rw [if_neg hc]; simp only
    rw [vChart_self k _ _ _ (by simp) (by omega)]; simp only [Option.bind_some, Bool.not_true, cond_false]
    exact rep44 k hb (by omega) _ _ _ _ fun hd => by cases hd
theorem rep31 (l0 m : List Int) (w h x y i j : Nat) (ps : List (Int × Int)) (hps : ps.length ≤ 100) (hi : i * h ≤ 100) (hj : j * w ≤ 100) (hjx : j ≤ 100) : ∀ (d k n : Nat) (found : Bool), n + d = ps.length → d + 20 < k → (found = true ∨ (((i * h : Nat) : Int), ((j * w : Nat) : Int)) ∈ ps.drop n) → ∃ k', k' + d + 1 = k ∧ laws_FnRepeats.l31 k l0 (w : Int) (h : Int) m (x : Int) (y : Int) ps (i : Int) (j : Int) found (n : Int) = laws_FnRepeats.l24 k' l0 (w : Int) (h : Int) m (x : Int) (y : Int) ps (i : Int) ((j + 1 : Nat) : Int) := by
  intro d
  induction d with
  | zero =>
    intro k n found h1 h2 h3
    obtain ⟨k, rfl⟩ := succ_of (show 0 < k by omega)
    refine ⟨k, rfl, ?_⟩
    have hf : found = true := h3.elim id (fun h => by rw [List.drop_of_length_le (by omega)] at h; cases h)
    subst hf
    simp only [laws_FnRepeats.l31, laws_FnRepeats.b31]
    rw [if_neg (by omega), w64_id (by omega), show (j : Int) + 1 = ((j + 1 : Nat) : Int) by omega]; rfl
  | succ d ih =>
    intro k n found h1 h2 h3
    obtain ⟨k, rfl⟩ := succ_of (show 0 < k by omega)
    have hn : n < ps.length := by omega
    simp only [laws_FnRepeats.l31, laws_FnRepeats.b31]
    rw [if_pos (by omega), w64_id (x := (n : Int) + 1) (by omega), show (n : Int) + 1 = ((n + 1 : Nat) : Int) by omega]
    cases found
    · simp only [cond_false]
      rw [chk_nat hn]; simp only [Option.bind_some]
      rw [← nat_mul_cast, ← nat_mul_cast, w64_id (x := ((i * h : Nat) : Int)) (by omega), w64_id (x := ((j * w : Nat) : Int)) (by omega)]
      rcases h3 with h3 | h3
      · cases h3
      · rw [List.drop_eq_getElem_cons hn, List.mem_cons] at h3
        obtain ⟨k', e1, e2⟩ := ih k (n + 1) (decide ((ps.getD n (0, 0)).1 = ((i * h : Nat) : Int) ∧ (ps.getD n (0, 0)).2 = ((j * w : Nat) : Int) ∧ True)) (by omega) (by omega) (by
          rcases h3 with h3 | h3
          · refine .inl (decide_eq_true ?_)
            rw [getD_lt hn, ← h3]; exact ⟨rfl, rfl, trivial⟩
          · exact .inr h3)
        exact ⟨k', by omega, e2⟩
    · simp only [cond_true]
      obtain ⟨k', e1, e2⟩ := ih k (n + 1) true (by omega) (by omega) (.inl rfl)
      exact ⟨k', by omega, e2⟩
theorem rep24 (l0 m : List Int) (w h x y i : Nat) (ps : List (Int × Int)) (hps : ps.length ≤ 64) (hx : x * w ≤ 8 ∧ x ≤ 8) (hi : i * h ≤ 8 ∧ i ≤ 8) (hall : ∀ j, j < x → (((i * h : Nat) : Int), ((j * w : Nat) : Int)) ∈ ps) : ∀ (d k j : Nat), j + d = x → 100 * d + 100 < k → ∃ k', k ≤ k' + 70 * d + 1 ∧ laws_FnRepeats.l24 k l0 (w : Int) (h : Int) m (x : Int) (y : Int) ps (i : Int) (j : Int) = laws_FnRepeats.l19 k' l0 (w : Int) (h : Int) m (x : Int) (y : Int) ps ((i + 1 : Nat) : Int) := by
  intro d
  induction d with
  | zero =>
    intro k j h1 h2
    obtain ⟨k, rfl⟩ := succ_of (show 0 < k by omega)
    refine ⟨k, by omega, ?_⟩
    simp only [laws_FnRepeats.l24, laws_FnRepeats.b24]
    rw [if_neg (by omega), w64_id (by omega), show (i : Int) + 1 = ((i + 1 : Nat) : Int) by omega]
  | succ d ih =>
    intro k j h1 h2
    obtain ⟨k, rfl⟩ := succ_of (show 0 < k by omega)
    have hjw : j * w ≤ x * w := Nat.mul_le_mul_right _ (by omega)
    simp only [laws_FnRepeats.l24, laws_FnRepeats.b24]
    rw [if_pos (by omega)]
    obtain ⟨k1, e1, e2⟩ := rep31 l0 m w h x y i j ps (by omega) (by omega) (by omega) (by omega) ps.length k 0 false (by omega) (by omega) (.inr (by rw [List.drop_zero]; exact hall j (by omega)))
    rw [show ((0 : Nat) : Int) = 0 from rfl] at e2
    rw [e2]
    obtain ⟨k', e3, e4⟩ := ih k1 (j + 1) (by omega) (by omega)
    exact ⟨k', by omega, e4⟩
theorem rep19 {l0 : List Int} (hb : By l0) (m : List Int) (w h x y : Nat) (ps : List (Int × Int)) (hps : ps.length ≤ 64) (hx : x * w ≤ 8 ∧ x ≤ 8) (hy : y * h ≤ 8 ∧ y ≤ 8) (hall : ∀ i j, i < y → j < x → (((i * h : Nat) : Int), ((j * w : Nat) : Int)) ∈ ps) : ∀ (d k i : Nat), i + d = y → 1000 * d + 6000 < k → laws_FnRepeats.l19 k l0 (w : Int) (h : Int) m (x : Int) (y : Int) ps (i : Int) = some true := by
  intro d
  induction d with
  | zero =>
    intro k i h1 h2
    obtain ⟨k, rfl⟩ := succ_of (show 0 < k by omega)
    simp only [laws_FnRepeats.l19, laws_FnRepeats.b19]
    rw [if_neg (by omega)]
    exact repTail k hb (by omega)
  | succ d ih =>
    intro k i h1 h2
    obtain ⟨k, rfl⟩ := succ_of (show 0 < k by omega)
    have hih : i * h ≤ y * h := Nat.mul_le_mul_right _ (by omega)
    simp only [laws_FnRepeats.l19, laws_FnRepeats.b19]
    rw [if_pos (by omega)]
    obtain ⟨k', e1, e2⟩ := rep24 l0 m w h x y i ps hps hx (by omega) (fun j hj => hall i j (by omega) hj) x k 0 (by omega) (by omega)
    rw [show ((0 : Nat) : Int) = 0 from rfl] at e2
    rw [e2]
    exact ih k' (i + 1) (by omega) (by omega)
theorem pure_holds : Pure := by
  intro l0 _ hw
  have hb := By.of hw
  refine ⟨40000, ?_⟩
  unfold laws_FnRepeats.f laws_FnRepeats.m laws_vBig.f laws_vBig.m
  simp only [Option.bind_some]
  generalize hK : 40000 = K
  cases decide (65536 < (l0.length : Int)) with
  | true => rfl
  | false =>
  simp only [Bool.not_true, Bool.not_false, cond_true, cond_false, Bool.true_and, Bool.false_and, Bool.and_true, Bool.and_false, Bool.false_eq_true, Bool.true_or, Bool.or_true, Bool.false_or, Bool.or_false, Bool.or_self, Bool.and_self, decide_true, decide_false, if_true, if_false, not_true, not_false_eq_true, not_true_eq_false, false_or, or_false, true_and, and_true, Bool.not_eq_true, Bool.true_eq_false, reduceCtorEq]
  obtain ⟨⟨w, h, l, x, y⟩, e, hl⟩ := drawRep_ok K hb (by omega)
  dsimp only at hl
  rw [e]; simp only [Option.bind_some]
  rw [implRep_eq K w h l x y (by omega) (by omega), specRep_eq K w h l x y (by omega) (by omega)]; simp only [Option.bind_some]
  rw [if_neg (fun hn => hn trivial)]
  unfold repOut
  by_cases hc : repC w h l x y
  · rw [if_pos hc]
    obtain ⟨hg, ⟨hx, hx8⟩, hy, hy8⟩ := hc
    obtain ⟨hw8, hh8, _, _⟩ := good_of hg
    obtain ⟨w, rfl⟩ := Int.eq_ofNat_of_zero_le (show 0 ≤ w by omega)
    obtain ⟨h, rfl⟩ := Int.eq_ofNat_of_zero_le (show 0 ≤ h by omega)
    obtain ⟨x, rfl⟩ := Int.eq_ofNat_of_zero_le (show 0 ≤ x by omega)
    obtain ⟨y, rfl⟩ := Int.eq_ofNat_of_zero_le (show 0 ≤ y by omega)
    simp only [← nat_mul_cast] at *
    have hxx : x ≤ x * w := Nat.le_mul_of_pos_right x (by omega)
    have hyy : y ≤ y * h := Nat.le_mul_of_pos_right y (by omega)
    have gx : 1 ≤ x ∧ x * w ≤ 8 := by omega
    have gy : 1 ≤ y ∧ y * h ≤ 8 := by omega
    have hgg := repL_good hg gx gy
    have hlen := okC_len (good_ok hgg)
    have hpl := placesR_len (good_ok hgg) (good_ok hg)
    have hmany := places_many hg gx gy
    have hxy : x * y ≤ 64 := by omega
    obtain ⟨sl1, sl2⟩ := small_le hg gx gy
    have htk := takeR_len (w : Int) (h : Int) (placesR ((x * w : Nat) : Int) ((y * h : Nat) : Int) (repL (w : Int) (h : Int) l (x : Int) (y : Int)) (w : Int) (h : Int) l) []
    rw [vChart_self K _ _ _ (by omega) (by omega)]; simp only [Option.bind_some, Bool.not_true, cond_false, cond_true]
    rw [implPlacesOf_eq K _ _ _ _ _ _ (by omega) (by omega) (by omega), implSmall_eq hgg K (by omega), implApartOf_eq K _ _ _ _ _ _ (by omega) (by omega) (by omega), if_pos ⟨hgg, hg⟩, if_pos ⟨hgg, hg⟩]; simp only [Option.bind_some, Bool.not_true, cond_false]
    rw [if_neg (by omega), if_neg (by omega), if_neg (by simp only [List.length_nil] at htk; omega), w64_id (x := ((x * y : Nat) : Int)) (by omega), if_neg (by omega)]
    exact rep19 hb l w h x y _ hpl (by omega) (by omega) (fun i j hi hj => tile_place hg gx gy hi hj) y K 0 (by omega) (by omega)
  · rw [if_neg hc]; simp only
    rw [vChart_self K _ _ _ (by simp) (by omega)]; simp only [Option.bind_some, Bool.not_true, cond_false]
    exact repTail K hb (by omega)
end Go.Proofs.Ytijmljaemalgmaa.DFnRepeats
