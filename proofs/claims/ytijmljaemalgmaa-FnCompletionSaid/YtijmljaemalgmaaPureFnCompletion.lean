/- A completed chart has the symmetry, needs no change, and differs in as few cells as FewestChanges says. -/
import Derived.Test.YtijmljaemalgmaaDFnCompletion
set_option linter.unusedVariables false
set_option linter.unusedSimpArgs false
set_option maxRecDepth 100000
namespace Go.Proofs.Ytijmljaemalgmaa.DFnCompletion
open Go Go.Proofs.YtijmljaemalgmaaD
theorem succ_of {k : Nat} (h : 0 < k) : ∃ j, k = j + 1 := ⟨k - 1, by omega⟩
theorem w64_id {x : Int} (h : -9223372036854775808 ≤ x ∧ x ≤ 9223372036854775807) : w64 x = x := by
  unfold w64 IntKind.wrap
  simp [IntKind.signed, IntKind.bits]
  omega
theorem chk_nat {n j : Nat} (h : j < n) : chk n (j : Int) = some j := by unfold chk; rw [if_pos (by omega)]; simp
theorem chk_int {n : Nat} {i : Int} (h : 0 ≤ i ∧ i < n) : chk n i = some i.toNat := by unfold chk; rw [if_pos h]
theorem cut_int {n : Nat} {i j : Int} (h : 0 ≤ i ∧ i ≤ j ∧ j ≤ n) : cut n i j = some (i.toNat, j.toNat - i.toNat) := by unfold cut; rw [if_pos h]
theorem cutTo_int {n : Nat} {j : Int} (h : 0 ≤ j ∧ j ≤ n) : cutTo n j = some j.toNat := by unfold cutTo; rw [if_pos h]
theorem cut3_int {n : Nat} {i j m : Int} (h : 0 ≤ i ∧ i ≤ j ∧ j ≤ m ∧ m ≤ n) : cut3 n i j m = some () := by unfold cut3; rw [if_pos h]
theorem mkl_int {L : Nat} {n c : Int} (h : 0 ≤ n ∧ n ≤ c ∧ c ≤ L) : mkl L n c = some n.toNat := by unfold mkl; rw [if_pos h]
theorem selfApp_nat {i lo m : Nat} (h : i ≤ lo) : selfApp i lo m = some (i + m) := by unfold selfApp; rw [if_pos h]
section
variable {β : Type}
theorem app_ok {L : Nat} {xs ys : List β} (h : xs.length + ys.length ≤ L) : app L xs ys = some (xs ++ ys) := by unfold app; rw [if_pos h]
theorem chk_mid (p : List β) (a : β) (q : List β) : chk (p ++ a :: q).length (p.length : Int) = some p.length := chk_nat (by simp)
theorem getD_mid (p : List β) (a : β) (q : List β) (d : β) : (p ++ a :: q).getD p.length d = a := by
  rw [List.getD_eq_getElem?_getD, List.getElem?_append_right (Nat.le_refl _)]; simp
theorem set_mid (p : List β) (a b : β) (q : List β) : (p ++ a :: q).set p.length b = p ++ b :: q := by
  rw [List.set_append_right _ _ (Nat.le_refl _)]; simp
theorem upd_mid (p : List β) (a : β) (q : List β) (d : β) (f : β → β) : upd (p ++ a :: q) p.length d f = p ++ f a :: q := by
  unfold upd; rw [getD_mid, set_mid]
theorem upd_len (xs : List β) (j : Nat) (d : β) (f : β → β) : (upd xs j d f).length = xs.length := by unfold upd; simp
theorem upd_of {xs : List β} {j : Nat} {d : β} {f : β → β} : upd xs j d f = xs.set j (f (xs.getD j d)) := rfl
theorem lt_mid (p : List β) (a : β) (q : List β) : (p.length : Int) < ((p ++ a :: q).length : Nat) := by simp; omega
theorem next_mid {p : List β} {a : β} {q : List β} (h : (p ++ a :: q).length ≤ 1152921504606846976) : w64 ((p.length : Int) + 1) = ((p ++ [a]).length : Nat) := by
  rw [w64_id (by simp at h; omega)]; simp
theorem snoc_app (p : List β) (a : β) (q : List β) : p ++ a :: q = (p ++ [a]) ++ q := by simp
theorem getD_lt {xs : List β} {i : Nat} {d : β} (h : i < xs.length) : xs.getD i d = xs[i] := by
  rw [List.getD_eq_getElem?_getD, List.getElem?_eq_getElem h]; rfl
theorem getD_set {xs : List β} {i j : Nat} {a d : β} (h : i < xs.length) : (xs.set i a).getD j d = if i = j then a else xs.getD j d := by
  rw [List.getD_eq_getElem?_getD, List.getD_eq_getElem?_getD, List.getElem?_set]
  split
  · rename_i e; subst e; simp [h]
  · rfl
theorem some_bind {γ : Type} (x : β) (f : β → Option γ) : (some x).bind f = f x := rfl
end
def inB (n lo hi : Int) : Bool := decide (lo ≤ n) && decide (n ≤ hi)
theorem inB_iff {n lo hi : Int} : inB n lo hi = true ↔ lo ≤ n ∧ n ≤ hi := by unfold inB; simp
theorem inB_of {n lo hi : Int} (h : lo ≤ n ∧ n ≤ hi) : inB n lo hi = true := inB_iff.2 h
theorem notB {b : Bool} (h : ¬ b = true) : b = false := by cases b <;> simp_all
theorem all_loop {β : Type} {L : Nat → Nat → Option β} {n K0 : Nat} {ok : Nat → Bool} {f : Option β} (hs : ∀ k i, K0 ≤ k → i < n → L (k + 1) i = if ok i = true then L k (i + 1) else f) :
    ∀ (d k i : Nat), i + d = n → K0 + d < k → (∀ e, (∀ k, K0 ≤ k → L (k + 1) n = e) → (∀ j, i ≤ j → j < n → ok j = true) → L k i = e) ∧ ((∃ j, i ≤ j ∧ j < n ∧ ok j = false) → L k i = f) := by
  intro d
  induction d with
  | zero =>
    intro k i h1 h2
    obtain ⟨k, rfl⟩ := succ_of (show 0 < k by omega)
    have : i = n := by omega
    subst this
    exact ⟨fun e he _ => he k (by omega), fun ⟨j, a, b, _⟩ => by omega⟩
  | succ d ih =>
    intro k i h1 h2
    obtain ⟨k, rfl⟩ := succ_of (show 0 < k by omega)
    have := ih k (i + 1) (by omega) (by omega)
    rw [hs k i (by omega) (by omega)]
    refine ⟨fun e he h => ?_, fun ⟨j, a, b, c⟩ => ?_⟩
    · rw [if_pos (h i (Nat.le_refl _) (by omega))]; exact this.1 e he fun j a b => h j (by omega) b
    · by_cases e : ok i = true
      · rw [if_pos e]
        refine this.2 ⟨j, ?_, b, c⟩
        rcases Nat.lt_or_ge i j with h | h
        · exact h
        · have : j = i := by omega
          subst this; rw [e] at c; cases c
      · rw [if_neg e]
theorem exists_bad {n : Nat} {ok : Nat → Bool} (h : ¬ ∀ i, i < n → ok i = true) : ∃ j, 0 ≤ j ∧ j < n ∧ ok j = false := by
  apply Classical.byContradiction; intro hn
  refine h fun j hj => ?_
  cases hc : ok j with
  | true => rfl
  | false => exact absurd ⟨j, Nat.zero_le _, hj, hc⟩ hn
theorem first_bad {n : Nat} {ok : Nat → Bool} (h : ¬ ∀ i, i < n → ok i = true) : ∃ j, j < n ∧ ok j = false ∧ ∀ i, i < j → ok i = true := by
  induction n with
  | zero => exact absurd (fun i hi => by omega) h
  | succ n ih =>
    by_cases h1 : ∀ i, i < n → ok i = true
    · refine ⟨n, by omega, ?_, h1⟩
      cases hc : ok n with
      | false => rfl
      | true => exact absurd (fun i hi => by
          rcases Nat.lt_or_ge i n with h' | h'
          · exact h1 i h'
          · have : i = n := by omega
            rw [this]; exact hc) h
    · obtain ⟨j, a, b, c⟩ := ih h1
      exact ⟨j, by omega, b, c⟩
theorem find_loop {L : Nat → Nat → Option Int} {n K0 : Nat} {ok : Nat → Bool} (hs : ∀ k i, K0 ≤ k → i < n → L (k + 1) i = if ok i = true then some (i : Int) else L k (i + 1)) (he : ∀ k, K0 ≤ k → L (k + 1) n = some (-1)) :
    ∀ (d k i : Nat), i + d = n → K0 + d < k → ((∀ j, i ≤ j → j < n → ok j = false) → L k i = some (-1)) ∧ (∀ m, i ≤ m → m < n → ok m = true → (∀ j, i ≤ j → j < m → ok j = false) → L k i = some (m : Int)) := by
  intro d
  induction d with
  | zero =>
    intro k i h1 h2
    obtain ⟨k, rfl⟩ := succ_of (show 0 < k by omega)
    have : i = n := by omega
    subst this
    exact ⟨fun _ => he k (by omega), fun m a b _ _ => by omega⟩
  | succ d ih =>
    intro k i h1 h2
    obtain ⟨k, rfl⟩ := succ_of (show 0 < k by omega)
    have := ih k (i + 1) (by omega) (by omega)
    rw [hs k i (by omega) (by omega)]
    refine ⟨fun h => ?_, fun m a b c h => ?_⟩
    · rw [if_neg (by rw [h i (Nat.le_refl _) (by omega)]; simp)]; exact this.1 fun j a b => h j (by omega) b
    · by_cases e : ok i = true
      · rw [if_pos e]
        rcases Nat.lt_or_ge i m with h' | h'
        · have := h i (Nat.le_refl _) h'; rw [e] at this; cases this
        · have : m = i := by omega
          rw [this]
      · rw [if_neg e]
        refine this.2 m ?_ b c fun j a b => h j (by omega) b
        rcases Nat.lt_or_ge i m with h' | h'
        · exact h'
        · have : m = i := by omega
          subst this; exact absurd c e
theorem stepb {α γ : Type} {a : Option α} {x : α} {f : α → Option γ} {r : Option γ} (h : a = some x) (g : f x = r) : a.bind f = r := by rw [h]; exact g
theorem ifn {γ : Type} {c : Prop} {i : Decidable c} {t e r : γ} (h : ¬ c) (g : e = r) : @ite γ c i t e = r := by rw [if_neg h]; exact g
theorem condt {γ : Type} {a b r : γ} (g : b = r) : cond (!true) a b = r := g
def Yl {α : Type} (x : Option α) (P : α → Prop) : Prop := ∃ a, x = some a ∧ P a
theorem Yl.bind {α β : Type} {x : Option α} {f : α → Option β} {P : α → Prop} {Q : β → Prop} (h : Yl x P) (g : ∀ a, P a → Yl (f a) Q) : Yl (x.bind f) Q := by
  obtain ⟨a, rfl, ha⟩ := h; exact g a ha
theorem Yl.mono {α : Type} {x : Option α} {P Q : α → Prop} (h : Yl x P) (g : ∀ a, P a → Q a) : Yl x Q := by
  obtain ⟨a, e, ha⟩ := h; exact ⟨a, e, g a ha⟩
theorem Yl.ret {α : Type} {a : α} {P : α → Prop} (h : P a) : Yl (some a) P := ⟨a, rfl, h⟩
theorem Yl.ite {α : Type} {c : Prop} [i : Decidable c] {t e : Option α} {P : α → Prop} (ht : c → Yl t P) (he : ¬ c → Yl e P) : Yl (@ite _ c i t e) P := by
  by_cases h : c
  · rw [if_pos h]; exact ht h
  · rw [if_neg h]; exact he h
theorem Yl.cond {α : Type} {c : Bool} {t e : Option α} {P : α → Prop} (ht : c = true → Yl t P) (he : c = false → Yl e P) : Yl (cond c t e) P := by
  cases c
  · exact he rfl
  · exact ht rfl
def By (l : List Int) : Prop := ∀ y ∈ l, 0 ≤ y ∧ y ≤ 255
theorem By.of {l : List Int} (h : ∀ y ∈ l, (Lit.int .u8 y).wf = true) : By l := by
  intro y hy; have h := h y hy
  unfold Lit.wf at h; rw [Bool.and_eq_true] at h
  have h1 := of_decide_eq_true h.1; have h2 := of_decide_eq_true h.2
  exact ⟨h1, h2⟩
theorem byteBits (q : Int) : 0 ≤ band .u64 q 255 ∧ band .u64 q 255 ≤ 255 := by
  have h : (BitVec.ofInt 64 q &&& BitVec.ofInt 64 255).toNat ≤ 255 := by
    rw [BitVec.toNat_and]
    exact Nat.le_trans Nat.and_le_right (by decide)
  change 0 ≤ IntKind.wrap .u64 ((((BitVec.ofInt 64 q &&& BitVec.ofInt 64 255).toNat : Nat)) : Int) ∧ IntKind.wrap .u64 ((((BitVec.ofInt 64 q &&& BitVec.ofInt 64 255).toNat : Nat)) : Int) ≤ 255
  generalize (BitVec.ofInt 64 q &&& BitVec.ofInt 64 255).toNat = n at *
  unfold IntKind.wrap
  simp [IntKind.signed, IntKind.bits]
  omega
theorem next_ok (k : Nat) {l : List Int} {a : Int} (s : Int) (hb : By l) (h : 0 ≤ a ∧ a ≤ 1000000000000000) (hk : 5 ≤ k) : Yl (spec_l1Cur_next.f k l a s) fun r => r.2.1 = l ∧ r.2.2.1 = a + 1 ∧ 0 ≤ r.1 ∧ r.1 ≤ 255 := by
  obtain ⟨k, rfl⟩ := succ_of (show 0 < k by omega)
  have key : ∀ b : Int, 0 ≤ b ∧ b ≤ 255 → Yl (spec_l1Cur_next.l2 (k + 1) l a s b) fun r => r.2.1 = l ∧ r.2.2.1 = a + 1 ∧ 0 ≤ r.1 ∧ r.1 ≤ 255 := fun b hbb => by
    simp only [spec_l1Cur_next.l2, spec_l1Cur_next.b2]
    rw [w64_id (x := a + 1) (by omega)]
    refine Yl.ite (fun _ => Yl.ret ⟨rfl, rfl, hbb⟩) fun _ => ?_
    unfold shr; rw [if_neg (by omega)]; simp only [Option.bind_some]
    refine Yl.ret ⟨rfl, rfl, ?_⟩
    have := byteBits ((IntKind.u64.wrap (IntKind.u64.wrap (IntKind.u64.wrap (s * 6364136223846793005) + IntKind.u64.wrap b) + 102323)).fdiv (2 ^ min (Int.toNat 40) IntKind.u64.bits))
    rw [w64_id (by omega)]; exact this
  unfold spec_l1Cur_next.f spec_l1Cur_next.m
  refine Yl.ite (fun hlt => ?_) fun _ => key 0 (by omega)
  rw [chk_int (by omega)]; simp only [Option.bind_some]
  have hi : a.toNat < l.length := by omega
  have := hb _ (List.getElem_mem hi)
  rw [getD_lt hi, w64_id (by omega)]
  exact key _ this
theorem pick_ok (k : Nat) {l : List Int} {a : Int} (s n : Int) (hb : By l) (h : 0 ≤ a ∧ a ≤ 1000000000000) (hk : 5 ≤ k) : Yl (spec_l1Cur_pick.f k l a s n) fun r => r.2.1 = l ∧ a ≤ r.2.2.1 ∧ r.2.2.1 ≤ a + 2 ∧ 0 ≤ r.1 ∧ (r.1 = 0 ∨ r.1 < n) ∧ r.1 ≤ 65535 := by
  unfold spec_l1Cur_pick.f spec_l1Cur_pick.m
  refine Yl.ite (fun _ => Yl.ret ⟨rfl, by simp, by dsimp only; omega, by simp⟩) fun hn => ?_
  refine Yl.bind (next_ok k s hb (by omega) hk) ?_
  rintro ⟨b, l', a', s'⟩ ⟨e1, e2, e3, e4⟩
  dsimp only at *; subst e1; subst e2
  refine Yl.ite (fun hn2 => ?_) fun _ => ?_
  · refine Yl.bind (next_ok k s' hb (by omega) hk) ?_
    rintro ⟨c, l2, a2, s2⟩ ⟨f1, f2, f3, f4⟩
    dsimp only at *; subst f1; subst f2
    rw [w64_id (x := b * 256) (by omega), w64_id (by omega)]
    unfold rem; rw [if_neg (by omega)]; simp only [Option.bind_some]
    rw [Int.tmod_eq_emod_of_nonneg (by omega)]
    have := Int.emod_nonneg (b * 256 + c) (show n ≠ 0 by omega)
    have := Int.emod_lt_of_pos (b * 256 + c) (show 0 < n by omega)
    have : (b * 256 + c) % n ≤ b * 256 + c := by
      rcases Int.lt_or_le (b * 256 + c) n with h | h
      · rw [Int.emod_eq_of_lt (by omega) h]; omega
      · omega
    exact Yl.ret ⟨rfl, by dsimp only; omega, by dsimp only; omega, by omega, by omega, by dsimp only; omega⟩
  · unfold rem; rw [if_neg (by omega)]; simp only [Option.bind_some]
    rw [Int.tmod_eq_emod_of_nonneg (by omega)]
    have := Int.emod_nonneg b (show n ≠ 0 by omega)
    have := Int.emod_lt_of_pos b (show 0 < n by omega)
    exact Yl.ret ⟨rfl, by dsimp only; omega, by dsimp only; omega, by omega, by omega, by dsimp only; omega⟩
theorem one_ok (k : Nat) {l : List Int} {a : Int} (s n : Int) (hb : By l) (h : 0 ≤ a ∧ a ≤ 1000000000000) (hk : 5 ≤ k) : Yl (spec_l1Cur_one.f k l a s n) fun r => r.2.1 = l ∧ a ≤ r.2.2.1 ∧ r.2.2.1 ≤ a + 2 := by
  unfold spec_l1Cur_one.f spec_l1Cur_one.m
  refine Yl.bind (pick_ok k s n hb h hk) ?_
  rintro ⟨b, l', a', s'⟩ ⟨e1, e2, e3, e4⟩
  exact Yl.ret ⟨e1, e2, e3⟩
theorem among_ok (k : Nat) {l : List Int} {a : Int} (s : Int) {xs : List Int} (lo hi : Int) (hx : 0 < xs.length ∧ xs.length ≤ 60000) (hm : ∀ x ∈ xs, lo ≤ x ∧ x ≤ hi) (hb : By l) (h : 0 ≤ a ∧ a ≤ 1000000000000) (hk : 5 ≤ k) : Yl (spec_l1Cur_among_2.f k l a s xs) fun r => r.2.1 = l ∧ r.2.2.2.2 = xs ∧ a ≤ r.2.2.1 ∧ r.2.2.1 ≤ a + 2 ∧ lo ≤ r.1 ∧ r.1 ≤ hi := by
  unfold spec_l1Cur_among_2.f spec_l1Cur_among_2.m
  refine Yl.bind (pick_ok k s _ hb h hk) ?_
  rintro ⟨b, l', a', s'⟩ ⟨e1, e2, e3, e4, e5, e6⟩
  dsimp only at *
  rw [chk_int (by omega)]; simp only [Option.bind_some]
  have hi : b.toNat < xs.length := by omega
  have := hm _ (List.getElem_mem hi)
  rw [getD_lt hi]
  exact Yl.ret ⟨e1, rfl, e2, e3, this⟩
theorem among_any (k : Nat) {l : List Int} {a : Int} (s : Int) {xs : List Int} (hx : 0 < xs.length ∧ xs.length ≤ 60000) (hb : By l) (h : 0 ≤ a ∧ a ≤ 1000000000000) (hk : 5 ≤ k) : Yl (spec_l1Cur_among_2.f k l a s xs) fun r => r.2.1 = l ∧ r.2.2.2.2 = xs ∧ a ≤ r.2.2.1 ∧ r.2.2.1 ≤ a + 2 := by
  unfold spec_l1Cur_among_2.f spec_l1Cur_among_2.m
  refine Yl.bind (pick_ok k s _ hb h hk) ?_
  rintro ⟨b, l', a', s'⟩ ⟨e1, e2, e3, e4, e5, e6⟩
  dsimp only at *
  rw [chk_int (by omega)]; simp only [Option.bind_some]
  exact Yl.ret ⟨e1, rfl, e2, e3⟩
theorem quo2 {x : Int} {β : Type} {f : Int → Option β} {P : β → Prop} (h : ∀ q, Yl (f q) P) : Yl ((quo .i64 x 2).bind f) P := by
  unfold quo; rw [if_neg (by omega)]; exact h _
def colorB (x : Int) : Bool := inB x 0 5
def goodB (w h : Int) (l : List Int) : Bool := inB w 1 8 && inB h 1 8 && decide ((l.length : Int) = w * h) && l.all colorB
theorem mul_bd {w h : Int} (hw : 1 ≤ w ∧ w ≤ 8) (hh : 1 ≤ h ∧ h ≤ 8) : 1 ≤ w * h ∧ w * h ≤ 64 := by
  obtain ⟨a, b⟩ := hw; obtain ⟨c, d⟩ := hh
  have h1 : w = 1 ∨ w = 2 ∨ w = 3 ∨ w = 4 ∨ w = 5 ∨ w = 6 ∨ w = 7 ∨ w = 8 := by omega
  rcases h1 with rfl | rfl | rfl | rfl | rfl | rfl | rfl | rfl <;> omega
theorem good_of {w h : Int} {l : List Int} (hg : goodB w h l = true) : (1 ≤ w ∧ w ≤ 8) ∧ (1 ≤ h ∧ h ≤ 8) ∧ (l.length : Int) = w * h ∧ ∀ x ∈ l, 0 ≤ x ∧ x ≤ 5 := by
  unfold goodB at hg
  simp only [Bool.and_eq_true, decide_eq_true_eq, List.all_eq_true, inB_iff] at hg
  exact ⟨hg.1.1.1, hg.1.1.2, hg.1.2, fun x hx => inB_iff.1 (hg.2 x hx)⟩
theorem allI_iff (p : Int → Bool) (xs : List Int) : xs.all p = true ↔ ∀ i, i < xs.length → p (xs.getD i 0) = true := by
  rw [List.all_eq_true]
  constructor
  · intro h i hi; rw [getD_lt hi]; exact h _ (List.getElem_mem hi)
  · intro h x hx
    obtain ⟨i, hi, rfl⟩ := List.mem_iff_getElem.1 hx
    rw [← getD_lt (d := 0) hi]; exact h i hi
theorem specIn_eq (k : Nat) (n lo hi : Int) : spec_l1In.f k n lo hi = some (inB n lo hi) := by
  unfold spec_l1In.f spec_l1In.m inB; by_cases h : lo ≤ n <;> simp [h]
theorem implIn_eq (k : Nat) (n lo hi : Int) : impl_in.f k n lo hi = some (inB n lo hi) := by
  unfold impl_in.f impl_in.m inB; by_cases h : lo ≤ n <;> simp [h]
theorem l2Color_eq (k : Nat) (n : Int) : spec_l2Color.f k n = some (colorB n) := by unfold spec_l2Color.f spec_l2Color.m; rw [specIn_eq]; rfl
theorem l2Side_eq (k : Nat) (n : Int) : spec_l2Side.f k n = some (inB n 1 8) := by unfold spec_l2Side.f spec_l2Side.m; rw [specIn_eq]; rfl
theorem isColor_eq (k : Nat) (n : Int) : impl_isColor.f k n = some (colorB n) := by unfold impl_isColor.f impl_isColor.m; rw [implIn_eq]; rfl
theorem isSide_eq (k : Nat) (n : Int) : impl_isSide.f k n = some (inB n 1 8) := by unfold impl_isSide.f impl_isSide.m; rw [implIn_eq]; rfl
theorem l2Good_eq (k : Nat) (w h : Int) (l : List Int) (hl : l.length ≤ 100000000000000) (hk : l.length + 50 ≤ k) : spec_l2Good.f k w h l = some (goodB w h l) := by
  unfold spec_l2Good.f spec_l2Good.m
  have hq := (all_loop (L := fun k i => spec_l2Good.l3 k w h l (i : Int)) (n := l.length) (K0 := 20) (ok := fun i => colorB (l.getD i 0)) (f := some false) (fun k i hk hi => ?_)) l.length k 0 (by omega) (by omega)
  · rw [show ((0 : Nat) : Int) = 0 from rfl] at hq
    by_cases hc : l.all colorB = true
    · rw [hq.1 _ (fun k hk => ?_) (fun j _ hj => (allI_iff _ _).1 hc j hj)]
      simp (disch := omega) only [spec_l2Good.l3, spec_l2Good.b3, if_neg, l2Side_eq, Option.bind_some]
      unfold goodB
      cases e1 : inB w 1 8 <;> simp only [Bool.not_true, Bool.not_false, cond_true, cond_false, Bool.true_and, Bool.false_and, Bool.and_true, Bool.and_false, Bool.false_eq_true, Bool.true_or, Bool.or_true, Bool.false_or, Bool.or_false, Bool.or_self, Bool.and_self, decide_true, decide_false, if_true, if_false, not_true, not_false_eq_true, not_true_eq_false, false_or, or_false, true_and, and_true, Bool.not_eq_true, Bool.true_eq_false, reduceCtorEq]
      cases e2 : inB h 1 8 <;> simp only [Bool.not_true, Bool.not_false, cond_true, cond_false, Bool.true_and, Bool.false_and, Bool.and_true, Bool.and_false, Bool.false_eq_true, Bool.true_or, Bool.or_true, Bool.false_or, Bool.or_false, Bool.or_self, Bool.and_self, decide_true, decide_false, if_true, if_false, not_true, not_false_eq_true, not_true_eq_false, false_or, or_false, true_and, and_true, Bool.not_eq_true, Bool.true_eq_false, reduceCtorEq, hc, Option.bind_some]
      have := mul_bd (inB_iff.1 e1) (inB_iff.1 e2)
      rw [w64_id (by omega)]
    · rw [hq.2 (exists_bad fun hn => hc ((allI_iff _ _).2 hn))]
      unfold goodB; rw [notB hc]; simp
  · simp (disch := omega) only [spec_l2Good.l3, spec_l2Good.b3, if_pos, chk_nat, Option.bind_some, w64_id, l2Color_eq, Int.natCast_add, Int.cast_ofNat_Int]
    cases colorB (l.getD i 0) <;> simp only [Bool.not_true, Bool.not_false, cond_true, cond_false, Bool.true_and, Bool.false_and, Bool.and_true, Bool.and_false, Bool.false_eq_true, Bool.true_or, Bool.or_true, Bool.false_or, Bool.or_false, Bool.or_self, Bool.and_self, decide_true, decide_false, if_true, if_false, not_true, not_false_eq_true, not_true_eq_false, false_or, or_false, true_and, and_true, Bool.not_eq_true, Bool.true_eq_false, reduceCtorEq]
theorem areColors_eq (k : Nat) (l : List Int) (hl : l.length ≤ 100000000000000) (hk : l.length + 50 ≤ k) : impl_areAll_int__impl_isColor.f k l = some (l.all colorB) := by
  unfold impl_areAll_int__impl_isColor.f impl_areAll_int__impl_isColor.m slices_ContainsFunc_int_int__impl_areAll_int_1__impl_isColor.f slices_ContainsFunc_int_int__impl_areAll_int_1__impl_isColor.m slices_IndexFunc_int_int__impl_areAll_int_1__impl_isColor.f slices_IndexFunc_int_int__impl_areAll_int_1__impl_isColor.m
  have h := (find_loop (L := fun k i => slices_IndexFunc_int_int__impl_areAll_int_1__impl_isColor.l3 k l l.length (i : Int)) (n := l.length) (K0 := 20) (ok := fun i => !colorB (l.getD i 0)) (fun k i hk hi => ?_) (fun k hk => ?_)) l.length k 0 (by omega) (by omega)
  · rw [show ((0 : Nat) : Int) = 0 from rfl] at h
    by_cases ha : l.all colorB = true
    · rw [h.1 (fun j _ hj => by rw [(allI_iff _ _).1 ha j hj]; rfl), ha]; rfl
    · obtain ⟨m, h1, h2, h3⟩ := first_bad (n := l.length) (ok := fun i => colorB (l.getD i 0)) (fun hn => ha ((allI_iff _ _).2 hn))
      rw [h.2 m (Nat.zero_le _) h1 (by rw [h2]; rfl) (fun j _ hj => by rw [h3 j hj]; rfl), notB ha]
      simp
  · simp (disch := omega) only [slices_IndexFunc_int_int__impl_areAll_int_1__impl_isColor.l3, slices_IndexFunc_int_int__impl_areAll_int_1__impl_isColor.b3, impl_areAll_int_1__impl_isColor.f, impl_areAll_int_1__impl_isColor.m, isColor_eq, if_pos, chk_nat, Option.bind_some, w64_id, Int.natCast_add, Int.cast_ofNat_Int]
    cases colorB (l.getD i 0) <;> simp only [Bool.not_true, Bool.not_false, cond_true, cond_false, Bool.true_and, Bool.false_and, Bool.and_true, Bool.and_false, Bool.false_eq_true, Bool.true_or, Bool.or_true, Bool.false_or, Bool.or_false, Bool.or_self, Bool.and_self, decide_true, decide_false, if_true, if_false, not_true, not_false_eq_true, not_true_eq_false, false_or, or_false, true_and, and_true, Bool.not_eq_true, Bool.true_eq_false, reduceCtorEq]
  · simp (disch := omega) only [slices_IndexFunc_int_int__impl_areAll_int_1__impl_isColor.l3, slices_IndexFunc_int_int__impl_areAll_int_1__impl_isColor.b3, if_neg]
theorem isChart_eq (k : Nat) (w h : Int) (l : List Int) (hl : l.length ≤ 100000000000000) (hk : l.length + 50 ≤ k) : impl_IsChart.f k w h l = some (goodB w h l) := by
  unfold impl_IsChart.f impl_IsChart.m goodB
  rw [isSide_eq, isSide_eq, areColors_eq k l hl hk]
  simp only [Option.bind_some]
  cases e1 : inB w 1 8 <;> simp only [Bool.not_true, Bool.not_false, cond_true, cond_false, Bool.true_and, Bool.false_and, Bool.and_true, Bool.and_false, Bool.false_eq_true, Bool.true_or, Bool.or_true, Bool.false_or, Bool.or_false, Bool.or_self, Bool.and_self, decide_true, decide_false, if_true, if_false, not_true, not_false_eq_true, not_true_eq_false, false_or, or_false, true_and, and_true, Bool.not_eq_true, Bool.true_eq_false, reduceCtorEq]
  cases e2 : inB h 1 8 <;> simp only [Bool.not_true, Bool.not_false, cond_true, cond_false, Bool.true_and, Bool.false_and, Bool.and_true, Bool.and_false, Bool.false_eq_true, Bool.true_or, Bool.or_true, Bool.false_or, Bool.or_false, Bool.or_self, Bool.and_self, decide_true, decide_false, if_true, if_false, not_true, not_false_eq_true, not_true_eq_false, false_or, or_false, true_and, and_true, Bool.not_eq_true, Bool.true_eq_false, reduceCtorEq]
  have := mul_bd (inB_iff.1 e1) (inB_iff.1 e2)
  rw [w64_id (by omega)]
  by_cases e : (l.length : Int) = w * h <;> simp [e]
theorem cloneI_eq (k : Nat) (cs : List Int) (hl : cs.length ≤ 5000000) : slices_Clone_int_int.f k cs = some cs := by unfold slices_Clone_int_int.f; rw [app_ok (by simp; omega)]; rfl
theorem ownI_eq (k : Nat) (cs : List Int) (hl : cs.length ≤ 5000000) : spec_l1Own.f k cs = some cs := by unfold spec_l1Own.f spec_l1Own.m; rw [app_ok (by simp; omega)]; rfl
theorem copied_eq (k : Nat) (w h : Int) (l : List Int) (hl : l.length ≤ 5000000) : impl_Chart_copied.f k w h l = some (w, h, l) := by unfold impl_Chart_copied.f impl_Chart_copied.m; rw [cloneI_eq k l hl]; rfl
theorem l2Own_eq (k : Nat) (w h : Int) (l : List Int) (hl : l.length ≤ 5000000) : spec_l2Own.f k w h l = some (w, h, l) := by unfold spec_l2Own.f spec_l2Own.m; rw [ownI_eq k l hl]; rfl
theorem nat_mul_cast (a b : Nat) : ((a * b : Nat) : Int) = (a : Int) * b := Int.natCast_mul a b
theorem lenN {w h : Nat} {l : List Int} (hl : (l.length : Int) = (w : Int) * (h : Int)) : l.length = w * h := by rw [← nat_mul_cast] at hl; omega
theorem plain_l (w h : Nat) (hw : w ≤ 16) (hh : h ≤ 16) : ∀ (d k i : Nat) (l : List Int) (a s : Int) (kn : List Int), i + d = w * h → kn.length = i → (∀ x ∈ kn, 0 ≤ x ∧ x ≤ 5) → By l → 0 ≤ a ∧ a + 4 * d ≤ 1000000000 → 20 + d ≤ k → Yl (spec_l1Cur_plain.l4 k l a s w h 0 0 [] w h kn (i : Int)) fun r => r.1 = (w : Int) ∧ r.2.1 = (h : Int) ∧ r.2.2.2.1 = l ∧ (∀ x ∈ r.2.2.1, 0 ≤ x ∧ x ≤ 5) ∧ (r.2.2.1.length = w * h ∧ a ≤ r.2.2.2.2.1 ∧ r.2.2.2.2.1 ≤ a + 4 * d) := by
  have hN : w * h ≤ 256 := Nat.le_trans (Nat.mul_le_mul hw hh) (by decide)
  have hc : ((w : Int) * (h : Int)) = ((w * h : Nat) : Int) := by rw [Int.natCast_mul]
  intro d
  induction d with
  | zero =>
    intro k i l a s kn h1 h2 hx hb h3 h4
    obtain ⟨k, rfl⟩ := succ_of (show 0 < k by omega)
    simp only [spec_l1Cur_plain.l4, spec_l1Cur_plain.b4]
    rw [hc, w64_id (by omega), if_neg (by omega)]
    exact Yl.ret ⟨rfl, rfl, rfl, hx, by dsimp only; omega⟩
  | succ d ih =>
    intro k i l a s kn h1 h2 hx hb h3 h4
    obtain ⟨k, rfl⟩ := succ_of (show 0 < k by omega)
    simp only [spec_l1Cur_plain.l4, spec_l1Cur_plain.b4]
    have hsnoc : ∀ x : Int, 0 ≤ x ∧ x ≤ 5 → ∀ y ∈ kn ++ [x], 0 ≤ y ∧ y ≤ 5 := fun x hx0 y hy => by
      rcases List.mem_append.1 hy with h | h
      · exact hx y h
      · rw [List.mem_singleton] at h; subst h; exact hx0
    rw [hc, w64_id (by omega), if_pos (by omega), w64_id (x := (i : Int) + 1) (by omega), show ((i : Int) + 1) = ((i + 1 : Nat) : Int) by omega]
    (refine Yl.bind (among_ok _ _ 0 5 (by simp) (by intro x hx; simp at hx; omega) (by assumption) (by omega) (by omega)) ?_; rintro ⟨vq, lq, aq, sq, xq⟩ ⟨eq1, eq2, eq3, eq4, eq5, eq6⟩; dsimp only at *; subst eq1; subst eq2)
    refine Yl.ite (fun hwi => ?_) fun _ => ?_
    · (refine Yl.bind (one_ok _ _ _ (by assumption) (by omega) (by omega)) ?_; rintro ⟨vq, lq, aq, sq⟩ ⟨eq1, eq2, eq3⟩; dsimp only at *; subst eq1)
      refine Yl.cond (fun _ => ?_) fun _ => ?_
      · have hw1 : 1 ≤ w := by
          rcases Nat.eq_zero_or_pos w with h | h
          · subst h; rw [Nat.zero_mul] at h1; omega
          · exact h
        rw [w64_id (by omega), chk_int (by omega)]; simp only [Option.bind_some]
        rw [app_ok (by simp; omega)]; simp only [Option.bind_some]
        refine (ih k (i + 1) _ _ _ _ (by omega) (by simp; omega) (hsnoc _ ?_) (by assumption) (by omega) (by omega)).mono fun r hr => ⟨hr.1, hr.2.1, hr.2.2.1, hr.2.2.2.1, by omega⟩
        rw [getD_lt (by omega)]; exact hx _ (List.getElem_mem _)
      · rw [app_ok (by simp; omega)]; simp only [Option.bind_some]
        exact (ih k (i + 1) _ _ _ _ (by omega) (by simp; omega) (hsnoc _ (by omega)) (by assumption) (by omega) (by omega)).mono fun r hr => ⟨hr.1, hr.2.1, hr.2.2.1, hr.2.2.2.1, by omega⟩
    · rw [app_ok (by simp; omega)]; simp only [Option.bind_some]
      exact (ih k (i + 1) _ _ _ _ (by omega) (by simp; omega) (hsnoc _ (by omega)) (by assumption) (by omega) (by omega)).mono fun r hr => ⟨hr.1, hr.2.1, hr.2.2.1, hr.2.2.2.1, by omega⟩
theorem plain_ok (k : Nat) {l : List Int} {a : Int} (s : Int) {w h : Int} (hw : 0 ≤ w ∧ w ≤ 16) (hh : 0 ≤ h ∧ h ≤ 16) (hb : By l) (ha : 0 ≤ a ∧ a ≤ 100000000) (hk : 1000 ≤ k) : Yl (spec_l1Cur_plain.f k l a s w h) fun r => r.1 = w ∧ r.2.1 = h ∧ r.2.2.2.1 = l ∧ (∀ x ∈ r.2.2.1, 0 ≤ x ∧ x ≤ 5) ∧ (r.2.2.1.length : Int) = w * h ∧ (r.2.2.1.length ≤ 256 ∧ a ≤ r.2.2.2.2.1 ∧ r.2.2.2.2.1 ≤ a + 1100) := by
  obtain ⟨w, rfl⟩ := Int.eq_ofNat_of_zero_le hw.1
  obtain ⟨h, rfl⟩ := Int.eq_ofNat_of_zero_le hh.1
  have hN : w * h ≤ 256 := Nat.le_trans (Nat.mul_le_mul (show w ≤ 16 by omega) (show h ≤ 16 by omega)) (by decide)
  unfold spec_l1Cur_plain.f spec_l1Cur_plain.m
  refine (plain_l w h (by omega) (by omega) (w * h) k 0 l a s [] (by omega) rfl (by simp) hb (by omega) (by omega)).mono fun r hr => ⟨hr.1, hr.2.1, hr.2.2.1, hr.2.2.2.1, ?_, by omega⟩
  have := hr.2.2.2.2.1
  rw [this, Int.natCast_mul]
theorem good_plain {w h : Int} {kn : List Int} (hw : 1 ≤ w ∧ w ≤ 8) (hh : 1 ≤ h ∧ h ≤ 8) (hx : ∀ x ∈ kn, 0 ≤ x ∧ x ≤ 5) (hl : (kn.length : Int) = w * h) : goodB w h kn = true := by
  unfold goodB
  simp only [Bool.and_eq_true, decide_eq_true_eq, List.all_eq_true, inB_iff]
  exact ⟨⟨⟨hw, hh⟩, hl⟩, fun x h => inB_of (hx x h)⟩
theorem chart_ok (k : Nat) {l : List Int} {a : Int} (s : Int) (hb : By l) (ha : 0 ≤ a ∧ a ≤ 1000000) (hk : 2000 ≤ k) : Yl (spec_l1Cur_chart.f k l a s) fun r => r.2.2.2.1 = l ∧ (r.2.2.1.length ≤ 300 ∧ -1 ≤ r.1 ∧ r.1 ≤ 9 ∧ -1 ≤ r.2.1 ∧ r.2.1 ≤ 9 ∧ a ≤ r.2.2.2.2.1 ∧ r.2.2.2.2.1 ≤ a + 3000) := by
  unfold spec_l1Cur_chart.f spec_l1Cur_chart.m
  refine Yl.bind (among_ok _ _ 1 8 (by simp) (by intro x hx; simp at hx; omega) hb (by omega) (by omega)) ?_
  rintro ⟨w, l', a', s', x'⟩ ⟨e1, e2, e3, e4, e5, e6⟩
  dsimp only at *; subst e1
  refine Yl.bind (among_ok _ _ 1 8 (by simp) (by intro x hx; simp at hx; omega) hb (by omega) (by omega)) ?_
  rintro ⟨h, l', a2, s2, x2⟩ ⟨e1, f2, f3, f4, f5, f6⟩
  dsimp only at *; subst e1
  refine Yl.bind (plain_ok k s2 (w := w) (h := h) (by omega) (by omega) hb (by omega) (by omega)) ?_
  rintro ⟨w', h', kn, l', a3, s3⟩ ⟨g1, g2, e1, g3, g4, g5⟩
  dsimp only at *; subst e1; subst g1; subst g2
  have hm := mul_bd (w := w') (h := h') (by omega) (by omega)
  refine Yl.bind (pick_ok _ _ _ hb (by omega) (by omega)) ?_
  rintro ⟨n, l', a4, s4⟩ ⟨e1, i2, i3, i4, i5, i6⟩
  dsimp only at *; subst e1
  refine Yl.ite (fun _ => ?_) fun _ => ?_
  · refine Yl.bind (pick_ok _ _ _ hb (by omega) (by omega)) ?_
    rintro ⟨m, l', a5, s5⟩ ⟨e1, j2, j3, j4, j5, j6⟩
    dsimp only at *; subst e1
    (refine Yl.bind (among_any _ _ (by simp) (by assumption) (by omega) (by omega)) ?_; rintro ⟨vq, lq, aq, sq, xq⟩ ⟨eq1, eq2, eq3, eq4⟩; dsimp only at *; subst eq1; subst eq2)
    rw [chk_int (by omega)]; simp only [Option.bind_some]
    exact Yl.ret ⟨rfl, by dsimp only; rw [List.length_set]; omega⟩
  refine Yl.ite (fun _ => ?_) fun _ => ?_
  · rw [app_ok (by simp; omega)]; simp only [Option.bind_some]
    exact Yl.ret ⟨rfl, by dsimp only; rw [List.length_append, List.length_singleton]; omega⟩
  refine Yl.ite (fun _ => ?_) fun _ => ?_
  · refine Yl.bind (among_ok _ _ 0 9 (by simp) (by intro x hx; simp at hx; omega) hb (by omega) (by omega)) ?_
    rintro ⟨w2, l', a6, s6, x6⟩ ⟨e1, n2, n3, n4, n5, n6⟩
    dsimp only at *; subst e1
    refine Yl.bind (plain_ok k s6 (w := w2) (h := 1) (by omega) (by omega) hb (by omega) (by omega)) ?_
    rintro ⟨w', h', kn, l', a3, s3⟩ ⟨p1, p2, e1, p3, p4, p5⟩
    dsimp only at *; subst e1; subst p1; subst p2
    exact Yl.ret ⟨rfl, by dsimp only; omega⟩
  exact Yl.ret ⟨rfl, by dsimp only; omega⟩
theorem vInts_self (k : Nat) (c : List Int) (hl : c.length ≤ 1000) (hk : 1100 ≤ k) : laws_vInts.f k c c = some true := by
  unfold laws_vInts.f laws_vInts.m
  have h := (all_loop (L := fun k i => laws_vInts.l6 k c c (i : Int)) (n := c.length) (K0 := 20) (ok := fun _ => true) (f := some false) (fun k i hk hi => ?_)) c.length k 0 (by omega) (by omega)
  · rw [show ((0 : Nat) : Int) = 0 from rfl] at h
    simp only [Bool.not_true, Bool.not_false, cond_true, cond_false, Bool.true_and, Bool.false_and, Bool.and_true, Bool.and_false, Bool.false_eq_true, Bool.true_or, Bool.or_true, Bool.false_or, Bool.or_false, Bool.or_self, Bool.and_self, decide_true, decide_false, if_true, if_false, not_true, not_false_eq_true, not_true_eq_false, false_or, or_false, true_and, and_true, Bool.not_eq_true, Bool.true_eq_false, reduceCtorEq]
    exact h.1 (some true) (fun k hk => by simp (disch := omega) only [laws_vInts.l6, laws_vInts.b6, if_neg]) (fun _ _ _ => rfl)
  · simp (disch := omega) only [laws_vInts.l6, laws_vInts.b6, if_pos, chk_nat, Option.bind_some, w64_id, Bool.not_true, Bool.not_false, cond_true, cond_false, Bool.true_and, Bool.false_and, Bool.and_true, Bool.and_false, Bool.false_eq_true, Bool.true_or, Bool.or_true, Bool.false_or, Bool.or_false, Bool.or_self, Bool.and_self, decide_true, decide_false, if_true, if_false, not_true, not_false_eq_true, not_true_eq_false, false_or, or_false, true_and, and_true, Bool.not_eq_true, Bool.true_eq_false, reduceCtorEq, Int.natCast_add, Int.cast_ofNat_Int]
theorem vChart_self (k : Nat) (w h : Int) (l : List Int) (hl : l.length ≤ 1000) (hk : 1100 ≤ k) : laws_vChart.f k w h l w h l = some true := by
  unfold laws_vChart.f laws_vChart.m
  rw [vInts_self k l hl hk]; simp only [Bool.not_true, Bool.not_false, cond_true, cond_false, Bool.true_and, Bool.false_and, Bool.and_true, Bool.and_false, Bool.false_eq_true, Bool.true_or, Bool.or_true, Bool.false_or, Bool.or_false, Bool.or_self, Bool.and_self, decide_true, decide_false, if_true, if_false, not_true, not_false_eq_true, not_true_eq_false, false_or, or_false, true_and, and_true, Bool.not_eq_true, Bool.true_eq_false, reduceCtorEq, Option.bind_some]
def gridL (w h : Nat) (f : Nat → Nat → Int) : List Int := (List.range h).flatMap fun r => (List.range w).map (f r)
theorem gridL_len (w h : Nat) (f : Nat → Nat → Int) : (gridL w h f).length = w * h := by
  unfold gridL
  induction h with
  | zero => simp
  | succ h ih => rw [List.range_succ, List.flatMap_append, List.length_append, ih]; simp [Nat.mul_succ]
theorem gridL_congr (w h : Nat) (f g : Nat → Nat → Int) (e : ∀ r c, r < h → c < w → f r c = g r c) : gridL w h f = gridL w h g := by
  unfold gridL
  show ((List.range h).map _).flatten = ((List.range h).map _).flatten
  congr 1
  apply List.map_congr_left
  intro r hr
  apply List.map_congr_left
  intro c hc
  exact e r c (by simpa using hr) (by simpa using hc)
theorem gridL_all (w h : Nat) (f : Nat → Nat → Int) (p : Int → Prop) (e : ∀ r c, r < h → c < w → p (f r c)) : ∀ x ∈ gridL w h f, p x := by
  intro x hx
  unfold gridL at hx
  simp only [List.mem_flatMap, List.mem_map, List.mem_range] at hx
  obtain ⟨r, hr, c, hc, rfl⟩ := hx
  exact e r c hr hc
theorem gridL_get (w h : Nat) (f : Nat → Nat → Int) (r c : Nat) (hr : r < h) (hc : c < w) : (gridL w h f)[r * w + c]? = some (f r c) := by
  unfold gridL
  induction h with
  | zero => omega
  | succ h ih =>
    rw [List.range_succ, List.flatMap_append]
    have hl : ((List.range h).flatMap fun r => (List.range w).map (f r)).length = w * h := gridL_len w h f
    by_cases e : r < h
    · rw [List.getElem?_append_left]
      · exact ih e
      · rw [hl]
        have : (r + 1) * w ≤ h * w := Nat.mul_le_mul_right _ e
        rw [Nat.add_mul, Nat.one_mul] at this
        rw [Nat.mul_comm w h]; omega
    · have : r = h := by omega
      subst this
      rw [List.getElem?_append_right (by rw [hl, Nat.mul_comm]; omega), hl, Nat.mul_comm w r, Nat.add_sub_cancel_left]
      simp [hc]
/-- Two loops, one in the other, that collect g row col. -/
theorem grid_loop {R : Type} (L0 : Nat → Int → List Int → Option R) (L1 : Nat → Int → Int → List Int → Option R) (fin : List Int → Option R) (w h : Nat) (hw : w ≤ 64) (hh : h ≤ 64) (g : Nat → Int → Int → Option Int) (f : Nat → Nat → Int)
    (h0 : ∀ k (row : Nat) acc, L0 (k + 1) row acc = if (row : Int) < h then L1 k row 0 acc else fin acc)
    (h1 : ∀ k (row col : Nat) acc, L1 (k + 1) row col acc = if (col : Int) < w then (g k row col).bind (fun t => (app 17592186044416 acc [t]).bind fun l => L1 k row (w64 ((col : Int) + 1)) l) else L0 k (w64 ((row : Int) + 1)) acc)
    (hg : ∀ k (r c : Nat), r < h → c < w → g k r c = some (f r c)) : ∀ k, (h + 1) * (w + 2) ≤ k → L0 k 0 [] = fin (gridL w h f) := by
  have row_ : ∀ (d k row : Nat) (col : Nat) (acc : List Int), row < h → col + d = w → acc.length + d ≤ 8192 → d < k →
      ∃ k', k' + d + 1 = k ∧ L1 k row col acc = L0 k' ((row + 1 : Nat) : Int) (acc ++ ((List.range w).drop col).map (f row)) := by
    intro d
    induction d with
    | zero =>
      intro k row col acc hr hc ha hk
      obtain ⟨k, rfl⟩ := succ_of hk
      refine ⟨k, rfl, ?_⟩
      rw [h1, if_neg (by omega), w64_id (by omega), List.drop_of_length_le (by simp; omega)]
      simp
    | succ d ih =>
      intro k row col acc hr hc ha hk
      obtain ⟨k, rfl⟩ := succ_of (Nat.lt_of_le_of_lt (Nat.zero_le _) hk)
      obtain ⟨k', e1, e2⟩ := ih k row (col + 1) (acc ++ [f row col]) hr (by omega) (by simp; omega) (by omega)
      refine ⟨k', by omega, ?_⟩
      rw [h1, if_pos (by omega), hg k row col hr (by omega)]
      simp only [Option.bind_some]
      rw [app_ok (by simp; omega), w64_id (by omega)]
      simp only [Option.bind_some]
      rw [show ((col : Int) + 1) = ((col + 1 : Nat) : Int) by omega, e2]
      congr 1
      rw [List.append_assoc]
      congr 1
      rw [List.drop_eq_getElem_cons (l := List.range w) (i := col) (by simp; omega)]
      simp
  have all_ : ∀ (d k row : Nat) (acc : List Int), row + d = h → acc.length ≤ 64 * row → (d + 1) * (w + 2) ≤ k → L0 k row acc = fin (acc ++ ((List.range h).drop row).flatMap fun r => (List.range w).map (f r)) := by
    intro d
    induction d with
    | zero =>
      intro k row acc hr ha hk
      obtain ⟨k, rfl⟩ := succ_of (show 0 < k by omega)
      rw [h0, if_neg (by omega), List.drop_of_length_le (by simp; omega)]
      simp
    | succ d ih =>
      intro k row acc hr ha hk
      rw [Nat.add_mul] at hk
      obtain ⟨k, rfl⟩ := succ_of (show 0 < k by omega)
      rw [h0, if_pos (by omega)]
      obtain ⟨k', e1, e2⟩ := row_ w k row 0 acc (by omega) (by omega) (by omega) (by omega)
      rw [show ((0 : Int)) = ((0 : Nat) : Int) from rfl, e2, ih k' (row + 1) _ (by omega) (by simp; omega) (by omega)]
      congr 1
      rw [List.append_assoc, List.drop_eq_getElem_cons (show row < (List.range h).length by simp; omega)]
      simp
  intro k hk
  have := all_ h k 0 [] (by omega) (by simp) hk
  simpa [gridL] using this
def atL (w : Int) (l : List Int) (r c : Int) : Int := l.getD (r * w + c).toNat 0
theorem at_bd {w h r c : Int} (hw : 1 ≤ w ∧ w ≤ 8) (hh : 1 ≤ h ∧ h ≤ 8) (hr : 0 ≤ r ∧ r < h) (hc : 0 ≤ c ∧ c < w) : 0 ≤ r * w ∧ r * w ≤ 64 ∧ 0 ≤ r * w + c ∧ r * w + c < w * h := by
  obtain ⟨a, b⟩ := hw; obtain ⟨a', b'⟩ := hh; obtain ⟨p, q⟩ := hr; obtain ⟨p', q'⟩ := hc
  have h1 : w = 1 ∨ w = 2 ∨ w = 3 ∨ w = 4 ∨ w = 5 ∨ w = 6 ∨ w = 7 ∨ w = 8 := by omega
  rcases h1 with rfl | rfl | rfl | rfl | rfl | rfl | rfl | rfl <;> omega
theorem iatC (k : Nat) (w h : Int) (l : List Int) (r c : Int) (hw : 1 ≤ w ∧ w ≤ 8) (hh : 1 ≤ h ∧ h ≤ 8) (hl : (l.length : Int) = w * h) (hr : 0 ≤ r ∧ r < h) (hc : 0 ≤ c ∧ c < w) : impl_Chart_at.f k w h l r c = some (atL w l r c) := by
  have b := at_bd hw hh hr hc
  unfold impl_Chart_at.f impl_Chart_at.m atL
  rw [w64_id (x := r * w) (by omega), w64_id (by omega), chk_int (by omega)]; rfl
theorem satC (k : Nat) (w h : Int) (l : List Int) (r c : Int) (hw : 1 ≤ w ∧ w ≤ 8) (hh : 1 ≤ h ∧ h ≤ 8) (hl : (l.length : Int) = w * h) (hr : 0 ≤ r ∧ r < h) (hc : 0 ≤ c ∧ c < w) : spec_l2At.f k w h l r c = some (atL w l r c) := by
  have b := at_bd hw hh hr hc
  unfold spec_l2At.f spec_l2At.m atL
  rw [w64_id (x := r * w) (by omega), w64_id (by omega), chk_int (by omega)]; rfl
/-- A chart whose sides and knots are in order. -/
def okC (w h : Int) (l : List Int) : Prop := (1 ≤ w ∧ w ≤ 8) ∧ (1 ≤ h ∧ h ≤ 8) ∧ (l.length : Int) = w * h
def turnL (w h : Int) (l : List Int) : List Int := gridL h.toNat w.toNat fun r c => atL w l (h - 1 - c) r
def mirrL (w h : Int) (l : List Int) : List Int := gridL w.toNat h.toNat fun r c => atL w l r (w - 1 - c)
theorem turnL_len {w h : Int} {l : List Int} (ok : okC w h l) : ((turnL w h l).length : Int) = h * w := by
  unfold turnL; rw [gridL_len]; obtain ⟨a, b, _⟩ := ok
  rw [Int.natCast_mul, Int.toNat_of_nonneg (by omega), Int.toNat_of_nonneg (by omega)]
theorem mirrL_len {w h : Int} {l : List Int} (ok : okC w h l) : ((mirrL w h l).length : Int) = w * h := by
  unfold mirrL; rw [gridL_len]; obtain ⟨a, b, _⟩ := ok
  rw [Int.natCast_mul, Int.toNat_of_nonneg (by omega), Int.toNat_of_nonneg (by omega)]
theorem turn_ok {w h : Int} {l : List Int} (ok : okC w h l) : okC h w (turnL w h l) := ⟨ok.2.1, ok.1, turnL_len ok⟩
theorem mirr_ok {w h : Int} {l : List Int} (ok : okC w h l) : okC w h (mirrL w h l) := ⟨ok.1, ok.2.1, mirrL_len ok⟩
theorem rounds_bd {w h : Int} (hw : 1 ≤ w ∧ w ≤ 8) (hh : 1 ≤ h ∧ h ≤ 8) : (h.toNat + 1) * (w.toNat + 2) ≤ 90 := by
  have h1 : h.toNat + 1 ≤ 9 := by omega
  have h2 : w.toNat + 2 ≤ 10 := by omega
  exact Nat.mul_le_mul h1 h2
theorem specTurn_eq {w h : Int} {l : List Int} (ok : okC w h l) (k : Nat) (hk : 90 ≤ k) : spec_l4Turn.f k w h l = some (h, w, turnL w h l) := by
  obtain ⟨hw, hh, hl⟩ := ok
  have := grid_loop (fun k row acc => spec_l4Turn.l4 k w h l 0 0 [] h w acc row) (fun k row col acc => spec_l4Turn.l9 k w h l 0 0 [] h w acc row col) (fun acc => some (h, w, acc)) h.toNat w.toNat (by omega) (by omega)
    (fun k row col => spec_l2At.f k w h l (w64 (w64 (h - 1) - col)) row) (fun r c => atL w l (h - 1 - c) r)
    (fun k row acc => by simp only [spec_l4Turn.l4, spec_l4Turn.b4]; rw [Int.toNat_of_nonneg (by omega)]) (fun k row col acc => by simp only [spec_l4Turn.l9, spec_l4Turn.b9]; rw [Int.toNat_of_nonneg (by omega)])
    (fun k r c hr hc => by rw [w64_id (x := h - 1) (by omega), w64_id (by omega)]; exact satC k w h l _ _ hw hh hl (by omega) (by omega)) k (Nat.le_trans (rounds_bd hh hw) hk)
  exact this
theorem implTurn_eq {w h : Int} {l : List Int} (ok : okC w h l) (k : Nat) (hk : 90 ≤ k) : impl_Chart_turned.f k w h l = some (h, w, turnL w h l) := by
  obtain ⟨hw, hh, hl⟩ := ok
  have := grid_loop (fun k row acc => impl_makeChart__impl_Chart_turned_1.l4 k h w h l 0 0 [] h w acc w row) (fun k row col acc => impl_makeChart__impl_Chart_turned_1.l10 k h w h l 0 0 [] h w acc row w row h col) (fun acc => some (h, w, acc)) h.toNat w.toNat (by omega) (by omega)
    (fun k row col => impl_Chart_turned_1.f k row col w h l) (fun r c => atL w l (h - 1 - c) r)
    (fun k row acc => by simp only [impl_makeChart__impl_Chart_turned_1.l4, impl_makeChart__impl_Chart_turned_1.b4]; rw [Int.toNat_of_nonneg (by omega)]) (fun k row col acc => by simp only [impl_makeChart__impl_Chart_turned_1.l10, impl_makeChart__impl_Chart_turned_1.b10]; rw [Int.toNat_of_nonneg (by omega)])
    (fun k r c hr hc => by simp only [impl_Chart_turned_1.f, impl_Chart_turned_1.m]; rw [w64_id (x := h - 1) (by omega), w64_id (by omega), iatC k w h l _ _ hw hh hl (by omega) (by omega)]; rfl) k (Nat.le_trans (rounds_bd hh hw) hk)
  unfold impl_Chart_turned.f impl_Chart_turned.m impl_makeChart__impl_Chart_turned_1.f impl_makeChart__impl_Chart_turned_1.m
  show (impl_makeChart__impl_Chart_turned_1.l4 k h w h l 0 0 [] h w [] w 0).bind _ = _
  rw [this]; rfl
theorem specMirr_eq {w h : Int} {l : List Int} (ok : okC w h l) (k : Nat) (hk : 90 ≤ k) : spec_l4Mirror.f k w h l = some (w, h, mirrL w h l) := by
  obtain ⟨hw, hh, hl⟩ := ok
  have := grid_loop (fun k row acc => spec_l4Mirror.l4 k w h l 0 0 [] w h acc row) (fun k row col acc => spec_l4Mirror.l9 k w h l 0 0 [] w h acc row col) (fun acc => some (w, h, acc)) w.toNat h.toNat (by omega) (by omega)
    (fun k row col => spec_l2At.f k w h l row (w64 (w64 (w - 1) - col))) (fun r c => atL w l r (w - 1 - c))
    (fun k row acc => by simp only [spec_l4Mirror.l4, spec_l4Mirror.b4]; rw [Int.toNat_of_nonneg (by omega)]) (fun k row col acc => by simp only [spec_l4Mirror.l9, spec_l4Mirror.b9]; rw [Int.toNat_of_nonneg (by omega)])
    (fun k r c hr hc => by rw [w64_id (x := w - 1) (by omega), w64_id (by omega)]; exact satC k w h l _ _ hw hh hl (by omega) (by omega)) k (Nat.le_trans (rounds_bd hw hh) hk)
  exact this
theorem implMirr_eq {w h : Int} {l : List Int} (ok : okC w h l) (k : Nat) (hk : 90 ≤ k) : impl_Chart_mirrored.f k w h l = some (w, h, mirrL w h l) := by
  obtain ⟨hw, hh, hl⟩ := ok
  have := grid_loop (fun k row acc => impl_makeChart__impl_Chart_mirrored_1.l4 k w w h l 0 0 [] w h acc h row) (fun k row col acc => impl_makeChart__impl_Chart_mirrored_1.l10 k w w h l 0 0 [] w h acc row h row w col) (fun acc => some (w, h, acc)) w.toNat h.toNat (by omega) (by omega)
    (fun k row col => impl_Chart_mirrored_1.f k row col w h l) (fun r c => atL w l r (w - 1 - c))
    (fun k row acc => by simp only [impl_makeChart__impl_Chart_mirrored_1.l4, impl_makeChart__impl_Chart_mirrored_1.b4]; rw [Int.toNat_of_nonneg (by omega)]) (fun k row col acc => by simp only [impl_makeChart__impl_Chart_mirrored_1.l10, impl_makeChart__impl_Chart_mirrored_1.b10]; rw [Int.toNat_of_nonneg (by omega)])
    (fun k r c hr hc => by simp only [impl_Chart_mirrored_1.f, impl_Chart_mirrored_1.m]; rw [w64_id (x := w - 1) (by omega), w64_id (by omega), iatC k w h l _ _ hw hh hl (by omega) (by omega)]; rfl) k (Nat.le_trans (rounds_bd hw hh) hk)
  unfold impl_Chart_mirrored.f impl_Chart_mirrored.m impl_makeChart__impl_Chart_mirrored_1.f impl_makeChart__impl_Chart_mirrored_1.m
  show (impl_makeChart__impl_Chart_mirrored_1.l4 k w w h l 0 0 [] w h [] h 0).bind _ = _
  rw [this]; rfl
theorem good_ok {w h : Int} {l : List Int} (hg : goodB w h l = true) : okC w h l := ⟨(good_of hg).1, (good_of hg).2.1, (good_of hg).2.2.1⟩
theorem okC_len {w h : Int} {l : List Int} (ok : okC w h l) : l.length ≤ 64 := by have := mul_bd ok.1 ok.2.1; have := ok.2.2; omega
def turns : Nat → Int → Int → List Int → Int × Int × List Int
  | 0, w, h, l => (w, h, l)
  | n + 1, w, h, l => turns n h w (turnL w h l)
def moveR (w h : Int) (l : List Int) (s : Int) : Int × Int × List Int := if 4 ≤ s then turns (s % 4).toNat w h (mirrL w h l) else turns (s % 4).toNat w h l
theorem turns_ok (n : Nat) : ∀ {w h : Int} {l : List Int}, okC w h l → okC (turns n w h l).1 (turns n w h l).2.1 (turns n w h l).2.2 := by
  induction n with
  | zero => intro w h l ok; exact ok
  | succ n ih => intro w h l ok; exact ih (turn_ok ok)
theorem move_ok {w h : Int} {l : List Int} (s : Int) (ok : okC w h l) : okC (moveR w h l s).1 (moveR w h l s).2.1 (moveR w h l s).2.2 := by
  unfold moveR; split
  · exact turns_ok _ (mirr_ok ok)
  · exact turns_ok _ ok
theorem rem4 {s : Int} (hs : 0 ≤ s) : rem s 4 = some (s % 4) := by unfold rem; rw [if_neg (by omega), Int.tmod_eq_emod_of_nonneg hs]
theorem specMove_l (s : Int) (hs : 0 ≤ s) : ∀ (d k i : Nat) (w h : Int) (l : List Int), okC w h l → (i : Int) + d = s % 4 → 90 + d < k → spec_l4Move.l6 k s 0 0 [] w h l i = some (turns d w h l) := by
  intro d
  induction d with
  | zero => intro k i w h l ok h1 h2; obtain ⟨k, rfl⟩ := succ_of (show 0 < k by omega); simp only [spec_l4Move.l6, spec_l4Move.b6]; rw [rem4 hs]; simp only [Option.bind_some]; rw [if_neg (by omega)]; rfl
  | succ d ih =>
    intro k i w h l ok h1 h2
    obtain ⟨k, rfl⟩ := succ_of (show 0 < k by omega)
    simp only [spec_l4Move.l6, spec_l4Move.b6]; rw [rem4 hs]; simp only [Option.bind_some]; rw [if_pos (by omega), specTurn_eq ok k (by omega)]
    simp only [Option.bind_some]
    rw [w64_id (by omega), show ((i : Int) + 1) = ((i + 1 : Nat) : Int) by omega]
    exact ih k (i + 1) h w _ (turn_ok ok) (by omega) (by omega)
theorem specMove_eq {w h : Int} {l : List Int} {s : Int} (ok : okC w h l) (hs : 0 ≤ s) (k : Nat) (hk : 100 ≤ k) : spec_l4Move.f k w h l s = some (moveR w h l s) := by
  have hl := okC_len ok
  obtain ⟨k, rfl⟩ := succ_of (show 0 < k by omega)
  have h4 : ((s % 4).toNat : Int) = s % 4 := Int.toNat_of_nonneg (by omega)
  unfold spec_l4Move.f spec_l4Move.m moveR
  rw [l2Own_eq _ w h l (by omega)]
  simp only [Option.bind_some]
  by_cases e : 4 ≤ s
  · rw [if_pos e, if_pos e, specMirr_eq ok _ (by omega)]; simp only [Option.bind_some, spec_l4Move.l2, spec_l4Move.b2]
    exact specMove_l s hs (s % 4).toNat k 0 w h _ (mirr_ok ok) (by omega) (by omega)
  · rw [if_neg e, if_neg e]; simp only [spec_l4Move.l2, spec_l4Move.b2]
    exact specMove_l s hs (s % 4).toNat k 0 w h _ ok (by omega) (by omega)
theorem implMove_l (s : Int) : ∀ (d k i : Nat) (w h : Int) (l : List Int), okC w h l → (i : Int) + d = s % 4 → 90 + d < k → impl_Chart_moved.l6 k 0 0 [] w h l (s % 4) i = some (turns d w h l) := by
  intro d
  induction d with
  | zero => intro k i w h l ok h1 h2; obtain ⟨k, rfl⟩ := succ_of (show 0 < k by omega); simp only [impl_Chart_moved.l6, impl_Chart_moved.b6]; rw [if_neg (by omega)]; rfl
  | succ d ih =>
    intro k i w h l ok h1 h2
    obtain ⟨k, rfl⟩ := succ_of (show 0 < k by omega)
    simp only [impl_Chart_moved.l6, impl_Chart_moved.b6]; rw [if_pos (by omega), implTurn_eq ok k (by omega)]
    simp only [Option.bind_some]
    rw [w64_id (by omega), show ((i : Int) + 1) = ((i + 1 : Nat) : Int) by omega]
    exact ih k (i + 1) h w _ (turn_ok ok) (by omega) (by omega)
theorem implMove_eq {w h : Int} {l : List Int} {s : Int} (ok : okC w h l) (hs : 0 ≤ s) (k : Nat) (hk : 100 ≤ k) : impl_Chart_moved.f k w h l s = some (moveR w h l s) := by
  have hl := okC_len ok
  obtain ⟨k, rfl⟩ := succ_of (show 0 < k by omega)
  have h4 : ((s % 4).toNat : Int) = s % 4 := Int.toNat_of_nonneg (by omega)
  unfold impl_Chart_moved.f impl_Chart_moved.m moveR
  rw [copied_eq _ w h l (by omega)]
  simp only [Option.bind_some]
  by_cases e : 4 ≤ s
  · rw [if_pos e, if_pos e, implMirr_eq ok _ (by omega)]; simp only [Option.bind_some, impl_Chart_moved.l2, impl_Chart_moved.b2]; rw [rem4 hs]
    exact implMove_l s (s % 4).toNat k 0 w h _ (mirr_ok ok) (by omega) (by omega)
  · rw [if_neg e, if_neg e]; simp only [impl_Chart_moved.l2, impl_Chart_moved.b2]; rw [rem4 hs]
    exact implMove_l s (s % 4).toNat k 0 w h _ ok (by omega) (by omega)
theorem atL_map (f : Int → Int) {w h : Int} {p : List Int} (ok : okC w h p) {r c : Int} (hr : 0 ≤ r ∧ r < h) (hc : 0 ≤ c ∧ c < w) : atL w (p.map f) r c = f (atL w p r c) := by
  have b := at_bd ok.1 ok.2.1 hr hc
  have hl := ok.2.2
  unfold atL; rw [getD_lt (by rw [List.length_map]; omega), getD_lt (by omega), List.getElem_map]
theorem gridL_map (w h : Nat) (g : Nat → Nat → Int) (f : Int → Int) : (gridL w h g).map f = gridL w h fun r c => f (g r c) := by
  unfold gridL; rw [List.map_flatMap]; congr 1; funext r; rw [List.map_map]; rfl
theorem turnL_map (f : Int → Int) {w h : Int} {p : List Int} (ok : okC w h p) : turnL w h (p.map f) = (turnL w h p).map f := by
  unfold turnL; rw [gridL_map]; apply gridL_congr; intro r c hr hc
  exact atL_map f ok (by have := ok.2.1; omega) (by have := ok.1; omega)
theorem mirrL_map (f : Int → Int) {w h : Int} {p : List Int} (ok : okC w h p) : mirrL w h (p.map f) = (mirrL w h p).map f := by
  unfold mirrL; rw [gridL_map]; apply gridL_congr; intro r c hr hc
  exact atL_map f ok (by have := ok.2.1; omega) (by have := ok.1; omega)
theorem turns_map (f : Int → Int) (n : Nat) : ∀ {w h : Int} {p : List Int}, okC w h p → turns n w h (p.map f) = ((turns n w h p).1, (turns n w h p).2.1, (turns n w h p).2.2.map f) := by
  induction n with
  | zero => intro w h p ok; rfl
  | succ n ih => intro w h p ok; simp only [turns]; rw [turnL_map f ok]; exact ih (turn_ok ok)
theorem moveR_map (f : Int → Int) {w h : Int} {p : List Int} (s : Int) (ok : okC w h p) : moveR w h (p.map f) s = ((moveR w h p s).1, (moveR w h p s).2.1, (moveR w h p s).2.2.map f) := by
  unfold moveR; split
  · rw [mirrL_map f ok]; exact turns_map f _ (mirr_ok ok)
  · exact turns_map f _ ok
def idL (n : Nat) : List Int := (List.range n).map fun (i : Nat) => (i : Int)
theorem idL_map (l : List Int) : (idL l.length).map (fun x => l.getD x.toNat 0) = l := by
  unfold idL; rw [List.map_map]
  apply List.ext_getElem
  · simp
  · intro i h1 h2; rw [List.getElem_map, List.getElem_range]; show l.getD ((i : Nat) : Int).toNat 0 = l[i]; rw [Int.toNat_natCast, getD_lt h2]
/-- Where each knot comes from. -/
def permN (w h s : Nat) : List Nat := (moveR w h (idL (w * h)) s).2.2.map Int.toNat
def oneI (p : List Nat) : Nat → List Bool → Nat → List Nat → Option (List Bool × List Nat)
  | 0, _, _, _ => none
  | f + 1, met, k, o => if met.getD k true then some (met, o) else oneI p f (met.set k true) (p.getD k 0) (o ++ [k])
def allI (p : List Nat) : Nat → Nat → List Bool → List (List Nat) → Option (List (List Nat))
  | 0, _, _, out => some out
  | d + 1, i, met, out => (oneI p 6 met i []).bind fun r => allI p d (i + 1) r.1 (if r.2.isEmpty then out else out ++ [r.2])
def oneS (q : List Nat) : Nat → Nat → List Nat → Option (List Nat)
  | 0, _, _ => none
  | f + 1, k, o => if o.contains k then some o else oneS q f (q.getD k 0) (o ++ [k])
def allS (q : List Nat) : Nat → Nat → List Nat → List (List Nat) → Option (List (List Nat))
  | 0, _, _, out => some out
  | d + 1, i, seen, out => if seen.contains i then allS q d (i + 1) seen out else (oneS q 6 i []).bind fun o => allS q d (i + 1) (seen ++ o) (out ++ [o])
def lastN (p : List Nat) (i : Nat) : Nat := (List.range p.length).foldl (fun a k => if p.getD k 0 == i then k else a) 0
def invN (p : List Nat) : List Nat := (List.range p.length).map (lastN p)
def chkO (w h s : Nat) : Bool :=
  let p := permN w h s
  match allI p (w * h) 0 (List.replicate (w * h) false) [], allS (invN p) (w * h) 0 [] [] with
  | some a, some b => (a.length == b.length) && (a.zip b).all (fun z => z.1.isPerm z.2 && z.1.all (fun k => decide (k < w * h))) && p.all (fun k => decide (k < w * h)) && (moveR w h (idL (w * h)) s).2.2.all (fun x => decide (0 ≤ x)) && (invN p).all (fun k => decide (k < w * h)) && decide ((moveR w h (idL (w * h)) s).1 = w) && decide ((moveR w h (idL (w * h)) s).2.1 = h)
  | _, _ => false
def cntN (l : List Int) (o : List Nat) (c : Nat) : Nat := o.countP fun (k : Nat) => l.getD k 0 == (c : Int)
def cntL (l : List Int) (o : List Nat) : List Nat := (List.range 6).map (cntN l o)
def bestF : List Nat → Nat → Nat → Nat → Nat × Nat
  | [], _, b, m => (b, m)
  | n :: ns, c, b, m => if n > m then bestF ns (c + 1) c n else bestF ns (c + 1) b m
def IsBest (cs : List Nat) (b m : Nat) : Prop := (∀ x ∈ cs, x ≤ m) ∧ cs[b]? = some m ∧ ∀ j, j < b → ∃ x, cs[j]? = some x ∧ x < m
theorem bestF_is : ∀ (ns pre : List Nat) (b m : Nat), (pre = [] → b = 0 ∧ m = 0) → (pre ≠ [] → IsBest pre b m) → pre ++ ns ≠ [] → IsBest (pre ++ ns) (bestF ns pre.length b m).1 (bestF ns pre.length b m).2 := by
  intro ns
  induction ns with
  | nil => intro pre b m h0 h1 h2; simp only [bestF, List.append_nil] at *; exact h1 h2
  | cons n ns ih =>
    intro pre b m h0 h1 h2
    have e : pre ++ n :: ns = (pre ++ [n]) ++ ns := by simp
    rw [e]; simp only [bestF]
    have hl : pre.length + 1 = (pre ++ [n]).length := by simp
    by_cases hp : pre = []
    · obtain ⟨rfl, rfl⟩ := h0 hp
      subst hp
      by_cases hn : n > 0
      · rw [if_pos hn, hl]
        exact ih [n] 0 n (by simp) (fun _ => ⟨by simp, by simp, by omega⟩) (by simp)
      · rw [if_neg hn, hl]
        have : n = 0 := by omega
        subst this
        exact ih [0] 0 0 (by simp) (fun _ => ⟨by simp, by simp, by omega⟩) (by simp)
    · obtain ⟨a1, a2, a3⟩ := h1 hp
      have hb : b < pre.length := by
        have := List.getElem?_eq_some_iff.1 a2; exact this.1
      by_cases hn : n > m
      · rw [if_pos hn, hl]
        refine ih (pre ++ [n]) pre.length n (by simp) (fun _ => ⟨?_, ?_, ?_⟩) (by simp)
        · intro x hx; rw [List.mem_append, List.mem_singleton] at hx
          rcases hx with hx | rfl
          · have := a1 x hx; omega
          · omega
        · simp
        · intro j hj
          refine ⟨pre[j], ?_, ?_⟩
          · rw [List.getElem?_append_left hj, List.getElem?_eq_getElem hj]
          · have := a1 pre[j] (List.getElem_mem _); omega
      · rw [if_neg hn, hl]
        refine ih (pre ++ [n]) b m (by simp) (fun _ => ⟨?_, ?_, ?_⟩) (by simp)
        · intro x hx; rw [List.mem_append, List.mem_singleton] at hx
          rcases hx with hx | rfl
          · exact a1 x hx
          · omega
        · rw [List.getElem?_append_left hb, a2]
        · intro j hj
          obtain ⟨x, hx, hxm⟩ := a3 j hj
          exact ⟨x, by rw [List.getElem?_append_left (by omega), hx], hxm⟩
theorem IsBest.uniq {cs : List Nat} {b m b' m' : Nat} (h : IsBest cs b m) (h' : IsBest cs b' m') : b = b' ∧ m = m' := by
  obtain ⟨h1, h2, h3⟩ := h; obtain ⟨h1', h2', h3'⟩ := h'
  have e : m = m' := Nat.le_antisymm (h1' m (List.mem_of_getElem? h2)) (h1 m' (List.mem_of_getElem? h2'))
  refine ⟨?_, e⟩
  rcases Nat.lt_trichotomy b b' with hlt | rfl | hgt
  · obtain ⟨x, hx, hxm⟩ := h3' b hlt; rw [h2] at hx; injection hx with hx; omega
  · rfl
  · obtain ⟨x, hx, hxm⟩ := h3 b' hgt; rw [h2'] at hx; injection hx with hx; omega
def bestR (l : List Int) (o : List Nat) : Nat × Nat := bestF (cntL l o) 0 0 0
theorem bestR_is (l : List Int) (o : List Nat) : IsBest (cntL l o) (bestR l o).1 (bestR l o).2 := by
  have h : cntL l o ≠ [] := by unfold cntL; simp
  have := bestF_is (cntL l o) [] 0 0 (fun _ => ⟨rfl, rfl⟩) (fun h => absurd rfl h) (by simpa using h)
  simpa [bestR] using this
theorem cntL_perm {o o' : List Nat} (l : List Int) (h : o.Perm o') : cntL l o = cntL l o' := by
  unfold cntL; apply List.map_congr_left; intro c _; exact h.countP_eq _
def fillN (out : List Int) (o : List Nat) (v : Int) : List Int := o.foldl (fun a k => a.set k v) out
theorem fillN_get (v : Int) (o : List Nat) : ∀ (out : List Int) (j : Nat), (fillN out o v)[j]? = if j ∈ o then out[j]?.map (fun _ => v) else out[j]? := by
  induction o with
  | nil => intro out j; simp [fillN]
  | cons k o ih =>
    intro out j
    show (fillN (out.set k v) o v)[j]? = _
    rw [ih, List.getElem?_set]
    by_cases e : k = j
    · subst e
      by_cases hk : k < out.length
      · simp [hk]
      · simp [hk]
    · have : j ∈ k :: o ↔ j ∈ o := by simp [Ne.symm e]
      simp [e, Ne.symm e]
theorem fillN_perm {o o' : List Nat} (out : List Int) (v : Int) (h : o.Perm o') : fillN out o v = fillN out o' v := by
  apply List.ext_getElem?; intro j
  rw [fillN_get, fillN_get]; simp only [h.mem_iff]
theorem fillN_len (out : List Int) (o : List Nat) (v : Int) : (fillN out o v).length = out.length := by
  unfold fillN
  induction o generalizing out with
  | nil => rfl
  | cons k o ih => simp only [List.foldl_cons]; rw [ih, List.length_set]
def stepC (l : List Int) (st : List Int × Int) (o : List Nat) : List Int × Int := (fillN st.1 o ((bestR l o).1 : Int), st.2 + (o.length : Int) - ((bestR l o).2 : Int))
theorem stepC_perm {o o' : List Nat} (l : List Int) (st : List Int × Int) (h : o.Perm o') : stepC l st o = stepC l st o' := by
  unfold stepC bestR; rw [cntL_perm l h, fillN_perm _ _ h, h.length_eq]
theorem fold_perm (l : List Int) : ∀ (a b : List (List Nat)) (st : List Int × Int), a.length = b.length → (∀ z ∈ a.zip b, z.1.Perm z.2) → a.foldl (stepC l) st = b.foldl (stepC l) st := by
  intro a
  induction a with
  | nil => intro b st h _; cases b with
    | nil => rfl
    | cons _ _ => simp at h
  | cons x a ih => intro b st h hz; cases b with
    | nil => simp at h
    | cons y b =>
      simp only [List.foldl_cons]
      rw [stepC_perm l st (hz (x, y) (by simp)), ih b _ (by simpa using h) (fun z hz' => hz z (by simp [hz']))]
theorem cntL_le (l : List Int) (o : List Nat) (c : Nat) : cntN l o c ≤ o.length := List.countP_le_length
theorem best_le (l : List Int) (o : List Nat) : (bestR l o).2 ≤ o.length ∧ (bestR l o).1 < 6 := by
  obtain ⟨_, h2, _⟩ := bestR_is l o
  have h3 := List.mem_of_getElem? h2
  have h4 := (List.getElem?_eq_some_iff.1 h2).1
  unfold cntL at h3 h4
  rw [List.mem_map] at h3
  obtain ⟨c, _, hc⟩ := h3
  refine ⟨by rw [← hc]; exact cntL_le l o c, by simpa using h4⟩
theorem chkO_of {w h s : Nat} (hc : chkO w h s = true) : ∃ a b, allI (permN w h s) (w * h) 0 (List.replicate (w * h) false) [] = some a ∧ allS (invN (permN w h s)) (w * h) 0 [] [] = some b ∧ a.length = b.length ∧ (∀ z ∈ a.zip b, z.1.Perm z.2 ∧ ∀ k ∈ z.1, k < w * h) ∧ (∀ k ∈ permN w h s, k < w * h) ∧ (∀ x ∈ (moveR w h (idL (w * h)) s).2.2, 0 ≤ x) ∧ (∀ k ∈ invN (permN w h s), k < w * h) ∧ (moveR w h (idL (w * h)) s).1 = w ∧ (moveR w h (idL (w * h)) s).2.1 = h := by
  unfold chkO at hc
  dsimp only at hc
  split at hc
  · next a b e1 e2 =>
    refine ⟨a, b, e1, e2, ?_⟩
    simp only [Bool.and_eq_true, beq_iff_eq, List.all_eq_true, decide_eq_true_eq] at hc
    obtain ⟨⟨⟨⟨⟨⟨h1, h2⟩, h3⟩, h4⟩, h5⟩, h6⟩, h7⟩ := hc
    exact ⟨h1, fun z hz => ⟨List.isPerm_iff.1 (h2 z hz).1, fun k hk => (h2 z hz).2 k hk⟩, h3, h4, h5, h6, h7⟩
  · exact absurd hc (by simp)
theorem chkO_0 : ((List.range 8).all fun w => (List.range 8).all fun h => chkO (w + 1) (h + 1) 0) = true := by decide +kernel
theorem chkO_2 : ((List.range 8).all fun w => (List.range 8).all fun h => chkO (w + 1) (h + 1) 2) = true := by decide +kernel
theorem chkO_4 : ((List.range 8).all fun w => (List.range 8).all fun h => chkO (w + 1) (h + 1) 4) = true := by decide +kernel
theorem chkO_6 : ((List.range 8).all fun w => (List.range 8).all fun h => chkO (w + 1) (h + 1) 6) = true := by decide +kernel
theorem chkO_odd : ((List.range 4).all fun s => (List.range 8).all fun w => chkO (w + 1) (w + 1) (2 * s + 1)) = true := by decide +kernel
theorem chkO_asked {w h s : Nat} (hw : 1 ≤ w ∧ w ≤ 8) (hh : 1 ≤ h ∧ h ≤ 8) (hs : s ≤ 7) (ha : s % 2 = 0 ∨ w = h) : chkO w h s = true := by
  have go : ∀ t, ((List.range 8).all fun w => (List.range 8).all fun h => chkO (w + 1) (h + 1) t) = true → chkO w h t = true := by
    intro t ht
    have := List.all_eq_true.1 (List.all_eq_true.1 ht (w - 1) (by rw [List.mem_range]; omega)) (h - 1) (by rw [List.mem_range]; omega)
    rwa [show w - 1 + 1 = w by omega, show h - 1 + 1 = h by omega] at this
  by_cases e : s % 2 = 0
  · have : s = 0 ∨ s = 2 ∨ s = 4 ∨ s = 6 := by omega
    rcases this with rfl | rfl | rfl | rfl
    · exact go _ chkO_0
    · exact go _ chkO_2
    · exact go _ chkO_4
    · exact go _ chkO_6
  · have e2 : w = h := by omega
    subst e2
    have := List.all_eq_true.1 (List.all_eq_true.1 chkO_odd (s / 2) (by rw [List.mem_range]; omega)) (w - 1) (by rw [List.mem_range]; omega)
    rwa [show w - 1 + 1 = w by omega, show 2 * (s / 2) + 1 = s by omega] at this
theorem move_odd (w h : Int) (l : List Int) {s : Int} (hs : 0 ≤ s ∧ s ≤ 7) (ho : s % 2 = 1) : (moveR w h l s).1 = h := by
  have : s = 1 ∨ s = 3 ∨ s = 5 ∨ s = 7 := by omega
  rcases this with rfl | rfl | rfl | rfl <;> rfl
def cI (o : List Nat) : List Int := o.map fun (n : Nat) => (n : Int)
theorem cI_len (o : List Nat) : (cI o).length = o.length := by unfold cI; simp
theorem cI_snoc (o : List Nat) (k : Nat) : cI o ++ [(k : Int)] = cI (o ++ [k]) := by unfold cI; simp
theorem cI_app (o o' : List Nat) : cI o ++ cI o' = cI (o ++ o') := by unfold cI; simp
theorem cI_get (o : List Nat) (i : Nat) (h : i < o.length) : (cI o).getD i 0 = ((o.getD i 0 : Nat) : Int) := by
  rw [getD_lt (by rw [cI_len]; exact h), getD_lt h]; unfold cI; rw [List.getElem_map]
theorem getN_lt {P : List Nat} {n i : Nat} (hP : ∀ k ∈ P, k < n) (h : i < P.length) : P.getD i 0 < n := by
  rw [getD_lt h]; exact hP _ (List.getElem_mem _)
theorem idL_ok {w h : Nat} (hw : 1 ≤ w ∧ w ≤ 8) (hh : 1 ≤ h ∧ h ≤ 8) : okC (w : Int) (h : Int) (idL (w * h)) := ⟨by omega, by omega, by unfold idL; simp⟩
theorem perm_cI {w h s : Nat} (hp : ∀ x ∈ (moveR w h (idL (w * h)) s).2.2, 0 ≤ x) : (moveR w h (idL (w * h)) s).2.2 = cI (permN w h s) := by
  unfold permN cI; rw [List.map_map]
  conv => lhs; rw [← List.map_id (moveR w h (idL (w * h)) s).2.2]
  apply List.map_congr_left
  intro x hx; have := hp x hx; simp; omega
theorem permN_len {w h s : Nat} (hw : 1 ≤ w ∧ w ≤ 8) (hh : 1 ≤ h ∧ h ≤ 8) (hc : (moveR w h (idL (w * h)) s).1 = w) (hc' : (moveR w h (idL (w * h)) s).2.1 = h) : (permN w h s).length = w * h := by
  have := (move_ok (s : Int) (idL_ok hw hh)).2.2
  rw [hc, hc'] at this
  unfold permN; rw [List.length_map]
  rw [← Int.natCast_mul] at this; omega
theorem fillN_snoc (out : List Int) (o : List Nat) (k : Nat) (v : Int) : (fillN out o v).set k v = fillN out (o ++ [k]) v := by unfold fillN; rw [List.foldl_append]; rfl
theorem takeN_snoc {o : List Nat} {j : Nat} (h : j < o.length) : o.take j ++ [o.getD j 0] = o.take (j + 1) := by
  rw [List.take_succ_eq_append_getElem h, getD_lt h]
theorem has_eq (l : List Int) (x : Int) (hl : l.length ≤ 1048576) (k : Nat) (hk : l.length + 30 < k) : spec_l1Has.f k l x = some (decide (x ∈ l)) := by
  unfold spec_l1Has.f spec_l1Has.m
  have h := (all_loop (L := fun k i => spec_l1Has.l3 k l x (i : Int)) (n := l.length) (K0 := 20) (ok := fun i => !decide (l.getD i 0 = x)) (f := some true) (fun k i hk hi => ?_)) l.length k 0 (by omega) (by omega)
  · rw [show ((0 : Nat) : Int) = 0 from rfl] at h
    by_cases hx : x ∈ l
    · obtain ⟨j, hj, e⟩ := List.mem_iff_getElem.1 hx
      rw [h.2 ⟨j, Nat.zero_le _, hj, by rw [getD_lt hj, e]; simp⟩, decide_eq_true hx]
    · rw [h.1 (some false) (fun k hk => by simp (disch := omega) only [spec_l1Has.l3, spec_l1Has.b3, if_neg]) (fun j _ hj => by
        rw [getD_lt hj, Bool.not_eq_true', decide_eq_false_iff_not]
        intro e; exact hx (e ▸ List.getElem_mem hj)), decide_eq_false hx]
  · simp (disch := omega) only [spec_l1Has.l3, spec_l1Has.b3, if_pos, chk_nat, Option.bind_some, w64_id, Int.natCast_add, Int.cast_ofNat_Int]
    by_cases e : l.getD i 0 = x
    · rw [if_pos e, decide_eq_true e]; rfl
    · rw [if_neg e, decide_eq_false e]; rfl
theorem mem_cI (o : List Nat) (k : Nat) : decide (((k : Nat) : Int) ∈ cI o) = o.contains k := by
  rw [Bool.eq_iff_iff, decide_eq_true_iff, List.contains_iff_mem]
  unfold cI; rw [List.mem_map]
  constructor
  · rintro ⟨n, hn, e⟩; have : n = k := by omega
    subst this; exact hn
  · intro h; exact ⟨k, h, rfl⟩
theorem specPlaces_l1 {w h s : Int} {l l' : List Int} {P : List Nat} {n i : Nat} (hl : l'.length = n) (hPl : P.length = n) (hn : n ≤ 64) (hi : i < n) (W H : Int) (hrd : ∀ j, j < n → (l'.getD j 0 = 1 ↔ P.getD j 0 = i)) (base : List Int) (hb : base.length = n) : ∀ (d K j : Nat), j + d = n → d < K → ∃ K', K = K' + d + 1 ∧ spec_l4Places.l12 K s w h l (base.set i (((List.range j).foldl (fun a k => if P.getD k 0 == i then k else a) 0 : Nat) : Int)) i W H l' j = spec_l4Places.l4 K' s w h l (base.set i (((List.range n).foldl (fun a k => if P.getD k 0 == i then k else a) 0 : Nat) : Int)) ((i + 1 : Nat) : Int) := by
  intro d
  induction d with
  | zero =>
    intro K j h1 h2
    obtain ⟨K, rfl⟩ := succ_of (show 0 < K by omega)
    refine ⟨K, rfl, ?_⟩
    simp only [spec_l4Places.l12, spec_l4Places.b12]; rw [if_neg (by omega), w64_id (by omega), show j = n by omega]; rfl
  | succ d ih =>
    intro K j h1 h2
    obtain ⟨K, rfl⟩ := succ_of (show 0 < K by omega)
    obtain ⟨K', e1, e2⟩ := ih K (j + 1) (by omega) (by omega)
    refine ⟨K', by omega, ?_⟩
    rw [← e2, List.range_succ, List.foldl_append]
    conv => lhs; simp only [spec_l4Places.l12, spec_l4Places.b12]
    rw [if_pos (by omega), chk_nat (by omega), w64_id (by omega)]
    simp only [List.foldl_cons, List.foldl_nil, Option.bind_some]
    by_cases e : P.getD j 0 = i
    · rw [if_pos ((hrd j (by omega)).2 e), chk_nat (by rw [List.length_set]; omega), if_pos (by simpa using e)]
      simp only [Option.bind_some, List.set_set]; rfl
    · rw [if_neg (fun hh => e ((hrd j (by omega)).1 hh)), if_neg (by simpa using e)]; rfl
def mkL (n i : Nat) : List Int := (List.replicate n 0).set i 1
theorem mkL_rd {n i k : Nat} (hi : i < n) (hk : k < n) : (mkL n i).getD k 0 = 1 ↔ k = i := by
  rw [getD_lt (by unfold mkL; simp; omega)]
  unfold mkL; rw [List.getElem_set]
  split
  · next e => simp [e]
  · next e => simp; omega
def partInv (P : List Nat) (n i : Nat) : List Int := cI ((List.range i).map (lastN P)) ++ List.replicate (n - i) 0
theorem partInv_len {P : List Nat} {n i : Nat} (hi : i ≤ n) : (partInv P n i).length = n := by unfold partInv; rw [List.length_append, cI_len]; simp; omega
theorem partInv_set {P : List Nat} {n i : Nat} (hi : i < n) : (partInv P n i).set i (lastN P i : Int) = partInv P n (i + 1) := by
  unfold partInv
  have h1 : (cI ((List.range i).map (lastN P))).length = i := by rw [cI_len]; simp
  have e : n - i = (n - (i + 1)) + 1 := by omega
  rw [List.set_append, if_neg (by omega), h1, Nat.sub_self, e, List.replicate_succ, List.set_cons_zero, List.range_succ, List.map_append, ← cI_app]
  simp [cI]
theorem partInv_zero {P : List Nat} {n i : Nat} (hi : i < n) : (partInv P n i).set i 0 = partInv P n i := by
  unfold partInv
  have h1 : (cI ((List.range i).map (lastN P))).length = i := by rw [cI_len]; simp
  have e : n - i = (n - (i + 1)) + 1 := by omega
  rw [List.set_append, if_neg (by omega), h1, Nat.sub_self, e, List.replicate_succ, List.set_cons_zero]
theorem specPlaces_yes {w h s : Nat} {l : List Int} (hw : 1 ≤ w ∧ w ≤ 8) (hh : 1 ≤ h ∧ h ≤ 8) (hll : l.length = w * h) (hP : ∀ k ∈ permN w h s, k < w * h) (hp : ∀ x ∈ (moveR w h (idL (w * h)) s).2.2, 0 ≤ x) (hc : (moveR w h (idL (w * h)) s).1 = w) (hc' : (moveR w h (idL (w * h)) s).2.1 = h) (k : Nat) (hk : 10000 ≤ k) : spec_l4Places.f k w h l s = some (cI (invN (permN w h s))) := by
  have hn : w * h ≤ 64 := Nat.mul_le_mul hw.2 hh.2
  have hPl := permN_len hw hh hc hc'
  generalize hPP : permN w h s = P at *
  have go : ∀ (d K i : Nat), i + d = w * h → 300 + 100 * d ≤ K → spec_l4Places.l4 K s w h l (partInv P (w * h) i) i = some (cI (invN P)) := by
    intro d
    induction d with
    | zero =>
      intro K i h1 h2
      obtain ⟨K, rfl⟩ := succ_of (show 0 < K by omega)
      simp only [spec_l4Places.l4, spec_l4Places.b4]; rw [if_neg (by omega)]
      unfold partInv invN; rw [show w * h - i = 0 by omega, show i = P.length by omega]; simp
    | succ d ih =>
      intro K i h1 h2
      obtain ⟨K, rfl⟩ := succ_of (show 0 < K by omega)
      simp only [spec_l4Places.l4, spec_l4Places.b4]
      rw [if_pos (by omega), mkl_int (by omega)]; simp only [Option.bind_some]
      rw [chk_nat (by simp; omega), Int.toNat_natCast, hll]; simp only [Option.bind_some]
      have hmk : (List.replicate (w * h) (0 : Int)).set i 1 = (idL (w * h)).map (fun x => (mkL (w * h) i).getD x.toNat 0) := by
        have h0 : (mkL (w * h) i).length = w * h := by unfold mkL; simp
        have := idL_map (mkL (w * h) i); rw [h0] at this; rw [this]; rfl
      have okM : okC (w : Int) (h : Int) ((idL (w * h)).map (fun x => (mkL (w * h) i).getD x.toNat 0)) := ⟨by omega, by omega, by rw [List.length_map]; exact (idL_ok hw hh).2.2⟩
      rw [hmk, specMove_eq okM (by omega) K (by omega), moveR_map _ _ (idL_ok hw hh)]; simp only [Option.bind_some]
      rw [perm_cI (by rw [hPP] at *; exact hp), hPP]
      have hmapl : ((cI P).map (fun x => (mkL (w * h) i).getD x.toNat 0)).length = w * h := by rw [List.length_map, cI_len]; exact hPl
      obtain ⟨K', e1, e2⟩ := specPlaces_l1 (w := w) (h := h) (s := s) (l := l) hmapl hPl hn (show i < w * h by omega) (moveR w h (idL (w * h)) s).1 (moveR w h (idL (w * h)) s).2.1 (fun j hj => by
        rw [getD_lt (by omega), List.getElem_map]
        have : (cI P)[j]'(by rw [cI_len]; omega) = ((P.getD j 0 : Nat) : Int) := by rw [← cI_get P j (by omega), getD_lt (by rw [cI_len]; omega)]
        rw [this, Int.toNat_natCast]; exact mkL_rd (by omega) (getN_lt hP (by omega))) (partInv P (w * h) i) (partInv_len (by omega)) (w * h) K 0 (by omega) (by omega)
      rw [show (List.range 0).foldl (fun a k => if P.getD k 0 == i then k else a) 0 = 0 from rfl, show (((0 : Nat)) : Int) = 0 from rfl, partInv_zero (by omega)] at e2
      rw [e2]
      have : (List.range (w * h)).foldl (fun a k => if P.getD k 0 == i then k else a) 0 = lastN P i := by unfold lastN; rw [hPl]
      rw [this, partInv_set (by omega)]
      exact ih K' (i + 1) (by omega) (by omega)
  unfold spec_l4Places.f spec_l4Places.m
  rw [mkl_int (by omega), Int.toNat_natCast, hll]; simp only [Option.bind_some]
  exact go (w * h) k 0 (by omega) (by omega)
theorem oneS_len (Q : List Nat) : ∀ (f k : Nat) (o o' : List Nat), oneS Q f k o = some o' → o'.length ≤ o.length + f := by
  intro f
  induction f with
  | zero => intro k o o' h; simp [oneS] at h
  | succ f ih =>
    intro k o o' h
    simp only [oneS] at h
    split at h
    · injection h with h; subst h; omega
    · have := ih _ _ _ h; simp at this; omega
theorem oneS_mem {Q : List Nat} {n : Nat} (hQ : ∀ k ∈ Q, k < n) (hl : Q.length = n) : ∀ (f k : Nat) (o o' : List Nat), oneS Q f k o = some o' → k < n → (∀ x ∈ o, x < n) → ∀ x ∈ o', x < n := by
  intro f
  induction f with
  | zero => intro k o o' h; simp [oneS] at h
  | succ f ih =>
    intro k o o' h hk ho
    simp only [oneS] at h
    split at h
    · injection h with h; subst h; exact ho
    · refine ih _ _ _ h (getN_lt hQ (by omega)) ?_
      intro x hx; rw [List.mem_append, List.mem_singleton] at hx
      rcases hx with hx | rfl
      · exact ho x hx
      · exact hk
theorem specOne {w h : Int} {l out : List Int} {Q : List Nat} {n : Nat} (hQ : ∀ k ∈ Q, k < n) (hl : Q.length = n) (hn : n ≤ 64) (ch : Int) (seen : List Nat) (hs : seen.length ≤ 1000) (i : Int) : ∀ (f K k : Nat) (o o' : List Nat), oneS Q f k o = some o' → k < n → o.length + f ≤ 100 → 140 + f < K → ∃ K', K ≤ K' + f ∧ K' < K ∧ spec_l4Complete.l15 K w h l 0 0 [] w h out ch (cI Q) (cI seen) i (cI o) k = spec_l4Complete.l23 K' w h l 0 0 [] w h out ch (cI Q) (cI (seen ++ o')) i (cI o') 0 0 0 := by
  intro f
  induction f with
  | zero => intro K k o o' h; simp [oneS] at h
  | succ f ih =>
    intro K k o o' h hk ho hK
    obtain ⟨K, rfl⟩ := succ_of (show 0 < K by omega)
    simp only [oneS] at h
    simp only [spec_l4Complete.l15, spec_l4Complete.b15]
    rw [has_eq (cI o) k (by rw [cI_len]; omega) K (by rw [cI_len]; omega), mem_cI]; simp only [Option.bind_some]
    split at h
    · next e =>
      injection h with h; subst h
      refine ⟨K, by omega, by omega, ?_⟩
      rw [e]; simp only [Bool.not_true, cond_false]
      rw [app_ok (by rw [cI_len, cI_len]; omega), cI_app]; rfl
    · next e =>
      rw [notB e]; simp only [Bool.not_false, cond_true]
      rw [app_ok (by rw [cI_len, List.length_singleton]; omega)]; simp only [Option.bind_some]
      rw [chk_nat (by rw [cI_len]; omega)]; simp only [Option.bind_some]
      rw [cI_get Q k (by omega), cI_snoc]
      obtain ⟨K', e1, e2, e3⟩ := ih K _ _ _ h (getN_lt hQ (by omega)) (by simp; omega) (by omega)
      exact ⟨K', by omega, by omega, e3⟩
theorem specCount {w h : Int} {l out Q' : List Int} {o : List Nat} (ho : ∀ k ∈ o, k < l.length) (hol : o.length ≤ 100) (ch i b m : Int) (seen : List Int) (c : Nat) : ∀ (d K j : Nat), j + d = o.length → d < K → ∃ K', K = K' + d + 1 ∧ spec_l4Complete.l30 K w h l 0 0 [] w h out ch Q' seen i (cI o) b m c (cntN l (o.take j) c : Int) j = if m < (cntN l o c : Int) then spec_l4Complete.l23 K' w h l 0 0 [] w h out ch Q' seen i (cI o) c (cntN l o c : Int) (w64 ((c : Int) + 1)) else spec_l4Complete.l23 K' w h l 0 0 [] w h out ch Q' seen i (cI o) b m (w64 ((c : Int) + 1)) := by
  intro d
  induction d with
  | zero =>
    intro K j h1 h2
    obtain ⟨K, rfl⟩ := succ_of (show 0 < K by omega)
    refine ⟨K, rfl, ?_⟩
    simp only [spec_l4Complete.l30, spec_l4Complete.b30]; rw [if_neg (by rw [cI_len]; omega), List.take_of_length_le (by omega)]
  | succ d ih =>
    intro K j h1 h2
    obtain ⟨K, rfl⟩ := succ_of (show 0 < K by omega)
    have hj : j < o.length := by omega
    have hb2 := getN_lt ho hj
    obtain ⟨K', e1, e2⟩ := ih K (j + 1) (by omega) (by omega)
    refine ⟨K', by omega, ?_⟩
    rw [← e2]
    conv => lhs; simp only [spec_l4Complete.l30, spec_l4Complete.b30]
    rw [if_pos (by rw [cI_len]; omega), chk_nat (by rw [cI_len]; omega)]
    simp only [Option.bind_some]
    rw [cI_get o j hj]
    rw [chk_nat (by omega)]
    simp only [Option.bind_some]
    have hcb : cntN l (o.take j) c ≤ j := Nat.le_trans List.countP_le_length (by rw [List.length_take]; omega)
    have hc1 : cntN l (o.take (j + 1)) c = cntN l (o.take j) c + if l.getD (o.getD j 0) 0 == (c : Int) then 1 else 0 := by
      unfold cntN; rw [← takeN_snoc hj, List.countP_append, List.countP_singleton]
    rw [w64_id (x := (j : Int) + 1) (by omega), show ((j : Int) + 1) = ((j + 1 : Nat) : Int) by omega]
    by_cases e : l.getD (o.getD j 0) 0 = (c : Int)
    · rw [if_pos (by simpa using e)] at hc1
      rw [if_pos e, hc1, w64_id (by omega)]; rfl
    · rw [if_neg (by simpa using e)] at hc1
      rw [if_neg e, hc1]; rfl
theorem specBest {w h : Int} {l out Q' : List Int} {o : List Nat} (ho : ∀ k ∈ o, k < l.length) (hol : o.length ≤ 100) (ch i : Int) (seen : List Int) : ∀ (d K c b m : Nat), c + d = 6 → 110 * (d + 1) < K → ∃ K', K ≤ K' + 110 * (d + 1) ∧ K' < K ∧ spec_l4Complete.l23 K w h l 0 0 [] w h out ch Q' seen i (cI o) b m c = spec_l4Complete.l39 K' w h l 0 0 [] w h out (w64 ((w64 (ch + (o.length : Int))) - ((bestF ((cntL l o).drop c) c b m).2 : Int))) Q' seen i (cI o) ((bestF ((cntL l o).drop c) c b m).1 : Int) 0 := by
  intro d
  induction d with
  | zero =>
    intro K c b m h1 h2
    obtain ⟨K, rfl⟩ := succ_of (show 0 < K by omega)
    refine ⟨K, by omega, by omega, ?_⟩
    have : (cntL l o).drop c = [] := List.drop_of_length_le (by unfold cntL; simp; omega)
    rw [this]
    simp only [spec_l4Complete.l23, spec_l4Complete.b23, bestF]; rw [if_neg (by omega), cI_len]
  | succ d ih =>
    intro K c b m h1 h2
    obtain ⟨K, rfl⟩ := succ_of (show 0 < K by omega)
    have hd : (cntL l o).drop c = cntN l o c :: (cntL l o).drop (c + 1) := by
      rw [List.drop_eq_getElem_cons (by unfold cntL; simp; omega)]; congr 1; unfold cntL; simp
    obtain ⟨K1, e1, e2⟩ := specCount (w := w) (h := h) (out := out) (Q' := Q') ho hol ch i b m seen c o.length K 0 (by omega) (by omega)
    simp only [spec_l4Complete.l23, spec_l4Complete.b23]
    rw [if_pos (by omega)]
    rw [show cntN l (o.take 0) c = 0 from rfl, show (((0 : Nat)) : Int) = 0 from rfl] at e2
    rw [e2, hd, w64_id (by omega), show ((c : Int) + 1) = ((c + 1 : Nat) : Int) by omega]
    simp only [bestF]
    by_cases e : cntN l o c > m
    · rw [if_pos (by omega), if_pos e]
      obtain ⟨K', f1, f2, f3⟩ := ih K1 (c + 1) c (cntN l o c) (by omega) (by omega)
      exact ⟨K', by omega, by omega, f3⟩
    · rw [if_neg (by omega), if_neg e]
      obtain ⟨K', f1, f2, f3⟩ := ih K1 (c + 1) b m (by omega) (by omega)
      exact ⟨K', by omega, by omega, f3⟩
theorem specFill {w h : Int} {l out Q' : List Int} {o : List Nat} (ho : ∀ k ∈ o, k < out.length) (hol : o.length ≤ 100) (ch i b : Int) (seen : List Int) : ∀ (d K j : Nat), j + d = o.length → d < K → ∃ K', K = K' + d + 1 ∧ spec_l4Complete.l39 K w h l 0 0 [] w h (fillN out (o.take j) b) ch Q' seen i (cI o) b j = spec_l4Complete.l6 K' w h l 0 0 [] w h (fillN out o b) ch Q' seen (w64 (i + 1)) := by
  intro d
  induction d with
  | zero =>
    intro K j h1 h2
    obtain ⟨K, rfl⟩ := succ_of (show 0 < K by omega)
    refine ⟨K, rfl, ?_⟩
    simp only [spec_l4Complete.l39, spec_l4Complete.b39]; rw [if_neg (by rw [cI_len]; omega), List.take_of_length_le (by omega)]
  | succ d ih =>
    intro K j h1 h2
    obtain ⟨K, rfl⟩ := succ_of (show 0 < K by omega)
    have hj : j < o.length := by omega
    have hb2 := getN_lt ho hj
    obtain ⟨K', e1, e2⟩ := ih K (j + 1) (by omega) (by omega)
    refine ⟨K', by omega, ?_⟩
    rw [← e2]
    conv => lhs; simp only [spec_l4Complete.l39, spec_l4Complete.b39]
    rw [if_pos (by rw [cI_len]; omega), chk_nat (by rw [cI_len]; omega)]
    simp only [Option.bind_some]
    rw [cI_get o j hj]
    rw [chk_nat (by rw [fillN_len]; omega), w64_id (by omega)]
    simp only [Option.bind_some]
    rw [fillN_snoc, takeN_snoc hj]; rfl
theorem specComplete_l {w h : Int} {l : List Int} {Q : List Nat} {n : Nat} (hQ : ∀ k ∈ Q, k < n) (hl : Q.length = n) (hn : n ≤ 64) (hll : l.length = n) : ∀ (d K i : Nat) (seen : List Nat) (outN b : List (List Nat)) (st : List Int × Int), allS Q d i seen outN = some b → i + d = n → st.1.length = n → 0 ≤ st.2 → st.2 + 64 * d ≤ 10000 → seen.length ≤ 6 * i → 1500 + 1500 * d ≤ K → ∃ rest, b = outN ++ rest ∧ spec_l4Complete.l6 K w h l 0 0 [] w h st.1 st.2 (cI Q) (cI seen) i = some (w, h, (rest.foldl (stepC l) st).1, (rest.foldl (stepC l) st).2) := by
  intro d
  induction d with
  | zero =>
    intro K i seen outN b st h1 h2 h3 h4 h5 h6 h7
    obtain ⟨K, rfl⟩ := succ_of (show 0 < K by omega)
    simp only [allS] at h1; injection h1 with h1; subst h1
    refine ⟨[], by simp, ?_⟩
    simp only [spec_l4Complete.l6, spec_l4Complete.b6]; rw [if_neg (by omega)]; rfl
  | succ d ih =>
    intro K i seen outN b st h1 h2 h3 h4 h5 h6 h7
    obtain ⟨K, rfl⟩ := succ_of (show 0 < K by omega)
    simp only [allS] at h1
    simp only [spec_l4Complete.l6, spec_l4Complete.b6]
    rw [if_pos (by omega), has_eq (cI seen) i (by rw [cI_len]; omega) K (by rw [cI_len]; omega), mem_cI]; simp only [Option.bind_some]
    split at h1
    · next e =>
      rw [e, w64_id (by omega), show ((i : Int) + 1) = ((i + 1 : Nat) : Int) by omega]
      exact ih K (i + 1) seen outN b st h1 (by omega) h3 h4 (by omega) (by omega) (by omega)
    · next e =>
      rw [notB e]; simp only [cond_false]
      cases h8 : oneS Q 6 i [] with
      | none => rw [h8] at h1; simp at h1
      | some o =>
        rw [h8] at h1; simp only [Option.bind_some] at h1
        have hol := oneS_len Q 6 i [] o h8
        have hom := oneS_mem hQ hl 6 i [] o h8 (by omega) (by simp)
        simp only [List.length_nil] at hol
        have hble := best_le l o
        obtain ⟨K1, a1, a2, a3⟩ := specOne (w := w) (h := h) (l := l) (out := st.1) hQ hl hn st.2 seen (by omega) i 6 K i [] o h8 (by omega) (by simp) (by omega)
        rw [show (([] : List Int)) = cI [] from rfl]
        rw [show (cI [] : List Int) = [] from rfl] at a3 ⊢
        rw [a3]
        obtain ⟨K2, b1, b2, b3⟩ := specBest (w := w) (h := h) (l := l) (out := st.1) (Q' := cI Q) (o := o) (by rw [hll]; exact hom) (by omega) st.2 i (cI (seen ++ o)) 6 K1 0 0 0 (by omega) (by omega)
        rw [show (((0 : Nat)) : Int) = 0 from rfl] at b3
        rw [b3, List.drop_zero]
        obtain ⟨K3, c1, c2⟩ := specFill (w := w) (h := h) (l := l) (out := st.1) (Q' := cI Q) (o := o) (by rw [h3]; exact hom) (by omega) (w64 ((w64 (st.2 + (o.length : Int))) - ((bestF (cntL l o) 0 0 0).2 : Int))) i ((bestF (cntL l o) 0 0 0).1 : Int) (cI (seen ++ o)) o.length K2 0 (by omega) (by omega)
        rw [show fillN st.1 (o.take 0) ((bestF (cntL l o) 0 0 0).1 : Int) = st.1 from rfl, show (((0 : Nat)) : Int) = 0 from rfl] at c2
        have hb2 : (bestF (cntL l o) 0 0 0).2 ≤ o.length := hble.1
        rw [c2, w64_id (x := (i : Int) + 1) (by omega), w64_id (x := st.2 + (o.length : Int)) (by omega), w64_id (by omega), show ((i : Int) + 1) = ((i + 1 : Nat) : Int) by omega]
        obtain ⟨rest, r1, r2⟩ := ih K3 (i + 1) (seen ++ o) (outN ++ [o]) b (stepC l st o) h1 (by omega) (by unfold stepC; simp only [fillN_len]; exact h3) (by unfold stepC bestR; simp only; omega) (by unfold stepC bestR; simp only; omega) (by rw [List.length_append]; omega) (by omega)
        refine ⟨o :: rest, by rw [r1]; simp, ?_⟩
        rw [List.foldl_cons]
        exact r2
theorem invN_len (P : List Nat) : (invN P).length = P.length := by unfold invN; simp
theorem step_len (l : List Int) : ∀ (a : List (List Nat)) (st : List Int × Int), (a.foldl (stepC l) st).1.length = st.1.length := by
  intro a
  induction a with
  | nil => intro st; rfl
  | cons x a ih => intro st; rw [List.foldl_cons, ih]; unfold stepC; simp only [fillN_len]
/-- What the reference makes of a chart and a symmetry. -/
theorem completeS {w h s : Nat} {l : List Int} (hw : 1 ≤ w ∧ w ≤ 8) (hh : 1 ≤ h ∧ h ≤ 8) (hs : s ≤ 7) (ha : s % 2 = 0 ∨ w = h) (hll : l.length = w * h) : ∃ (b : List (List Nat)), allS (invN (permN w h s)) (w * h) 0 [] [] = some b ∧ ∀ k, 120000 ≤ k → spec_l4Complete.f k w h l s = some ((w : Int), (h : Int), (b.foldl (stepC l) (l, 0)).1, (b.foldl (stepC l) (l, 0)).2) := by
  have hn : w * h ≤ 64 := Nat.mul_le_mul hw.2 hh.2
  obtain ⟨a, b, ea, eb, hlen, hz, hP, hp, hQ, hc, hc'⟩ := chkO_of (chkO_asked hw hh hs ha)
  have hPl := permN_len hw hh hc hc'
  refine ⟨b, eb, fun k hk => ?_⟩
  unfold spec_l4Complete.f spec_l4Complete.m
  rw [l2Own_eq _ _ _ l (by omega)]; simp only [Option.bind_some]
  rw [specPlaces_yes hw hh hll hP hp hc hc' k (by omega)]; simp only [Option.bind_some]
  obtain ⟨rest, r1, r2⟩ := specComplete_l (w := w) (h := h) (l := l) hQ (by rw [invN_len]; exact hPl) hn hll (w * h) k 0 [] [] b (l, 0) eb (by omega) hll (by simp) (by simp; omega) (by simp) (by omega)
  rw [List.nil_append] at r1; subst r1
  exact r2
def symB (s : Int) : Bool := inB s 0 7
theorem l4Symm_eq (k : Nat) (s : Int) : spec_l4Symmetry.f k s = some (symB s) := by unfold spec_l4Symmetry.f spec_l4Symmetry.m symB; rw [specIn_eq]; rfl
def askedB (w h : Int) (l : List Int) (s : Int) : Bool := goodB w h l && symB s && (decide (s % 2 = 0) || decide (w = h))
theorem asked_eq (w h : Int) (l : List Int) (s : Int) (hl : l.length ≤ 4194304) (k : Nat) (hk : l.length + 50 ≤ k) : spec_l4Asked.f k w h l s = some (askedB w h l s) := by
  unfold spec_l4Asked.f spec_l4Asked.m askedB
  rw [l2Good_eq k w h l (by omega) (by omega)]; simp only [Option.bind_some]
  cases e : goodB w h l <;> simp only [Bool.not_true, Bool.not_false, cond_true, cond_false, Bool.true_and, Bool.false_and, Bool.and_true, Bool.and_false, Bool.false_eq_true, Bool.true_or, Bool.or_true, Bool.false_or, Bool.or_false, Bool.or_self, Bool.and_self, decide_true, decide_false, if_true, if_false, not_true, not_false_eq_true, not_true_eq_false, false_or, or_false, true_and, and_true, Bool.not_eq_true, Bool.true_eq_false, reduceCtorEq]
  rw [l4Symm_eq]; simp only [Option.bind_some]
  cases e2 : symB s <;> simp only [Bool.not_true, Bool.not_false, cond_true, cond_false, Bool.true_and, Bool.false_and, Bool.and_true, Bool.and_false, Bool.false_eq_true, Bool.true_or, Bool.or_true, Bool.false_or, Bool.or_false, Bool.or_self, Bool.and_self, decide_true, decide_false, if_true, if_false, not_true, not_false_eq_true, not_true_eq_false, false_or, or_false, true_and, and_true, Bool.not_eq_true, Bool.true_eq_false, reduceCtorEq]
  have := inB_iff.1 e2
  unfold rem; rw [if_neg (by omega), Int.tmod_eq_emod_of_nonneg (by omega)]; simp only [Option.bind_some]
  by_cases e3 : s % 2 = 0
  · rw [if_pos e3, decide_eq_true e3]; rfl
  · rw [if_neg e3, decide_eq_false e3]; rfl
theorem specCompleteC (w h : Int) (l : List Int) (s : Int) (hl : l.length ≤ 4194304) (k : Nat) (hk : l.length + 120050 ≤ k) : ∃ (a b : Int) (r : List Int) (t : Bool), spec_CompleteChart.f k w h l s = some (a, b, r, t) ∧ (t = true → a = w ∧ b = h ∧ r.length ≤ 64) := by
  unfold spec_CompleteChart.f spec_CompleteChart.m
  rw [asked_eq w h l s hl k (by omega)]; simp only [Option.bind_some]
  cases ha : askedB w h l s <;> simp only [Bool.not_true, Bool.not_false, cond_true, cond_false, Bool.true_and, Bool.false_and, Bool.and_true, Bool.and_false, Bool.false_eq_true, Bool.true_or, Bool.or_true, Bool.false_or, Bool.or_false, Bool.or_self, Bool.and_self, decide_true, decide_false, if_true, if_false, not_true, not_false_eq_true, not_true_eq_false, false_or, or_false, true_and, and_true, Bool.not_eq_true, Bool.true_eq_false, reduceCtorEq]
  · exact ⟨0, 0, [], false, rfl, fun hh => by cases hh⟩
  · unfold askedB at ha
    simp only [Bool.and_eq_true, Bool.or_eq_true, decide_eq_true_eq] at ha
    obtain ⟨⟨hg, hs⟩, ho⟩ := ha
    obtain ⟨hw, hh, hll, _⟩ := good_of hg
    have hs := inB_iff.1 hs
    have hm := mul_bd hw hh
    obtain ⟨w, rfl⟩ := Int.eq_ofNat_of_zero_le (show 0 ≤ w by omega)
    obtain ⟨h, rfl⟩ := Int.eq_ofNat_of_zero_le (show 0 ≤ h by omega)
    obtain ⟨s, rfl⟩ := Int.eq_ofNat_of_zero_le (show 0 ≤ s by omega)
    have hl2 : l.length = w * h := by rw [← Int.natCast_mul] at hll; omega
    obtain ⟨b, _, hb⟩ := completeS (w := w) (h := h) (s := s) (l := l) (by omega) (by omega) (by omega) (by omega) hl2
    rw [hb k (by omega)]; simp only [Option.bind_some]
    exact ⟨_, _, _, true, rfl, fun _ => ⟨rfl, rfl, by rw [step_len]; show l.length ≤ 64; omega⟩⟩
theorem oneI_len (P : List Nat) : ∀ (f : Nat) (met : List Bool) (k : Nat) (o : List Nat) (met' : List Bool) (o' : List Nat), oneI P f met k o = some (met', o') → o'.length ≤ o.length + f ∧ met'.length = met.length := by
  intro f
  induction f with
  | zero => intro met k o met' o' h; simp [oneI] at h
  | succ f ih =>
    intro met k o met' o' h
    simp only [oneI] at h
    split at h
    · injection h with h; injection h with h1 h2; subst h1; subst h2; omega
    · have := ih _ _ _ _ _ h; simp at this; omega
theorem getD_any {α : Type} {l : List α} {i : Nat} (h : i < l.length) (a b : α) : l.getD i a = l.getD i b := by
  rw [List.getD_eq_getElem?_getD, List.getD_eq_getElem?_getD, List.getElem?_eq_getElem h]; rfl
theorem implOne {P : List Nat} {n : Nat} (hP : ∀ k ∈ P, k < n) (hl : P.length = n) (hn : n ≤ 64) (out : List (List Int)) (hout : out.length ≤ 1000) (i : Nat) (hi : i ≤ 64) (W H : Int) : ∀ (f K : Nat) (met : List Bool) (k : Nat) (o : List Nat) (met' : List Bool) (o' : List Nat), oneI P f met k o = some (met', o') → met.length = n → k < n → o.length + f ≤ 1000 → f < K → ∃ K', K ≤ K' + f ∧ K' < K ∧ impl_orbits.l16 K W H (cI P) out met (cI o) k n i = impl_orbits.l8 K' W H (cI P) (if o'.isEmpty then out else out ++ [cI o']) met' n ((i + 1 : Nat) : Int) := by
  intro f
  induction f with
  | zero => intro K met k o met' o' h; simp [oneI] at h
  | succ f ih =>
    intro K met k o met' o' h hm hk ho hf
    obtain ⟨K, rfl⟩ := succ_of (show 0 < K by omega)
    simp only [oneI] at h
    simp only [impl_orbits.l16, impl_orbits.b16]
    rw [chk_nat (by omega)]; simp only [Option.bind_some]
    rw [getD_any (by omega) false true]
    split at h
    · next e =>
      injection h with h; injection h with h1 h2; subst h1; subst h2
      refine ⟨K, by omega, by omega, ?_⟩
      rw [e]; simp only [Bool.not_true, cond_false]
      rw [w64_id (by omega), show ((i : Int) + 1) = ((i + 1 : Nat) : Int) by omega, cI_len]
      cases o with
      | nil => rw [if_neg (by simp)]; rfl
      | cons x o => rw [if_pos (by simp; try omega), app_ok (by simp; omega)]; rfl
    · next e =>
      rw [notB e]; simp only [Bool.not_false, cond_true]
      rw [app_ok (by rw [cI_len, List.length_singleton]; omega)]; simp only [Option.bind_some]
      rw [chk_nat (by rw [cI_len]; omega)]; simp only [Option.bind_some]
      rw [cI_get P k (by omega), cI_snoc]
      obtain ⟨K', e1, e2, e3⟩ := ih K _ _ _ _ _ h (by simp; omega) (getN_lt hP (by omega)) (by simp; omega) (by omega)
      exact ⟨K', by omega, by omega, e3⟩
def cLL (a : List (List Nat)) : List (List Int) := a.map cI
theorem implAll {P : List Nat} {n : Nat} (hP : ∀ k ∈ P, k < n) (hl : P.length = n) (hn : n ≤ 64) (W H : Int) : ∀ (d K i : Nat) (met : List Bool) (out a : List (List Nat)), allI P d i met out = some a → i + d = n → met.length = n → out.length ≤ i → 20 + 10 * d ≤ K → impl_orbits.l8 K W H (cI P) (cLL out) met n i = some (cLL a, true) := by
  intro d
  induction d with
  | zero =>
    intro K i met out a h hi hm ho hK
    obtain ⟨K, rfl⟩ := succ_of (show 0 < K by omega)
    simp only [allI] at h; injection h with h; subst h
    simp only [impl_orbits.l8, impl_orbits.b8]; rw [if_neg (by omega)]
  | succ d ih =>
    intro K i met out a h hi hm ho hK
    obtain ⟨K, rfl⟩ := succ_of (show 0 < K by omega)
    simp only [allI] at h
    simp only [impl_orbits.l8, impl_orbits.b8]; rw [if_pos (by omega)]
    cases h1 : oneI P 6 met i [] with
    | none => rw [h1] at h; simp at h
    | some r =>
      obtain ⟨met', o'⟩ := r
      rw [h1] at h; simp only [Option.bind_some] at h
      have hlen := oneI_len P 6 met i [] met' o' h1
      obtain ⟨K', e1, e2, e3⟩ := implOne hP hl hn (cLL out) (by unfold cLL; simp; omega) i (by omega) W H 6 K met i [] met' o' h1 hm (by omega) (by simp) (by omega)
      rw [show (([] : List Int)) = cI [] from rfl, e3]
      have hc : (if o'.isEmpty = true then cLL out else cLL out ++ [cI o']) = cLL (if o'.isEmpty then out else out ++ [o']) := by
        cases o' with
        | nil => rfl
        | cons x o' => simp [cLL]
      rw [hc]
      refine ih K' (i + 1) met' _ a h (by omega) (by omega) ?_ (by omega)
      split
      · omega
      · rw [List.length_append]; simp; omega
theorem grid_id (w h : Nat) : gridL w h (fun r c => ((r : Int) * (w : Int)) + (c : Int)) = idL (w * h) := by
  apply List.ext_getElem?
  intro j
  by_cases hj : j < w * h
  · have hw : 0 < w := by rcases Nat.eq_zero_or_pos w with rfl | h; simp at hj; exact h
    have hr : j / w < h := Nat.div_lt_of_lt_mul hj
    have hc : j % w < w := Nat.mod_lt _ hw
    have e : j / w * w + j % w = j := by rw [Nat.mul_comm]; exact Nat.div_add_mod j w
    have := gridL_get w h (fun r c => ((r : Int) * (w : Int)) + (c : Int)) (j / w) (j % w) hr hc
    rw [e] at this; rw [this]
    unfold idL; rw [List.getElem?_map, List.getElem?_range hj]
    simp only [Option.map_some]; congr 1
    rw [← Int.natCast_mul, ← Int.natCast_add, e]
  · rw [List.getElem?_eq_none (by rw [gridL_len]; omega), List.getElem?_eq_none (by unfold idL; simp; omega)]
theorem implMakeId {w h : Nat} (hw : 1 ≤ w ∧ w ≤ 8) (hh : 1 ≤ h ∧ h ≤ 8) (k : Nat) (hk : 90 ≤ k) : impl_makeChart__impl_orbits_1.f k w h w = some ((w : Int), (h : Int), idL (w * h)) := by
  have hb : (h + 1) * (w + 2) ≤ 90 := by have := Nat.mul_le_mul (show h + 1 ≤ 9 by omega) (show w + 2 ≤ 10 by omega); omega
  have := grid_loop (fun k row acc => impl_makeChart__impl_orbits_1.l4 k w w 0 0 [] w h acc h row) (fun k row col acc => impl_makeChart__impl_orbits_1.l10 k w w 0 0 [] w h acc row h row w col) (fun acc => some ((w : Int), (h : Int), acc)) w h (by omega) (by omega)
    (fun k row col => impl_orbits_1.f k row col w) (fun r c => ((r : Int) * (w : Int)) + (c : Int))
    (fun k row acc => by simp only [impl_makeChart__impl_orbits_1.l4, impl_makeChart__impl_orbits_1.b4]) (fun k row col acc => by simp only [impl_makeChart__impl_orbits_1.l10, impl_makeChart__impl_orbits_1.b10])
    (fun k r c hr hc => by
      have b : r * w ≤ 64 := by have := Nat.mul_le_mul (show r ≤ 8 by omega) (show w ≤ 8 by omega); omega
      have b2 : (r : Int) * (w : Int) ≤ 64 := by rw [← Int.natCast_mul]; omega
      have b3 : 0 ≤ (r : Int) * (w : Int) := by rw [← Int.natCast_mul]; omega
      simp only [impl_orbits_1.f, impl_orbits_1.m]; rw [w64_id (x := (r : Int) * (w : Int)) (by omega), w64_id (by omega)]) k (Nat.le_trans hb hk)
  unfold impl_makeChart__impl_orbits_1.f impl_makeChart__impl_orbits_1.m
  exact Eq.trans this (by rw [grid_id])
theorem implOrbits_yes {w h s : Nat} (hw : 1 ≤ w ∧ w ≤ 8) (hh : 1 ≤ h ∧ h ≤ 8) {a : List (List Nat)} (ha : allI (permN w h s) (w * h) 0 (List.replicate (w * h) false) [] = some a) (hP : ∀ k ∈ permN w h s, k < w * h) (hp : ∀ x ∈ (moveR w h (idL (w * h)) s).2.2, 0 ≤ x) (hc : (moveR w h (idL (w * h)) s).1 = w) (hc' : (moveR w h (idL (w * h)) s).2.1 = h) (k : Nat) (hk : 1000 ≤ k) : impl_orbits.f k w h s = some (cLL a, true) := by
  have hn : w * h ≤ 64 := Nat.mul_le_mul hw.2 hh.2
  have hnI : (w : Int) * (h : Int) ≤ 64 := by rw [← Int.natCast_mul]; omega
  have hnI0 : 0 ≤ (w : Int) * (h : Int) := by rw [← Int.natCast_mul]; omega
  unfold impl_orbits.f impl_orbits.m
  rw [implMakeId hw hh k (by omega)]; simp only [Option.bind_some]
  rw [implMove_eq (idL_ok hw hh) (by omega) k (by omega)]; simp only [Option.bind_some]
  rw [if_neg (fun hn => hn hc), w64_id (by omega), mkl_int (by omega)]; simp only [Option.bind_some]
  rw [show ((w : Int) * (h : Int)).toNat = w * h by rw [← Int.natCast_mul, Int.toNat_natCast]]
  rw [perm_cI hp, List.length_replicate]
  exact implAll hP (permN_len hw hh hc hc') hn _ _ (w * h) k 0 _ [] a ha (by omega) (by simp) (by simp) (by omega)
theorem implOrbits_no {w h s : Nat} (hw : 1 ≤ w ∧ w ≤ 8) (hh : 1 ≤ h ∧ h ≤ 8) (hs : s ≤ 7) (ho : s % 2 = 1) (hne : w ≠ h) (k : Nat) (hk : 1000 ≤ k) : impl_orbits.f k w h s = some ([], false) := by
  unfold impl_orbits.f impl_orbits.m
  rw [implMakeId hw hh k (by omega)]; simp only [Option.bind_some]
  rw [implMove_eq (idL_ok hw hh) (by omega) k (by omega)]; simp only [Option.bind_some]
  rw [if_pos (by rw [move_odd _ _ _ (by omega) (by omega)]; omega)]
theorem cntN_snoc (l : List Int) (o : List Nat) (k c : Nat) : cntN l (o ++ [k]) c = cntN l o c + (if l.getD k 0 = (c : Int) then 1 else 0) := by
  unfold cntN; rw [List.countP_append, List.countP_singleton]; simp
theorem cntL_set (l : List Int) (o : List Nat) (k c : Nat) (hc : c < 6) (hk : l.getD k 0 = (c : Int)) : (cI (cntL l o)).set c ((cI (cntL l o)).getD c 0 + 1) = cI (cntL l (o ++ [k])) := by
  have hlen : (cntL l o).length = 6 := by unfold cntL; simp
  have hg : ∀ (o : List Nat) (j : Nat), j < 6 → (cntL l o)[j]? = some (cntN l o j) := by
    intro o j hj; unfold cntL; rw [List.getElem?_map, List.getElem?_range hj]; rfl
  rw [cI_get _ c (by omega)]
  apply List.ext_getElem?
  intro j
  rw [List.getElem?_set]
  unfold cI
  simp only [List.getElem?_map, List.length_map]
  by_cases hj : j < 6
  · rw [hg o j hj, hg (o ++ [k]) j hj]
    simp only [Option.map_some, cntN_snoc]
    by_cases e : c = j
    · subst e
      rw [if_pos rfl, if_pos (by omega), if_pos hk, List.getD_eq_getElem?_getD, hg o c hj]; simp
    · rw [if_neg e, if_neg (by rw [hk]; omega)]; simp
  · rw [if_neg (by omega), List.getElem?_eq_none (by omega), List.getElem?_eq_none (by unfold cntL; simp; omega)]
theorem max_l (cs : List Nat) (hc : cs.length ≤ 100) : ∀ (d k i m : Nat), i + d = cs.length → d < k → ∃ M, slices_Max_int_int.l6 k (cI cs) m i = some ((M : Nat) : Int) ∧ m ≤ M ∧ (∀ x ∈ cs.drop i, x ≤ M) ∧ (M = m ∨ M ∈ cs.drop i) := by
  intro d
  induction d with
  | zero =>
    intro k i m h1 h2
    obtain ⟨k, rfl⟩ := succ_of h2
    refine ⟨m, ?_, Nat.le_refl _, ?_, .inl rfl⟩
    · simp only [slices_Max_int_int.l6, slices_Max_int_int.b6]; rw [if_neg (by rw [cI_len]; omega)]
    · rw [List.drop_of_length_le (by omega)]; simp
  | succ d ih =>
    intro k i m h1 h2
    obtain ⟨k, rfl⟩ := succ_of (show 0 < k by omega)
    simp only [slices_Max_int_int.l6, slices_Max_int_int.b6]
    rw [if_pos (by rw [cI_len]; omega), chk_nat (by rw [cI_len]; omega)]; simp only [Option.bind_some]
    rw [cI_get cs i (by omega), w64_id (by omega)]
    have hd : cs.drop i = cs.getD i 0 :: cs.drop (i + 1) := by
      rw [List.drop_eq_getElem_cons (by omega), getD_lt (by omega)]
    have hmx : max (m : Int) ((cs.getD i 0 : Nat) : Int) = ((max m (cs.getD i 0) : Nat) : Int) := by omega
    obtain ⟨M, e1, e2, e3, e4⟩ := ih k (i + 1) (max m (cs.getD i 0)) (by omega) (by omega)
    refine ⟨M, ?_, by omega, ?_, ?_⟩
    · rw [hmx, show ((i : Int) + 1) = ((i + 1 : Nat) : Int) by omega]; exact e1
    · rw [hd]; intro x hx; rw [List.mem_cons] at hx
      rcases hx with rfl | hx
      · omega
      · exact e3 x hx
    · rw [hd]
      rcases e4 with e4 | e4
      · rcases Nat.le_total m (cs.getD i 0) with hle | hle
        · rw [Nat.max_eq_right hle] at e4; right; rw [e4]; exact List.mem_cons_self
        · rw [Nat.max_eq_left hle] at e4; left; exact e4
      · right; exact List.mem_cons_of_mem _ e4
theorem max_eq {cs : List Nat} {b m : Nat} (hb : IsBest cs b m) (hc : cs.length ≤ 100) (k : Nat) (hk : 101 ≤ k) : slices_Max_int_int.f k (cI cs) = some (m : Int) := by
  have hb1 := (List.getElem?_eq_some_iff.1 hb.2.1).1
  unfold slices_Max_int_int.f slices_Max_int_int.m
  rw [if_neg (by rw [cI_len]; omega), show chk (cI cs).length 0 = some 0 from chk_nat (j := 0) (by rw [cI_len]; omega)]; simp only [Option.bind_some]
  rw [cI_get cs 0 (by omega)]
  obtain ⟨M, e1, e2, e3, e4⟩ := max_l cs hc (cs.length - 1) k 1 (cs.getD 0 0) (by omega) (by omega)
  rw [show ((1 : Nat) : Int) = 1 from rfl] at e1
  rw [e1]
  have hd : cs = cs.getD 0 0 :: cs.drop 1 := by
    cases cs with
    | nil => simp at hb1
    | cons x cs => simp
  have hM : M ∈ cs := by
    rcases e4 with rfl | e4
    · rw [hd]; simp
    · exact List.mem_of_mem_drop e4
  have h1 := hb.1 M hM
  have h2 : m ≤ M := by
    have hm := List.mem_of_getElem? hb.2.1
    rw [hd, List.mem_cons] at hm
    rcases hm with rfl | hm
    · exact e2
    · exact e3 m hm
  rw [Nat.le_antisymm h1 h2]
theorem index_l {cs : List Nat} {b m : Nat} (hb : IsBest cs b m) (hc : cs.length ≤ 100) : ∀ (d k i : Nat), i + d = b → d < k → slices_Index_int_int.l3 k (cI cs) m cs.length i = some (b : Int) := by
  have hb1 := (List.getElem?_eq_some_iff.1 hb.2.1).1
  intro d
  induction d with
  | zero =>
    intro k i h1 h2
    obtain ⟨k, rfl⟩ := succ_of h2
    have : i = b := by omega
    subst this
    simp only [slices_Index_int_int.l3, slices_Index_int_int.b3]
    rw [if_pos (by omega), chk_nat (by rw [cI_len]; omega)]; simp only [Option.bind_some]
    rw [cI_get cs i (by omega), List.getD_eq_getElem?_getD, hb.2.1, if_pos (by simp)]
  | succ d ih =>
    intro k i h1 h2
    obtain ⟨k, rfl⟩ := succ_of (show 0 < k by omega)
    obtain ⟨x, hx, hxm⟩ := hb.2.2 i (by omega)
    simp only [slices_Index_int_int.l3, slices_Index_int_int.b3]
    rw [if_pos (by omega), chk_nat (by rw [cI_len]; omega)]; simp only [Option.bind_some]
    rw [cI_get cs i (by omega), List.getD_eq_getElem?_getD, hx, if_neg (by simp; omega), w64_id (by omega)]
    exact ih k (i + 1) (by omega) (by omega)
theorem index_eq {cs : List Nat} {b m : Nat} (hb : IsBest cs b m) (hc : cs.length ≤ 100) (k : Nat) (hk : 101 ≤ k) : slices_Index_int_int.f k (cI cs) m = some (b : Int) := by
  have hb1 := (List.getElem?_eq_some_iff.1 hb.2.1).1
  unfold slices_Index_int_int.f slices_Index_int_int.m
  rw [cI_len]
  exact index_l hb hc b k 0 (by omega) (by omega)
theorem implFill {w h : Int} {l out : List Int} {o : List Nat} {b m : Nat} {cs : List Nat} (hb : IsBest cs b m) (hc : cs.length ≤ 100) (ho : ∀ k ∈ o, k < out.length) (hol : o.length ≤ 100) (ok : Bool) (ch : Int) (a : List (List Int)) (n i : Int) : ∀ (d K j : Nat), j + d = o.length → 110 + d < K → ∃ K', K = K' + d + 1 ∧ impl_Chart_complete.l21 K w h l 0 0 [] ok w h (fillN out (o.take j) b) ch (cI cs) m a n i (cI o) o.length j = impl_Chart_complete.l5 K' w h l 0 0 [] ok w h (fillN out o b) ch a n (w64 (i + 1)) := by
  intro d
  induction d with
  | zero =>
    intro K j h1 h2
    obtain ⟨K, rfl⟩ := succ_of (show 0 < K by omega)
    refine ⟨K, rfl, ?_⟩
    simp only [impl_Chart_complete.l21, impl_Chart_complete.b21]; rw [if_neg (by omega), List.take_of_length_le (by omega)]
  | succ d ih =>
    intro K j h1 h2
    obtain ⟨K, rfl⟩ := succ_of (show 0 < K by omega)
    have hj : j < o.length := by omega
    have hb2 := getN_lt ho hj
    obtain ⟨K', e1, e2⟩ := ih K (j + 1) (by omega) (by omega)
    refine ⟨K', by omega, ?_⟩
    rw [← e2]
    conv => lhs; simp only [impl_Chart_complete.l21, impl_Chart_complete.b21]
    rw [if_pos (by omega), chk_nat (by rw [cI_len]; omega)]; simp only [Option.bind_some]
    rw [index_eq hb hc K (by omega)]; simp only [Option.bind_some]
    rw [cI_get o j hj, chk_nat (by rw [fillN_len]; omega)]; simp only [Option.bind_some]
    rw [w64_id (by omega), fillN_snoc, takeN_snoc hj]; rfl
theorem implCount {w h : Int} {l out : List Int} {o : List Nat} (hlc : ∀ x ∈ l, 0 ≤ x ∧ x ≤ 5) (ho : ∀ k ∈ o, k < l.length) (hol : o.length ≤ 100) (ok : Bool) (ch : Int) (a : List (List Int)) (n i : Int) : ∀ (d K j : Nat), j + d = o.length → d < K → ∃ K', K = K' + d + 1 ∧ impl_Chart_complete.l13 K w h l 0 0 [] ok w h out ch (cI o) (cI (cntL l (o.take j))) a n i (cI o) o.length j = (slices_Max_int_int.f K' (cI (cntL l o))).bind fun t => impl_Chart_complete.l21 K' w h l 0 0 [] ok w h out (w64 (ch + w64 ((o.length : Int) - t))) (cI (cntL l o)) t a n i (cI o) o.length 0 := by
  intro d
  induction d with
  | zero =>
    intro K j h1 h2
    obtain ⟨K, rfl⟩ := succ_of (show 0 < K by omega)
    refine ⟨K, rfl, ?_⟩
    simp only [impl_Chart_complete.l13, impl_Chart_complete.b13]; rw [if_neg (by omega), List.take_of_length_le (by omega), cI_len]
  | succ d ih =>
    intro K j h1 h2
    obtain ⟨K, rfl⟩ := succ_of (show 0 < K by omega)
    have hj : j < o.length := by omega
    have hb2 := getN_lt ho hj
    obtain ⟨K', e1, e2⟩ := ih K (j + 1) (by omega) (by omega)
    refine ⟨K', by omega, ?_⟩
    rw [← e2]
    conv => lhs; simp only [impl_Chart_complete.l13, impl_Chart_complete.b13]
    have hcol := hlc _ (List.getElem_mem hb2)
    obtain ⟨c, hc⟩ := Int.eq_ofNat_of_zero_le hcol.1
    have hrd : l.getD (o.getD j 0) 0 = (c : Int) := by rw [getD_lt hb2]; exact hc
    have hc6 : c < 6 := by omega
    have hcl : (cI (cntL l (o.take j))).length = 6 := by rw [cI_len]; unfold cntL; simp
    have hle : cntN l (o.take j) c ≤ 100 := Nat.le_trans (cntL_le l _ c) (by rw [List.length_take]; omega)
    have hrc : (cI (cntL l (o.take j))).getD c 0 = (cntN l (o.take j) c : Int) := by
      rw [cI_get _ c (by unfold cntL; simp; omega)]; unfold cntL; rw [List.getD_eq_getElem?_getD, List.getElem?_map, List.getElem?_range hc6]; rfl
    rw [if_pos (by omega), chk_nat (by rw [cI_len]; omega)]; simp only [Option.bind_some]
    rw [cI_get o j hj, chk_nat hb2]; simp only [Option.bind_some]
    rw [hrd, chk_nat (by rw [hcl]; omega)]; simp only [Option.bind_some]
    rw [w64_id (x := (cI (cntL l (o.take j))).getD c 0 + 1) (by omega), w64_id (x := (j : Int) + 1) (by omega), cntL_set l _ _ c hc6 hrd, takeN_snoc hj]; rfl
theorem cnt_nil (l : List Int) : (List.replicate 6 0 : List Int) = cI (cntL l []) := by unfold cntL cI cntN; simp; rfl
theorem rdL_get (a : List (List Nat)) (i : Nat) (h : i < a.length) : (cLL a).getD i [] = cI (a[i]) := by
  unfold cLL; rw [List.getD_eq_getElem?_getD, List.getElem?_map, List.getElem?_eq_getElem h]; rfl
theorem implComplete_l {w h : Int} {l : List Int} (hlc : ∀ x ∈ l, 0 ≤ x ∧ x ≤ 5) (a : List (List Nat)) (ha : ∀ o ∈ a, o.length ≤ 64 ∧ ∀ k ∈ o, k < l.length) (hal : a.length ≤ 64) (ok : Bool) : ∀ (d K i : Nat) (st : List Int × Int), i + d = a.length → st.1.length = l.length → 0 ≤ st.2 → st.2 + 64 * d ≤ 10000 → 200 + 200 * d ≤ K → impl_Chart_complete.l5 K w h l 0 0 [] ok w h st.1 st.2 (cLL a) a.length i = some (w, h, ((a.drop i).foldl (stepC l) st).1, ((a.drop i).foldl (stepC l) st).2, ok) := by
  intro d
  induction d with
  | zero =>
    intro K i st h1 h2 h3 h4 h5
    obtain ⟨K, rfl⟩ := succ_of (show 0 < K by omega)
    simp only [impl_Chart_complete.l5, impl_Chart_complete.b5]; rw [if_neg (by omega), List.drop_of_length_le (by omega)]; rfl
  | succ d ih =>
    intro K i st h1 h2 h3 h4 h5
    obtain ⟨K, rfl⟩ := succ_of (show 0 < K by omega)
    have hi : i < a.length := by omega
    obtain ⟨hol, hok⟩ := ha _ (List.getElem_mem hi)
    have hbest := bestR_is l a[i]
    have hble := best_le l a[i]
    have hcl : (cntL l a[i]).length ≤ 100 := by unfold cntL; simp
    simp only [impl_Chart_complete.l5, impl_Chart_complete.b5]
    rw [if_pos (by omega), chk_nat (by unfold cLL; rw [List.length_map]; omega), mkl_int (by omega)]; simp only [Option.bind_some]
    rw [rdL_get a i hi, show Int.toNat 6 = 6 from rfl, cnt_nil l, cI_len]
    obtain ⟨K', e1, e2⟩ := implCount (w := w) (h := h) (out := st.1) hlc hok (by omega) ok st.2 (cLL a) a.length i a[i].length K 0 (by omega) (by omega)
    rw [show a[i].take 0 = [] from rfl, show ((0 : Nat) : Int) = 0 from rfl] at e2
    rw [e2, max_eq hbest hcl K' (by omega)]; simp only [Option.bind_some]
    obtain ⟨K2, e3, e4⟩ := implFill (w := w) (h := h) (l := l) (out := st.1) hbest hcl (by rw [h2]; exact hok) (by omega) ok (w64 (st.2 + w64 ((a[i].length : Int) - ((bestR l a[i]).2 : Int)))) (cLL a) a.length i a[i].length K' 0 (by omega) (by omega)
    rw [show fillN st.1 (a[i].take 0) ((bestR l a[i]).1 : Int) = st.1 from rfl, show ((0 : Nat) : Int) = 0 from rfl] at e4
    rw [e4, w64_id (x := (i : Int) + 1) (by omega), w64_id (x := (a[i].length : Int) - _) (by omega), w64_id (by omega)]
    have hd : a.drop i = a[i] :: a.drop (i + 1) := List.drop_eq_getElem_cons hi
    rw [hd, List.foldl_cons]
    have := ih K2 (i + 1) (stepC l st a[i]) (by omega) (by unfold stepC; simp only [fillN_len]; exact h2) (by unfold stepC; simp only; omega) (by unfold stepC; simp only; omega) (by omega)
    rw [← this]
    unfold stepC; simp only
    rw [show st.2 + ((a[i].length : Int) - ((bestR l a[i]).2 : Int)) = st.2 + (a[i].length : Int) - ((bestR l a[i]).2 : Int) by omega]
    rfl
theorem allI_len (P : List Nat) : ∀ (d i : Nat) (met : List Bool) (out r : List (List Nat)), allI P d i met out = some r → r.length ≤ out.length + d := by
  intro d
  induction d with
  | zero => intro i met out r hr; simp only [allI] at hr; injection hr with hr; subst hr; omega
  | succ d ih =>
    intro i met out r hr
    simp only [allI] at hr
    cases h1 : oneI P 6 met i [] with
    | none => rw [h1] at hr; simp at hr
    | some z =>
      rw [h1] at hr; simp only [Option.bind_some] at hr
      have := ih _ _ _ _ hr
      split at this
      · omega
      · rw [List.length_append] at this; simp at this; omega
theorem allI_each (P : List Nat) : ∀ (d i : Nat) (met : List Bool) (out r : List (List Nat)), allI P d i met out = some r → (∀ o ∈ out, o.length ≤ 64) → ∀ o ∈ r, o.length ≤ 64 := by
  intro d
  induction d with
  | zero => intro i met out r hr ho; simp only [allI] at hr; injection hr with hr; subst hr; exact ho
  | succ d ih =>
    intro i met out r hr ho
    simp only [allI] at hr
    cases h1 : oneI P 6 met i [] with
    | none => rw [h1] at hr; simp at hr
    | some z =>
      rw [h1] at hr; simp only [Option.bind_some] at hr
      refine ih _ _ _ _ hr ?_
      have hlz := oneI_len _ 6 met i [] z.1 z.2 h1
      intro o hoo
      split at hoo
      · exact ho o hoo
      · rw [List.mem_append, List.mem_singleton] at hoo
        rcases hoo with hoo | rfl
        · exact ho o hoo
        · have := hlz.1; simp at this; omega
/-- The orbits that impl walks, and both completions over them. -/
theorem complete_both {w h s : Nat} {l : List Int} (hw : 1 ≤ w ∧ w ≤ 8) (hh : 1 ≤ h ∧ h ≤ 8) (hs : s ≤ 7) (ha : s % 2 = 0 ∨ w = h) (hll : l.length = w * h) (hlc : ∀ x ∈ l, 0 ≤ x ∧ x ≤ 5) : ∃ (a : List (List Nat)), allI (permN w h s) (w * h) 0 (List.replicate (w * h) false) [] = some a ∧ (∀ k, 120000 ≤ k → spec_l4Complete.f k w h l s = some ((w : Int), (h : Int), (a.foldl (stepC l) (l, 0)).1, (a.foldl (stepC l) (l, 0)).2)) ∧ (∀ k, 120000 ≤ k → impl_Chart_complete.f k w h l s = some ((w : Int), (h : Int), (a.foldl (stepC l) (l, 0)).1, (a.foldl (stepC l) (l, 0)).2, true)) := by
  have hn : w * h ≤ 64 := Nat.mul_le_mul hw.2 hh.2
  obtain ⟨a, b, ea, eb, hlen, hz, hP, hp, hQ, hc, hc'⟩ := chkO_of (chkO_asked hw hh hs ha)
  have hPl := permN_len hw hh hc hc'
  have hfold := fold_perm l a b (l, 0) hlen (fun z hz' => (hz z hz').1)
  obtain ⟨b', eb', hspec⟩ := completeS (w := w) (h := h) (s := s) (l := l) hw hh hs ha hll
  rw [eb] at eb'; injection eb' with eb'; subst eb'
  refine ⟨a, ea, fun k hk => ?_, fun k hk => ?_⟩
  · rw [hspec k hk, hfold]
  · unfold impl_Chart_complete.f impl_Chart_complete.m
    rw [implOrbits_yes hw hh ea hP hp hc hc' k (by omega)]; simp only [Option.bind_some]
    rw [copied_eq _ _ _ l (by omega)]; simp only [Option.bind_some]
    have hal : a.length ≤ 64 := by
      have := allI_len _ _ _ _ _ _ ea; simp at this; omega
    have hao : ∀ o ∈ a, o.length ≤ 64 ∧ ∀ k ∈ o, k < l.length := by
      intro o ho
      refine ⟨allI_each _ _ _ _ _ _ ea (by simp) o ho, ?_⟩
      obtain ⟨i, hi, e⟩ := List.mem_iff_getElem.1 ho
      rw [hll]
      refine (hz (a[i], b[i]'(by omega)) ?_).2 |> fun hh2 => by rw [← e]; exact hh2
      rw [List.mem_iff_getElem]
      exact ⟨i, by rw [List.length_zip]; omega, by rw [List.getElem_zip]⟩
    have := implComplete_l (w := w) (h := h) hlc a hao hal true a.length k 0 (l, 0) (by omega) rfl (by simp) (by simp; omega) (by omega)
    rw [List.drop_zero] at this
    unfold cLL at this ⊢
    rw [List.length_map]
    exact this
theorem complete_no {w h s : Nat} {l : List Int} (hw : 1 ≤ w ∧ w ≤ 8) (hh : 1 ≤ h ∧ h ≤ 8) (hs : s ≤ 7) (ho : s % 2 = 1) (hne : w ≠ h) (hll : l.length = w * h) (k : Nat) (hk : 100000 ≤ k) : impl_Chart_complete.f k w h l s = some ((w : Int), (h : Int), l, 0, false) := by
  have hn : w * h ≤ 64 := Nat.mul_le_mul hw.2 hh.2
  unfold impl_Chart_complete.f impl_Chart_complete.m
  rw [implOrbits_no hw hh hs ho hne k (by omega)]; simp only [Option.bind_some]
  rw [copied_eq _ _ _ l (by omega)]; simp only [Option.bind_some]
  obtain ⟨k, rfl⟩ := succ_of (show 0 < k by omega)
  simp only [impl_Chart_complete.l5, impl_Chart_complete.b5]; rw [if_neg (by simp)]
def chkP (w h s : Nat) : Bool :=
  let p := permN w h s
  match allI p (w * h) 0 (List.replicate (w * h) false) [] with
  | some a => a.flatten.isPerm (List.range (w * h)) && a.all (fun o => o.all (fun k => o.contains (p.getD k 0)))
  | none => false
theorem chkP_0 : ((List.range 8).all fun w => (List.range 8).all fun h => chkP (w + 1) (h + 1) 0) = true := by decide +kernel
theorem chkP_2 : ((List.range 8).all fun w => (List.range 8).all fun h => chkP (w + 1) (h + 1) 2) = true := by decide +kernel
theorem chkP_4 : ((List.range 8).all fun w => (List.range 8).all fun h => chkP (w + 1) (h + 1) 4) = true := by decide +kernel
theorem chkP_6 : ((List.range 8).all fun w => (List.range 8).all fun h => chkP (w + 1) (h + 1) 6) = true := by decide +kernel
theorem chkP_odd : ((List.range 4).all fun s => (List.range 8).all fun w => chkP (w + 1) (w + 1) (2 * s + 1)) = true := by decide +kernel
theorem chkP_asked {w h s : Nat} (hw : 1 ≤ w ∧ w ≤ 8) (hh : 1 ≤ h ∧ h ≤ 8) (hs : s ≤ 7) (ha : s % 2 = 0 ∨ w = h) : chkP w h s = true := by
  have go : ∀ t, ((List.range 8).all fun w => (List.range 8).all fun h => chkP (w + 1) (h + 1) t) = true → chkP w h t = true := by
    intro t ht
    have := List.all_eq_true.1 (List.all_eq_true.1 ht (w - 1) (by rw [List.mem_range]; omega)) (h - 1) (by rw [List.mem_range]; omega)
    rwa [show w - 1 + 1 = w by omega, show h - 1 + 1 = h by omega] at this
  by_cases e : s % 2 = 0
  · have : s = 0 ∨ s = 2 ∨ s = 4 ∨ s = 6 := by omega
    rcases this with rfl | rfl | rfl | rfl
    · exact go _ chkP_0
    · exact go _ chkP_2
    · exact go _ chkP_4
    · exact go _ chkP_6
  · have e2 : w = h := by omega
    subst e2
    have := List.all_eq_true.1 (List.all_eq_true.1 chkP_odd (s / 2) (by rw [List.mem_range]; omega)) (w - 1) (by rw [List.mem_range]; omega)
    rwa [show w - 1 + 1 = w by omega, show 2 * (s / 2) + 1 = s by omega] at this
theorem chkP_of {w h s : Nat} (hc : chkP w h s = true) {a : List (List Nat)} (ea : allI (permN w h s) (w * h) 0 (List.replicate (w * h) false) [] = some a) : a.flatten.Perm (List.range (w * h)) ∧ ∀ o ∈ a, ∀ k ∈ o, (permN w h s).getD k 0 ∈ o := by
  unfold chkP at hc
  simp only [ea] at hc
  simp only [Bool.and_eq_true, List.all_eq_true, List.contains_iff_mem] at hc
  exact ⟨List.isPerm_iff.1 hc.1, hc.2⟩
theorem fold_keep (l : List Int) (j : Nat) : ∀ (a : List (List Nat)) (st : List Int × Int), (∀ o ∈ a, j ∉ o) → (a.foldl (stepC l) st).1[j]? = st.1[j]? := by
  intro a
  induction a with
  | nil => intro st _; rfl
  | cons x a ih =>
    intro st h
    rw [List.foldl_cons, ih _ (fun o ho => h o (List.mem_cons_of_mem _ ho))]
    unfold stepC; simp only [fillN_get]
    rw [if_neg (h x List.mem_cons_self)]
theorem fold_val (l : List Int) : ∀ (a : List (List Nat)) (st : List Int × Int), a.flatten.Nodup → ∀ o ∈ a, ∀ j ∈ o, j < st.1.length → (a.foldl (stepC l) st).1[j]? = some ((bestR l o).1 : Int) := by
  intro a
  induction a with
  | nil => intro st _ o ho; cases ho
  | cons x a ih =>
    intro st hn o ho j hj hl
    rw [List.flatten_cons, List.nodup_append] at hn
    rw [List.foldl_cons]
    rcases List.mem_cons.1 ho with rfl | ho
    · rw [fold_keep l j a _ (fun o' ho' hj' => hn.2.2 j hj j (List.mem_flatten.2 ⟨o', ho', hj'⟩) rfl)]
      unfold stepC; simp only [fillN_get]
      rw [if_pos hj, List.getElem?_eq_getElem hl]; rfl
    · exact ih _ hn.2.1 o ho j hj (by unfold stepC; simp only [fillN_len]; exact hl)
theorem best_const {r : List Int} {o : List Nat} {v : Nat} (hv : v < 6) (h : ∀ j ∈ o, r.getD j 0 = (v : Int)) : (bestR r o).2 = o.length := by
  have h1 := best_le r o
  have h2 := (bestR_is r o).1 (cntN r o v) (by unfold cntL; rw [List.mem_map]; exact ⟨v, by rw [List.mem_range]; exact hv, rfl⟩)
  have h3 : cntN r o v = o.length := by
    unfold cntN; rw [List.countP_eq_length]; intro k hk; rw [h k hk]; simp
  omega
theorem fold_zero (r : List Int) : ∀ (a : List (List Nat)) (st : List Int × Int), (∀ o ∈ a, (bestR r o).2 = o.length) → (a.foldl (stepC r) st).2 = st.2 := by
  intro a
  induction a with
  | nil => intro st _; rfl
  | cons x a ih =>
    intro st h
    rw [List.foldl_cons, ih _ (fun o ho => h o (List.mem_cons_of_mem _ ho))]
    unfold stepC; simp only
    rw [h x List.mem_cons_self]; omega
theorem best_cnt (l : List Int) (o : List Nat) : (bestR l o).2 = cntN l o (bestR l o).1 := by
  have h1 := (bestR_is l o).2.1
  have h2 := (best_le l o).2
  unfold cntL at h1
  rw [List.getElem?_map, List.getElem?_range h2] at h1
  simp only [Option.map_some] at h1
  injection h1 with h1; exact h1.symm
theorem fold_diff (l r : List Int) : ∀ (a : List (List Nat)) (st : List Int × Int), (∀ o ∈ a, ∀ j ∈ o, r.getD j 0 = ((bestR l o).1 : Int)) → (a.foldl (stepC l) st).2 = st.2 + (a.flatten.countP (fun k => !(l.getD k 0 == r.getD k 0)) : Int) := by
  intro a
  induction a with
  | nil => intro st _; simp
  | cons x a ih =>
    intro st h
    rw [List.foldl_cons, ih _ (fun o ho => h o (List.mem_cons_of_mem _ ho)), List.flatten_cons, List.countP_append]
    unfold stepC; simp only
    have h1 := best_cnt l x
    have h2 : x.countP (fun k => l.getD k 0 == r.getD k 0) = cntN l x (bestR l x).1 := by
      unfold cntN
      exact List.countP_congr fun k hk => by rw [h x List.mem_cons_self k hk]
    have h3 := List.length_eq_countP_add_countP (fun k => l.getD k 0 == r.getD k 0) (l := x)
    have h4 : x.countP (fun k => decide ¬ (l.getD k 0 == r.getD k 0) = true) = x.countP (fun k => !(l.getD k 0 == r.getD k 0)) := List.countP_congr fun k _ => by simp
    omega
theorem step_lenF (l : List Int) (a : List (List Nat)) (st : List Int × Int) : (a.foldl (stepC l) st).1.length = st.1.length := step_len l a st
theorem moved_same {w h s : Nat} (hw : 1 ≤ w ∧ w ≤ 8) (hh : 1 ≤ h ∧ h ≤ 8) (hp : ∀ x ∈ (moveR w h (idL (w * h)) s).2.2, 0 ≤ x) (hc : (moveR w h (idL (w * h)) s).1 = w) (hc' : (moveR w h (idL (w * h)) s).2.1 = h) {r : List Int} (hr : r.length = w * h) (he : ∀ j, j < w * h → r.getD ((permN w h s).getD j 0) 0 = r.getD j 0) : moveR w h r s = ((w : Int), (h : Int), r) := by
  have hm := idL_map r
  rw [hr] at hm
  have h1 := moveR_map (fun x => r.getD x.toNat 0) (s : Int) (idL_ok hw hh)
  rw [hm, hc, hc', perm_cI hp] at h1
  rw [h1]
  refine congrArg (fun x => ((w : Int), (h : Int), x)) ?_
  have hPl := permN_len hw hh hc hc'
  apply List.ext_getElem (by rw [List.length_map, cI_len]; omega)
  intro j j1 j2
  rw [List.getElem_map]
  have hj : j < (permN w h s).length := by omega
  have e1 : (cI (permN w h s))[j]'(by rw [cI_len]; exact hj) = ((permN w h s).getD j 0 : Int) := by rw [← cI_get _ j hj, getD_lt (by rw [cI_len]; exact hj)]
  rw [e1, Int.toNat_natCast, he j (by omega), getD_lt (by omega)]
/-- What a completed chart is: it has the symmetry, it needs no change, and its changes are its differences. -/
theorem complete_is {w h s : Nat} {l : List Int} (hw : 1 ≤ w ∧ w ≤ 8) (hh : 1 ≤ h ∧ h ≤ 8) (hs : s ≤ 7) (ha : s % 2 = 0 ∨ w = h) (hll : l.length = w * h) {a : List (List Nat)} (ea : allI (permN w h s) (w * h) 0 (List.replicate (w * h) false) [] = some a) :
    moveR w h (a.foldl (stepC l) (l, 0)).1 s = ((w : Int), (h : Int), (a.foldl (stepC l) (l, 0)).1) ∧ (a.foldl (stepC (a.foldl (stepC l) (l, 0)).1) ((a.foldl (stepC l) (l, 0)).1, 0)).2 = 0 ∧ (a.foldl (stepC l) (l, 0)).2 = ((List.range (w * h)).countP (fun k => !(l.getD k 0 == (a.foldl (stepC l) (l, 0)).1.getD k 0)) : Int) ∧ ∀ x ∈ (a.foldl (stepC l) (l, 0)).1, 0 ≤ x ∧ x ≤ 5 := by
  obtain ⟨a', b, ea', eb, hlen, hz, hP, hp, hQ, hc, hc'⟩ := chkO_of (chkO_asked hw hh hs ha)
  rw [ea] at ea'; injection ea' with ea'; subst ea'
  obtain ⟨hpm, hcl⟩ := chkP_of (chkP_asked hw hh hs ha) ea
  have hnd : a.flatten.Nodup := hpm.nodup_iff.2 List.nodup_range
  have hin : ∀ o ∈ a, ∀ j ∈ o, j < w * h := fun o ho j hj => List.mem_range.1 (hpm.mem_iff.1 (List.mem_flatten.2 ⟨o, ho, hj⟩))
  have hex : ∀ j, j < w * h → ∃ o ∈ a, j ∈ o := fun j hj => List.mem_flatten.1 (hpm.mem_iff.2 (List.mem_range.2 hj))
  have hval : ∀ o ∈ a, ∀ j ∈ o, (a.foldl (stepC l) (l, 0)).1.getD j 0 = ((bestR l o).1 : Int) := by
    intro o ho j hj
    have := fold_val l a (l, 0) hnd o ho j hj (by have := hin o ho j hj; show j < l.length; omega)
    rw [List.getD_eq_getElem?_getD, this]; rfl
  have hrl : (a.foldl (stepC l) (l, 0)).1.length = w * h := by rw [step_lenF]; exact hll
  refine ⟨moved_same hw hh hp hc hc' hrl fun j hj => ?_, ?_, ?_, ?_⟩
  · obtain ⟨o, ho, hjo⟩ := hex j hj
    rw [hval o ho j hjo, hval o ho _ (hcl o ho j hjo)]
  · exact fold_zero _ a _ fun o ho => best_const (best_le l o).2 (hval o ho)
  · rw [fold_diff l _ a (l, 0) hval, hpm.countP_eq]; simp
  · intro x hx
    obtain ⟨j, hj, rfl⟩ := List.mem_iff_getElem.1 hx
    obtain ⟨o, ho, hjo⟩ := hex j (by omega)
    have := hval o ho j hjo
    rw [getD_lt hj] at this
    have hb := (best_le l o).2
    omega
theorem atL_grid {w h : Nat} (f : Nat → Nat → Int) {r c : Int} (hr : 0 ≤ r ∧ r < h) (hc : 0 ≤ c ∧ c < w) : atL w (gridL w h f) r c = f r.toNat c.toNat := by
  obtain ⟨r, rfl⟩ := Int.eq_ofNat_of_zero_le hr.1
  obtain ⟨c, rfl⟩ := Int.eq_ofNat_of_zero_le hc.1
  unfold atL
  rw [← Int.natCast_mul, ← Int.natCast_add, Int.toNat_natCast, Int.toNat_natCast, Int.toNat_natCast, List.getD_eq_getElem?_getD, gridL_get w h f r c (by omega) (by omega)]; rfl
theorem gridL_self {w h : Nat} {l : List Int} (hl : l.length = w * h) (hw : 0 < w) : gridL w h (fun r c => atL w l r c) = l := by
  apply List.ext_getElem?
  intro i
  by_cases hi : i < w * h
  · have h1 : i / w < h := Nat.div_lt_of_lt_mul hi
    have h2 : i % w < w := Nat.mod_lt _ hw
    have h3 : i / w * w + i % w = i := by rw [Nat.mul_comm]; exact Nat.div_add_mod i w
    have := gridL_get w h (fun r c => atL w l r c) _ _ h1 h2
    rw [h3] at this; rw [this]
    unfold atL
    rw [← Int.natCast_mul, ← Int.natCast_add, Int.toNat_natCast, h3, getD_lt (by omega), List.getElem?_eq_getElem]
  · rw [List.getElem?_eq_none (by rw [gridL_len]; omega), List.getElem?_eq_none (by omega)]
def tT (c : Int × Int × List Int) : Int × Int × List Int := (c.2.1, c.1, turnL c.1 c.2.1 c.2.2)
def tM (c : Int × Int × List Int) : Int × Int × List Int := (c.1, c.2.1, mirrL c.1 c.2.1 c.2.2)
def okT (c : Int × Int × List Int) : Prop := okC c.1 c.2.1 c.2.2
theorem tT_ok {c : Int × Int × List Int} (ok : okT c) : okT (tT c) := turn_ok ok
theorem tM_ok {c : Int × Int × List Int} (ok : okT c) : okT (tM c) := mirr_ok ok
theorem turnN {w h : Nat} {l : List Int} : turnL w h l = gridL h w fun r c => atL w l (h - 1 - c) r := rfl
theorem mirrN {w h : Nat} {l : List Int} : mirrL w h l = gridL w h fun r c => atL w l r (w - 1 - c) := rfl
theorem okT_nat {c : Int × Int × List Int} (ok : okT c) : ∃ (w h : Nat) (l : List Int), c = ((w : Int), (h : Int), l) ∧ 0 < w ∧ 0 < h ∧ l.length = w * h := by
  obtain ⟨w, h, l⟩ := c
  obtain ⟨hw, hh, hl⟩ := ok
  dsimp only at hw hh hl
  obtain ⟨w, rfl⟩ := Int.eq_ofNat_of_zero_le (show 0 ≤ w by omega)
  obtain ⟨h, rfl⟩ := Int.eq_ofNat_of_zero_le (show 0 ≤ h by omega)
  exact ⟨w, h, l, rfl, by omega, by omega, lenN hl⟩
theorem tM_M {c : Int × Int × List Int} (ok : okT c) : tM (tM c) = c := by
  obtain ⟨w, h, l, rfl, hw, hh, hl⟩ := okT_nat ok
  unfold tM; dsimp only
  rw [mirrN, mirrN]
  refine congrArg (fun x => ((w : Int), (h : Int), x)) ?_
  refine Eq.trans (gridL_congr w h _ _ fun r c hr hc => ?_) (gridL_self hl hw)
  rw [atL_grid _ (by omega) (by omega)]
  congr 1 <;> omega
theorem tT_MT {c : Int × Int × List Int} (ok : okT c) : tT (tM (tT c)) = tM c := by
  obtain ⟨w, h, l, rfl, hw, hh, hl⟩ := okT_nat ok
  unfold tM tT; dsimp only
  rw [mirrN, turnN, turnN, mirrN]
  refine congrArg (fun x => ((w : Int), (h : Int), x)) ?_
  refine gridL_congr w h _ _ fun r c hr hc => ?_
  rw [atL_grid _ (by omega) (by omega), atL_grid _ (by omega) (by omega)]
  congr 1 <;> omega
theorem tT_4 {c : Int × Int × List Int} (ok : okT c) : tT (tT (tT (tT c))) = c := by
  obtain ⟨w, h, l, rfl, hw, hh, hl⟩ := okT_nat ok
  unfold tT; dsimp only
  rw [turnN, turnN, turnN, turnN]
  refine congrArg (fun x => ((w : Int), (h : Int), x)) ?_
  refine Eq.trans (gridL_congr w h _ _ fun r c hr hc => ?_) (gridL_self hl hw)
  rw [atL_grid _ (by omega) (by omega), atL_grid _ (by omega) (by omega), atL_grid _ (by omega) (by omega)]
  congr 1 <;> omega
theorem tM_T {c : Int × Int × List Int} (ok : okT c) : tM (tT c) = tT (tT (tT (tM c))) := by
  have h := tT_MT ok
  rw [← h, tT_4 (tM_ok (tT_ok ok))]
def mv (c : Int × Int × List Int) (s : Int) : Int × Int × List Int := moveR c.1 c.2.1 c.2.2 s
theorem mv_ok {c : Int × Int × List Int} (s : Int) (ok : okT c) : okT (mv c s) := move_ok s ok
def aft (a b : Int) : Int :=
  let t := if 4 ≤ b then b % 4 - a % 4 + 4 else a % 4 + b % 4
  if (decide (4 ≤ a)) = (decide (4 ≤ b)) then t % 4 else t % 4 + 4
def und (a : Int) : Int := if a < 4 then (4 - a) % 4 else a
theorem sym_case {s : Int} (h : 0 ≤ s ∧ s ≤ 7) : s = 0 ∨ s = 1 ∨ s = 2 ∨ s = 3 ∨ s = 4 ∨ s = 5 ∨ s = 6 ∨ s = 7 := by omega
theorem mv0 (c : Int × Int × List Int) : mv c 0 = c := rfl
theorem mv1 (c : Int × Int × List Int) : mv c 1 = tT c := rfl
theorem mv2 (c : Int × Int × List Int) : mv c 2 = tT (tT c) := rfl
theorem mv3 (c : Int × Int × List Int) : mv c 3 = tT (tT (tT c)) := rfl
theorem mv4 (c : Int × Int × List Int) : mv c 4 = tM c := rfl
theorem mv5 (c : Int × Int × List Int) : mv c 5 = tT (tM c) := rfl
theorem mv6 (c : Int × Int × List Int) : mv c 6 = tT (tT (tM c)) := rfl
theorem mv7 (c : Int × Int × List Int) : mv c 7 = tT (tT (tT (tM c))) := rfl
theorem mv_mv {c : Int × Int × List Int} (ok : okT c) {a b : Int} (ha : 0 ≤ a ∧ a ≤ 7) (hb : 0 ≤ b ∧ b ≤ 7) : mv (mv c a) b = mv c (aft a b) := by
  have o1 := tT_ok ok
  have o2 := tT_ok o1
  have o3 := tT_ok o2
  have m0 := tM_ok ok
  have m1 := tT_ok m0
  have m2 := tT_ok m1
  have m3 := tT_ok m2
  rcases sym_case ha with rfl | rfl | rfl | rfl | rfl | rfl | rfl | rfl <;> rcases sym_case hb with rfl | rfl | rfl | rfl | rfl | rfl | rfl | rfl <;>
    simp only [show aft 0 0 = 0 from by decide, aft, Int.reduceLE, decide_true, decide_false, Int.reduceMod, Int.reduceAdd, Int.reduceSub, if_true, if_false, reduceCtorEq, Bool.false_eq_true, Bool.true_eq_false, mv0, mv1, mv2, mv3, mv4, mv5, mv6, mv7, tT_4 ok, tT_4 m0, tT_4 o1, tT_4 m1, tT_4 o2, tT_4 m2, tM_T ok, tM_T o1, tM_T o2, tM_T m0, tM_T m1, tM_T m2, tM_M ok]
theorem aft_in {a b : Int} (ha : 0 ≤ a ∧ a ≤ 7) (hb : 0 ≤ b ∧ b ≤ 7) : 0 ≤ aft a b ∧ aft a b ≤ 7 := by
  unfold aft; dsimp only
  split <;> split <;> omega
theorem und_in {a : Int} (ha : 0 ≤ a ∧ a ≤ 7) : 0 ≤ und a ∧ und a ≤ 7 := by unfold und; split <;> omega
theorem aft_und {a : Int} (ha : 0 ≤ a ∧ a ≤ 7) : aft a (und a) = 0 := by
  rcases sym_case ha with rfl | rfl | rfl | rfl | rfl | rfl | rfl | rfl <;> decide
theorem mv_und {c : Int × Int × List Int} (ok : okT c) {a : Int} (ha : 0 ≤ a ∧ a ≤ 7) : mv (mv c a) (und a) = c := by rw [mv_mv ok ha (und_in ha), aft_und ha, mv0]
theorem quo16 {x : Int} {β : Type} {f : Int → Option β} {P : β → Prop} (h : ∀ q, Yl (f q) P) : Yl ((quo .i64 x 16).bind f) P := by
  unfold quo; rw [if_neg (by omega)]; exact h _
theorem symm_ok (k : Nat) {l : List Int} {a : Int} (s : Int) (hb : By l) (ha : 0 ≤ a ∧ a ≤ 1000000) (hk : 5 ≤ k) : Yl (spec_l1Cur_symmetry.f k l a s) fun r => r.2.1 = l ∧ a ≤ r.2.2.1 ∧ r.2.2.1 ≤ a + 4 := by
  unfold spec_l1Cur_symmetry.f spec_l1Cur_symmetry.m
  refine Yl.bind (pick_ok _ _ _ hb (by omega) (by omega)) ?_
  rintro ⟨n, l', a4, s4⟩ ⟨e1, i2, i3, i4, i5, i6⟩
  dsimp only at *; subst e1
  refine Yl.bind (pick_ok _ _ _ hb (by omega) (by omega)) ?_
  rintro ⟨m, l', a5, s5⟩ ⟨e1, j2, j3, j4, j5, j6⟩
  dsimp only at *; subst e1
  exact quo16 fun q => Yl.ret ⟨rfl, by dsimp only; omega, by dsimp only; omega⟩
theorem even_ok (k : Nat) {l : List Int} (hb : By l) (hk : 130000 ≤ k) : Yl (spec_l1Cur_even.f k l 0 0) fun r => r.2.2.1.length ≤ 300 := by
  have tail : ∀ (l : List Int) (a s : Int) (x y : Int) (kn : List Int), By l → 0 ≤ a ∧ a ≤ 100000 → kn.length ≤ 300 → Yl (spec_l1Cur_even.l3 k l a s 0 0 [] x y kn) fun r => r.2.2.1.length ≤ 300 := by
    intro l a s x y kn hb ha hkn
    obtain ⟨k, rfl⟩ := succ_of (show 0 < k by omega)
    simp only [spec_l1Cur_even.l3, spec_l1Cur_even.b3]
    refine Yl.bind (pick_ok _ _ _ hb (by omega) (by omega)) ?_
    rintro ⟨n, l', a4, s4⟩ ⟨e1, i2, i3, i4, i5, i6⟩
    dsimp only at *; subst e1
    obtain ⟨p, q, r, t, e, ht⟩ := specCompleteC x y kn n (by omega) k (by omega)
    rw [e]; simp only [Option.bind_some]
    cases t with
    | false => simp only [Bool.not_true, Bool.not_false, cond_true, cond_false, Bool.true_and, Bool.false_and, Bool.and_true, Bool.and_false, Bool.false_eq_true, Bool.true_or, Bool.or_true, Bool.false_or, Bool.or_false, Bool.or_self, Bool.and_self, decide_true, decide_false, if_true, if_false, not_true, not_false_eq_true, not_true_eq_false, false_or, or_false, true_and, and_true, Bool.not_eq_true, Bool.true_eq_false, reduceCtorEq]; exact Yl.ret hkn
    | true =>
      obtain ⟨_, _, hr⟩ := ht rfl
      simp only [Bool.not_true, Bool.not_false, cond_true, cond_false, Bool.true_and, Bool.false_and, Bool.and_true, Bool.and_false, Bool.false_eq_true, Bool.true_or, Bool.or_true, Bool.false_or, Bool.or_false, Bool.or_self, Bool.and_self, decide_true, decide_false, if_true, if_false, not_true, not_false_eq_true, not_true_eq_false, false_or, or_false, true_and, and_true, Bool.not_eq_true, Bool.true_eq_false, reduceCtorEq]
      refine Yl.bind (one_ok _ _ _ hb (by omega) (by omega)) ?_
      rintro ⟨b, l', a5, s5⟩ ⟨e1, j2, j3⟩
      cases b <;> simp only [Bool.not_true, Bool.not_false, cond_true, cond_false, Bool.true_and, Bool.false_and, Bool.and_true, Bool.and_false, Bool.false_eq_true, Bool.true_or, Bool.or_true, Bool.false_or, Bool.or_false, Bool.or_self, Bool.and_self, decide_true, decide_false, if_true, if_false, not_true, not_false_eq_true, not_true_eq_false, false_or, or_false, true_and, and_true, Bool.not_eq_true, Bool.true_eq_false, reduceCtorEq]
      · exact Yl.ret hkn
      · exact Yl.ret (by dsimp only; omega)
  unfold spec_l1Cur_even.f spec_l1Cur_even.m
  refine Yl.bind (among_ok _ _ 1 5 (by simp) (by intro x hx; simp at hx; omega) hb (by omega) (by omega)) ?_
  rintro ⟨w, l', a', s', x'⟩ ⟨e1, e2, e3, e4, e5, e6⟩
  dsimp only at *; subst e1
  refine Yl.bind (plain_ok k s' (w := w) (h := w) (by omega) (by omega) hb (by omega) (by omega)) ?_
  rintro ⟨w', h', kn, l', a3, s3⟩ ⟨g1, g2, e1, g3, g4, g5⟩
  dsimp only at *; subst e1; subst g1; subst g2
  refine Yl.bind (one_ok _ _ _ hb (by omega) (by omega)) ?_
  rintro ⟨b, l', a5, s5⟩ ⟨e1, j2, j3⟩
  dsimp only at *; subst e1
  cases b <;> simp only [Bool.not_true, Bool.not_false, cond_true, cond_false, Bool.true_and, Bool.false_and, Bool.and_true, Bool.and_false, Bool.false_eq_true, Bool.true_or, Bool.or_true, Bool.false_or, Bool.or_false, Bool.or_self, Bool.and_self, decide_true, decide_false, if_true, if_false, not_true, not_false_eq_true, not_true_eq_false, false_or, or_false, true_and, and_true, Bool.not_eq_true, Bool.true_eq_false, reduceCtorEq]
  · refine tail _ _ _ _ _ _ hb ?_ ?_ <;> omega
  · refine Yl.bind (chart_ok k _ hb (by omega) (by omega)) ?_
    rintro ⟨w2, h2, kn2, l', a6, s6⟩ ⟨e1, n2⟩
    dsimp only at *; subst e1
    refine tail _ _ _ _ _ _ hb ?_ ?_ <;> omega
theorem implSymm_eq (k : Nat) (s : Int) : impl_isSymmetry.f k s = some (symB s) := by unfold impl_isSymmetry.f impl_isSymmetry.m symB; rw [implIn_eq]; rfl
theorem turns_mem (p : Int → Prop) (n : Nat) : ∀ {w h : Int} {l : List Int}, okC w h l → (∀ x ∈ l, p x) → ∀ x ∈ (turns n w h l).2.2, p x := by
  induction n with
  | zero => intro w h l ok hp; exact hp
  | succ n ih =>
    intro w h l ok hp
    refine ih (turn_ok ok) (gridL_all _ _ _ p fun r c hr hc => ?_)
    have hb := at_bd (r := h - 1 - c) (c := r) ok.1 ok.2.1 (by have := ok.2.1; omega) (by have := ok.1; omega)
    have := ok.2.2
    unfold atL; rw [getD_lt (by omega)]; exact hp _ (List.getElem_mem _)
theorem move_mem (p : Int → Prop) (s : Int) {w h : Int} {l : List Int} (ok : okC w h l) (hp : ∀ x ∈ l, p x) : ∀ x ∈ (moveR w h l s).2.2, p x := by
  unfold moveR
  split
  · refine turns_mem p _ (mirr_ok ok) (gridL_all _ _ _ p fun r c hr hc => ?_)
    have hb := at_bd (r := r) (c := w - 1 - c) ok.1 ok.2.1 (by have := ok.2.1; omega) (by have := ok.1; omega)
    have := ok.2.2
    unfold atL; rw [getD_lt (by omega)]; exact hp _ (List.getElem_mem _)
  · exact turns_mem p _ ok hp
theorem move_good (s : Int) {w h : Int} {l : List Int} (hg : goodB w h l = true) : goodB (moveR w h l s).1 (moveR w h l s).2.1 (moveR w h l s).2.2 = true := by
  obtain ⟨a, b, c⟩ := move_ok s (good_ok hg)
  exact good_plain a b (move_mem _ s (good_ok hg) (good_of hg).2.2.2) c
theorem implMoveC_eq (k : Nat) (w h : Int) (l : List Int) (s : Int) (hl : l.length ≤ 1000) (hk : 2000 ≤ k) : impl_MoveChart.f k w h l s = some (if goodB w h l && symB s then ((moveR w h l s).1, (moveR w h l s).2.1, (moveR w h l s).2.2, true) else (0, 0, [], false)) := by
  unfold impl_MoveChart.f impl_MoveChart.m
  rw [isChart_eq k w h l (by omega) (by omega), implSymm_eq]; simp only [Option.bind_some]
  cases hg : goodB w h l <;> simp only [Bool.not_true, Bool.not_false, cond_true, cond_false, Bool.true_and, Bool.false_and, Bool.and_true, Bool.and_false, Bool.false_eq_true, Bool.true_or, Bool.or_true, Bool.false_or, Bool.or_false, Bool.or_self, Bool.and_self, decide_true, decide_false, if_true, if_false, not_true, not_false_eq_true, not_true_eq_false, false_or, or_false, true_and, and_true, Bool.not_eq_true, Bool.true_eq_false, reduceCtorEq]
  cases hs : symB s <;> simp only [Bool.not_true, Bool.not_false, cond_true, cond_false, Bool.true_and, Bool.false_and, Bool.and_true, Bool.and_false, Bool.false_eq_true, Bool.true_or, Bool.or_true, Bool.false_or, Bool.or_false, Bool.or_self, Bool.and_self, decide_true, decide_false, if_true, if_false, not_true, not_false_eq_true, not_true_eq_false, false_or, or_false, true_and, and_true, Bool.not_eq_true, Bool.true_eq_false, reduceCtorEq]
  all_goals first | rfl | skip
  rw [implMove_eq (good_ok hg) (inB_iff.1 hs).1 k (by omega)]; rfl
theorem eqL_loop {a b : List Int} (hl : a.length = b.length) : (∀ j, j < a.length → a.getD j 0 = b.getD j 0) ↔ a = b := by
  constructor
  · intro h
    apply List.ext_getElem hl
    intro i h1 h2
    have := h i h1
    rwa [getD_lt h1, getD_lt h2] at this
  · rintro rfl j _; rfl
theorem slEq_eq (k : Nat) (a b : List Int) (ha : a.length ≤ 1000) (hk : 1100 ≤ k) : slices_Equal_int_int.f k a b = some (decide (a = b)) := by
  unfold slices_Equal_int_int.f slices_Equal_int_int.m
  by_cases hl : a.length = b.length
  · rw [if_neg (by omega)]
    have h := (all_loop (L := fun k i => slices_Equal_int_int.l6 k a b (a.length : Int) (i : Int)) (n := a.length) (K0 := 20) (ok := fun j => decide (a.getD j 0 = b.getD j 0)) (f := some false) (fun k i hk hi => ?_)) a.length k 0 (by omega) (by omega)
    · rw [show ((0 : Nat) : Int) = 0 from rfl] at h
      by_cases hx : a = b
      · rw [h.1 (some true) (fun k hk => by simp (disch := omega) only [slices_Equal_int_int.l6, slices_Equal_int_int.b6, if_neg]) (fun j _ hj => by rw [hx]; simp), decide_eq_true hx]
      · rw [h.2 (by
          apply Classical.byContradiction; intro hn
          refine hx ((eqL_loop hl).1 fun j hj => ?_)
          apply Classical.byContradiction; intro hj2
          exact hn ⟨j, by omega, hj, decide_eq_false hj2⟩), decide_eq_false hx]
    · simp (disch := omega) only [slices_Equal_int_int.l6, slices_Equal_int_int.b6, if_pos, chk_nat, Option.bind_some, w64_id, Int.natCast_add, Int.cast_ofNat_Int]
      by_cases e : a.getD i 0 = b.getD i 0
      · rw [if_neg (fun h => h e), decide_eq_true e]; rfl
      · rw [if_pos e, decide_eq_false e]; rfl
  · rw [if_pos (by omega), decide_eq_false (fun h => hl (by rw [h]))]
theorem implSame_eq (k : Nat) (w h : Int) (l : List Int) (w' h' : Int) (l' : List Int) (hl : l.length ≤ 1000) (hk : 1200 ≤ k) : impl_sameChart.f k w h l w' h' l' = some (decide ((w, h, l) = (w', h', l'))) := by
  unfold impl_sameChart.f impl_sameChart.m
  rw [slEq_eq k l l' hl (by omega)]; simp only [Option.bind_some]
  by_cases e1 : w = w'
  · by_cases e2 : h = h'
    · rw [if_pos e1, if_pos e2]; subst e1; subst e2; simp
    · rw [if_pos e1, if_neg e2, decide_eq_false (by intro hh; injection hh with _ hh; injection hh with hh _; exact e2 hh)]
  · rw [if_neg e1, decide_eq_false (by intro hh; injection hh with hh _; exact e1 hh)]
theorem specSame_eq (k : Nat) (w h : Int) (l : List Int) (w' h' : Int) (l' : List Int) (hl : l.length ≤ 1000) (hk : 1200 ≤ k) (hll : w = w' → h = h' → l.length = l'.length) : spec_l4Same.f k w h l w' h' l' = some (decide ((w, h, l) = (w', h', l'))) := by
  unfold spec_l4Same.f spec_l4Same.m
  by_cases e1 : w = w'
  · by_cases e2 : h = h'
    · rw [if_neg (fun hn => hn e1), if_neg (fun hn => hn e2)]
      have hl0 := hll e1 e2
      clear hll
      subst e1; subst e2
      have hq := (all_loop (L := fun k i => spec_l4Same.l6 k w h l w h l' (i : Int)) (n := l.length) (K0 := 20) (ok := fun j => decide (l.getD j 0 = l'.getD j 0)) (f := some false) (fun k i hk hi => ?_)) l.length k 0 (by omega) (by omega)
      · rw [show ((0 : Nat) : Int) = 0 from rfl] at hq
        by_cases hx : l = l'
        · rw [hq.1 (some true) (fun k hk => by simp (disch := omega) only [spec_l4Same.l6, spec_l4Same.b6, if_neg]) (fun j _ hj => by rw [hx]; simp), decide_eq_true (by rw [hx])]
        · rw [hq.2 (by
            apply Classical.byContradiction; intro hn
            refine hx ((eqL_loop hl0).1 fun j hj => ?_)
            apply Classical.byContradiction; intro hj2
            exact hn ⟨j, by omega, hj, decide_eq_false hj2⟩), decide_eq_false (by simpa using hx)]
      · simp (disch := omega) only [spec_l4Same.l6, spec_l4Same.b6, if_pos, chk_nat, Option.bind_some, w64_id, Int.natCast_add, Int.cast_ofNat_Int]
        by_cases e : l.getD i 0 = l'.getD i 0
        · rw [if_neg (fun h => h e), decide_eq_true e]; rfl
        · rw [if_pos e, decide_eq_false e]; rfl
    · rw [if_neg (fun hn => hn e1), if_pos e2, decide_eq_false (by intro hh; injection hh with _ hh; injection hh with hh _; exact e2 hh)]
  · rw [if_pos e1, decide_eq_false (by intro hh; injection hh with hh _; exact e1 hh)]
def keepS (w h : Int) (l : List Int) (s : Nat) : Bool := decide ((w, h, l) = moveR w h l s)
def symsN (w h : Int) (l : List Int) (n : Nat) : List Nat := (List.range n).filter (keepS w h l)
theorem symsN_succ (w h : Int) (l : List Int) (n : Nat) : symsN w h l (n + 1) = if keepS w h l n then symsN w h l n ++ [n] else symsN w h l n := by
  unfold symsN; rw [List.range_succ, List.filter_append]
  cases hk : keepS w h l n <;> simp [hk]
theorem symsN_len (w h : Int) (l : List Int) (n : Nat) : (symsN w h l n).length ≤ n := Nat.le_trans (List.length_filter_le _ _) (by simp)
theorem keep_len {w h : Int} {l : List Int} (ok : okC w h l) (s : Int) : w = (moveR w h l s).1 → h = (moveR w h l s).2.1 → l.length = (moveR w h l s).2.2.length := by
  intro e1 e2
  have := (move_ok s ok).2.2
  rw [← e1, ← e2] at this
  have := ok.2.2
  omega
theorem implHas_eq (k : Nat) (w h : Int) (l : List Int) (s : Int) (hl : l.length ≤ 1000) (hk : 2000 ≤ k) : impl_HasSymmetry.f k w h l s = some (if goodB w h l && symB s then (decide ((w, h, l) = moveR w h l s), true) else (false, false)) := by
  unfold impl_HasSymmetry.f impl_HasSymmetry.m
  rw [isChart_eq k w h l (by omega) (by omega), implSymm_eq]; simp only [Option.bind_some]
  cases hg : goodB w h l <;> simp only [Bool.not_true, Bool.not_false, cond_true, cond_false, Bool.true_and, Bool.false_and, Bool.and_true, Bool.and_false, Bool.false_eq_true, Bool.true_or, Bool.or_true, Bool.false_or, Bool.or_false, Bool.or_self, Bool.and_self, decide_true, decide_false, if_true, if_false, not_true, not_false_eq_true, not_true_eq_false, false_or, or_false, true_and, and_true, Bool.not_eq_true, Bool.true_eq_false, reduceCtorEq]
  cases hs : symB s <;> simp only [Bool.not_true, Bool.not_false, cond_true, cond_false, Bool.true_and, Bool.false_and, Bool.and_true, Bool.and_false, Bool.false_eq_true, Bool.true_or, Bool.or_true, Bool.false_or, Bool.or_false, Bool.or_self, Bool.and_self, decide_true, decide_false, if_true, if_false, not_true, not_false_eq_true, not_true_eq_false, false_or, or_false, true_and, and_true, Bool.not_eq_true, Bool.true_eq_false, reduceCtorEq]
  all_goals first | rfl | skip
  rw [implMove_eq (good_ok hg) (inB_iff.1 hs).1 k (by omega)]; simp only [Option.bind_some]
  rw [implSame_eq k _ _ _ _ _ _ (by omega) (by omega)]; rfl
theorem specHas_eq (k : Nat) (w h : Int) (l : List Int) (s : Int) (hl : l.length ≤ 1000) (hk : 2000 ≤ k) : spec_HasSymmetry.f k w h l s = some (if goodB w h l && symB s then (decide ((w, h, l) = moveR w h l s), true) else (false, false)) := by
  unfold spec_HasSymmetry.f spec_HasSymmetry.m
  rw [l2Good_eq k w h l (by omega) (by omega), l4Symm_eq]; simp only [Option.bind_some]
  cases hg : goodB w h l <;> simp only [Bool.not_true, Bool.not_false, cond_true, cond_false, Bool.true_and, Bool.false_and, Bool.and_true, Bool.and_false, Bool.false_eq_true, Bool.true_or, Bool.or_true, Bool.false_or, Bool.or_false, Bool.or_self, Bool.and_self, decide_true, decide_false, if_true, if_false, not_true, not_false_eq_true, not_true_eq_false, false_or, or_false, true_and, and_true, Bool.not_eq_true, Bool.true_eq_false, reduceCtorEq]
  cases hs : symB s <;> simp only [Bool.not_true, Bool.not_false, cond_true, cond_false, Bool.true_and, Bool.false_and, Bool.and_true, Bool.and_false, Bool.false_eq_true, Bool.true_or, Bool.or_true, Bool.false_or, Bool.or_false, Bool.or_self, Bool.and_self, decide_true, decide_false, if_true, if_false, not_true, not_false_eq_true, not_true_eq_false, false_or, or_false, true_and, and_true, Bool.not_eq_true, Bool.true_eq_false, reduceCtorEq]
  all_goals first | rfl | skip
  rw [specMove_eq (good_ok hg) (inB_iff.1 hs).1 k (by omega)]; simp only [Option.bind_some]
  rw [specSame_eq k _ _ _ _ _ _ (by omega) (by omega) (keep_len (good_ok hg) s)]; rfl
theorem implTurnC_eq (k : Nat) (w h : Int) (l : List Int) (hl : l.length ≤ 1000) (hk : 2000 ≤ k) : impl_TurnChart.f k w h l = some (if goodB w h l then (h, w, turnL w h l, true) else (0, 0, [], false)) := by
  unfold impl_TurnChart.f impl_TurnChart.m
  rw [implMoveC_eq k w h l 1 hl hk]; simp only [Option.bind_some]
  cases hg : goodB w h l <;> rfl
theorem implMirrC_eq (k : Nat) (w h : Int) (l : List Int) (hl : l.length ≤ 1000) (hk : 2000 ≤ k) : impl_MirrorChart.f k w h l = some (if goodB w h l then (w, h, mirrL w h l, true) else (0, 0, [], false)) := by
  unfold impl_MirrorChart.f impl_MirrorChart.m
  rw [implMoveC_eq k w h l 4 hl hk]; simp only [Option.bind_some]
  cases hg : goodB w h l <;> rfl
theorem specTurnC_eq (k : Nat) (w h : Int) (l : List Int) (hl : l.length ≤ 1000) (hk : 2000 ≤ k) : spec_TurnChart.f k w h l = some (if goodB w h l then (h, w, turnL w h l, true) else (0, 0, [], false)) := by
  unfold spec_TurnChart.f spec_TurnChart.m
  rw [l2Good_eq k w h l (by omega) (by omega)]; simp only [Option.bind_some]
  cases hg : goodB w h l <;> simp only [Bool.not_true, Bool.not_false, cond_true, cond_false, Bool.true_and, Bool.false_and, Bool.and_true, Bool.and_false, Bool.false_eq_true, Bool.true_or, Bool.or_true, Bool.false_or, Bool.or_false, Bool.or_self, Bool.and_self, decide_true, decide_false, if_true, if_false, not_true, not_false_eq_true, not_true_eq_false, false_or, or_false, true_and, and_true, Bool.not_eq_true, Bool.true_eq_false, reduceCtorEq]
  all_goals first | rfl | skip
  rw [specTurn_eq (good_ok hg) k (by omega)]; rfl
theorem specMirrC_eq (k : Nat) (w h : Int) (l : List Int) (hl : l.length ≤ 1000) (hk : 2000 ≤ k) : spec_MirrorChart.f k w h l = some (if goodB w h l then (w, h, mirrL w h l, true) else (0, 0, [], false)) := by
  unfold spec_MirrorChart.f spec_MirrorChart.m
  rw [l2Good_eq k w h l (by omega) (by omega)]; simp only [Option.bind_some]
  cases hg : goodB w h l <;> simp only [Bool.not_true, Bool.not_false, cond_true, cond_false, Bool.true_and, Bool.false_and, Bool.and_true, Bool.and_false, Bool.false_eq_true, Bool.true_or, Bool.or_true, Bool.false_or, Bool.or_false, Bool.or_self, Bool.and_self, decide_true, decide_false, if_true, if_false, not_true, not_false_eq_true, not_true_eq_false, false_or, or_false, true_and, and_true, Bool.not_eq_true, Bool.true_eq_false, reduceCtorEq]
  all_goals first | rfl | skip
  rw [specMirr_eq (good_ok hg) k (by omega)]; rfl
theorem even_ok2 (k : Nat) {l : List Int} (hb : By l) (hk : 130000 ≤ k) : Yl (spec_l1Cur_even.f k l 0 0) fun r => r.2.2.2.1 = l ∧ (r.2.2.1.length ≤ 300 ∧ 0 ≤ r.2.2.2.2.1 ∧ r.2.2.2.2.1 ≤ 200000) := by
  have tail : ∀ (l : List Int) (a s : Int) (x y : Int) (kn : List Int), By l → 0 ≤ a ∧ a ≤ 100000 → kn.length ≤ 300 → Yl (spec_l1Cur_even.l3 k l a s 0 0 [] x y kn) fun r => r.2.2.2.1 = l ∧ (r.2.2.1.length ≤ 300 ∧ 0 ≤ r.2.2.2.2.1 ∧ r.2.2.2.2.1 ≤ 200000) := by
    intro l a s x y kn hb ha hkn
    obtain ⟨k, rfl⟩ := succ_of (show 0 < k by omega)
    simp only [spec_l1Cur_even.l3, spec_l1Cur_even.b3]
    refine Yl.bind (pick_ok _ _ _ hb (by omega) (by omega)) ?_
    rintro ⟨n, l', a4, s4⟩ ⟨e1, i2, i3, i4, i5, i6⟩
    dsimp only at *; subst e1
    obtain ⟨p, q, r, t, e, ht⟩ := specCompleteC x y kn n (by omega) k (by omega)
    rw [e]; simp only [Option.bind_some]
    cases t with
    | false => simp only [Bool.not_true, Bool.not_false, cond_true, cond_false, Bool.true_and, Bool.false_and, Bool.and_true, Bool.and_false, Bool.false_eq_true, Bool.true_or, Bool.or_true, Bool.false_or, Bool.or_false, Bool.or_self, Bool.and_self, decide_true, decide_false, if_true, if_false, not_true, not_false_eq_true, not_true_eq_false, false_or, or_false, true_and, and_true, Bool.not_eq_true, Bool.true_eq_false, reduceCtorEq]; exact Yl.ret ⟨rfl, by dsimp only; omega⟩
    | true =>
      obtain ⟨_, _, hr⟩ := ht rfl
      simp only [Bool.not_true, Bool.not_false, cond_true, cond_false, Bool.true_and, Bool.false_and, Bool.and_true, Bool.and_false, Bool.false_eq_true, Bool.true_or, Bool.or_true, Bool.false_or, Bool.or_false, Bool.or_self, Bool.and_self, decide_true, decide_false, if_true, if_false, not_true, not_false_eq_true, not_true_eq_false, false_or, or_false, true_and, and_true, Bool.not_eq_true, Bool.true_eq_false, reduceCtorEq]
      refine Yl.bind (one_ok _ _ _ hb (by omega) (by omega)) ?_
      rintro ⟨b, l', a5, s5⟩ ⟨e1, j2, j3⟩
      dsimp only at *; subst e1
      cases b <;> simp only [Bool.not_true, Bool.not_false, cond_true, cond_false, Bool.true_and, Bool.false_and, Bool.and_true, Bool.and_false, Bool.false_eq_true, Bool.true_or, Bool.or_true, Bool.false_or, Bool.or_false, Bool.or_self, Bool.and_self, decide_true, decide_false, if_true, if_false, not_true, not_false_eq_true, not_true_eq_false, false_or, or_false, true_and, and_true, Bool.not_eq_true, Bool.true_eq_false, reduceCtorEq]
      · exact Yl.ret ⟨rfl, by dsimp only; omega⟩
      · exact Yl.ret ⟨rfl, by dsimp only; omega⟩
  unfold spec_l1Cur_even.f spec_l1Cur_even.m
  refine Yl.bind (among_ok _ _ 1 5 (by simp) (by intro x hx; simp at hx; omega) hb (by omega) (by omega)) ?_
  rintro ⟨w, l', a', s', x'⟩ ⟨e1, e2, e3, e4, e5, e6⟩
  dsimp only at *; subst e1
  refine Yl.bind (plain_ok k s' (w := w) (h := w) (by omega) (by omega) hb (by omega) (by omega)) ?_
  rintro ⟨w', h', kn, l', a3, s3⟩ ⟨g1, g2, e1, g3, g4, g5⟩
  dsimp only at *; subst e1; subst g1; subst g2
  refine Yl.bind (one_ok _ _ _ hb (by omega) (by omega)) ?_
  rintro ⟨b, l', a5, s5⟩ ⟨e1, j2, j3⟩
  dsimp only at *; subst e1
  cases b <;> simp only [Bool.not_true, Bool.not_false, cond_true, cond_false, Bool.true_and, Bool.false_and, Bool.and_true, Bool.and_false, Bool.false_eq_true, Bool.true_or, Bool.or_true, Bool.false_or, Bool.or_false, Bool.or_self, Bool.and_self, decide_true, decide_false, if_true, if_false, not_true, not_false_eq_true, not_true_eq_false, false_or, or_false, true_and, and_true, Bool.not_eq_true, Bool.true_eq_false, reduceCtorEq]
  · refine tail _ _ _ _ _ _ hb ?_ ?_ <;> omega
  · refine Yl.bind (chart_ok k _ hb (by omega) (by omega)) ?_
    rintro ⟨w2, h2, kn2, l', a6, s6⟩ ⟨e1, n2⟩
    dsimp only at *; subst e1
    refine tail _ _ _ _ _ _ hb ?_ ?_ <;> omega
theorem drawHas_ok (k : Nat) {l : List Int} (hb : By l) (hk : 130000 ≤ k) : Yl (spec_DrawHasSymmetry.f k l) fun r => r.2.2.1.length ≤ 300 := by
  unfold spec_DrawHasSymmetry.f spec_DrawHasSymmetry.m
  refine Yl.bind (even_ok2 k hb hk) ?_
  rintro ⟨w2, h2, kn2, l', a6, s6⟩ ⟨e1, n2⟩
  dsimp only at *; subst e1
  exact Yl.bind (symm_ok k _ hb (by omega) (by omega)) fun a h => Yl.ret (by dsimp only; omega)
theorem drawCom_ok (k : Nat) {l : List Int} (hb : By l) (hk : 130000 ≤ k) : Yl (spec_DrawCompleteChart.f k l) fun r => r.2.2.1.length ≤ 300 := by
  unfold spec_DrawCompleteChart.f spec_DrawCompleteChart.m
  exact Yl.bind (drawHas_ok k hb hk) fun a h => Yl.ret h
theorem drawIs_ok (k : Nat) {l : List Int} (hb : By l) (hk : 130000 ≤ k) : Yl (spec_DrawIsChart.f k l) fun r => r.2.2.length ≤ 300 := by
  unfold spec_DrawIsChart.f spec_DrawIsChart.m
  exact Yl.bind (chart_ok k _ hb (by omega) (by omega)) fun a h => Yl.ret (by have := h.2; dsimp only; omega)
theorem drawTurn_ok (k : Nat) {l : List Int} (hb : By l) (hk : 130000 ≤ k) : Yl (spec_DrawTurnChart.f k l) fun r => r.2.2.length ≤ 300 := by
  unfold spec_DrawTurnChart.f spec_DrawTurnChart.m
  exact Yl.bind (drawIs_ok k hb hk) fun a h => Yl.ret h
theorem drawMirr_ok (k : Nat) {l : List Int} (hb : By l) (hk : 130000 ≤ k) : Yl (spec_DrawMirrorChart.f k l) fun r => r.2.2.length ≤ 300 := by
  unfold spec_DrawMirrorChart.f spec_DrawMirrorChart.m
  exact Yl.bind (drawIs_ok k hb hk) fun a h => Yl.ret h
theorem com_facts (w h : Int) (l : List Int) (s : Int) (hl : l.length ≤ 1000) :
    (∃ (r : List Int) (n : Int), (l.length = r.length ∧ r.length ≤ 64) ∧ goodB w h r = true ∧ symB s = true ∧ moveR w h r s = (w, h, r) ∧ n = ((List.range l.length).countP (fun k => !(l.getD k 0 == r.getD k 0)) : Int) ∧ ∀ k, 130000 ≤ k → impl_CompleteChart.f k w h l s = some (w, h, r, true) ∧ spec_CompleteChart.f k w h l s = some (w, h, r, true) ∧ impl_FewestChanges.f k w h l s = some (n, true) ∧ spec_FewestChanges.f k w h l s = some (n, true) ∧ impl_FewestChanges.f k w h r s = some (0, true))
    ∨ ∀ k, 130000 ≤ k → impl_CompleteChart.f k w h l s = some (0, 0, [], false) ∧ spec_CompleteChart.f k w h l s = some (0, 0, [], false) ∧ impl_FewestChanges.f k w h l s = some (0, false) ∧ spec_FewestChanges.f k w h l s = some (0, false) := by
  by_cases ha : askedB w h l s = true
  · left
    have ha' := ha
    unfold askedB at ha'
    simp only [Bool.and_eq_true, Bool.or_eq_true, decide_eq_true_eq] at ha'
    obtain ⟨⟨hg, hs⟩, ho⟩ := ha'
    obtain ⟨hw, hh, hll, hlc⟩ := good_of hg
    have hsi := inB_iff.1 hs
    obtain ⟨w, rfl⟩ := Int.eq_ofNat_of_zero_le (show 0 ≤ w by omega)
    obtain ⟨h, rfl⟩ := Int.eq_ofNat_of_zero_le (show 0 ≤ h by omega)
    obtain ⟨s, rfl⟩ := Int.eq_ofNat_of_zero_le (show 0 ≤ s by omega)
    have hl2 : l.length = w * h := lenN hll
    have hwN : 1 ≤ w ∧ w ≤ 8 := by omega
    have hhN : 1 ≤ h ∧ h ≤ 8 := by omega
    have hn : w * h ≤ 64 := Nat.mul_le_mul hwN.2 hhN.2
    obtain ⟨a, ea, h1, h2⟩ := complete_both (s := s) hwN hhN (by omega) (by omega) hl2 hlc
    obtain ⟨i1, i2, i3, i4⟩ := complete_is (s := s) hwN hhN (by omega) (by omega) hl2 ea
    have hrl : (a.foldl (stepC l) (l, 0)).1.length = w * h := by rw [step_lenF]; exact hl2
    obtain ⟨a', ea', _, h3⟩ := complete_both (s := s) hwN hhN (by omega) (by omega) hrl i4
    rw [ea] at ea'; injection ea' with ea'; subst ea'
    have hgr : goodB (w : Int) (h : Int) (a.foldl (stepC l) (l, 0)).1 = true := good_plain hw hh i4 (by rw [hrl] <;> exact Int.natCast_mul w h)
    refine ⟨_, (a.foldl (stepC l) (l, 0)).2, ⟨by omega, by omega⟩, hgr, hs, i1, by rw [hl2]; exact i3, fun k hk => ⟨?_, ?_, ?_, ?_, ?_⟩⟩
    · unfold impl_CompleteChart.f impl_CompleteChart.m
      rw [isChart_eq k _ _ _ (by omega) (by omega), implSymm_eq, hg, hs]; simp only [Option.bind_some, Bool.not_true, Bool.not_false, cond_true, cond_false, Bool.true_and, Bool.false_and, Bool.and_true, Bool.and_false, Bool.false_eq_true, Bool.true_or, Bool.or_true, Bool.false_or, Bool.or_false, Bool.or_self, Bool.and_self, decide_true, decide_false, if_true, if_false, not_true, not_false_eq_true, not_true_eq_false, false_or, or_false, true_and, and_true, Bool.not_eq_true, Bool.true_eq_false, reduceCtorEq]
      rw [h2 k (by omega)]; rfl
    · unfold spec_CompleteChart.f spec_CompleteChart.m
      rw [asked_eq _ _ _ _ (by omega) k (by omega), ha]; simp only [Option.bind_some, Bool.not_true, Bool.not_false, cond_true, cond_false, Bool.true_and, Bool.false_and, Bool.and_true, Bool.and_false, Bool.false_eq_true, Bool.true_or, Bool.or_true, Bool.false_or, Bool.or_false, Bool.or_self, Bool.and_self, decide_true, decide_false, if_true, if_false, not_true, not_false_eq_true, not_true_eq_false, false_or, or_false, true_and, and_true, Bool.not_eq_true, Bool.true_eq_false, reduceCtorEq]
      rw [h1 k (by omega)]; rfl
    · unfold impl_FewestChanges.f impl_FewestChanges.m
      rw [isChart_eq k _ _ _ (by omega) (by omega), implSymm_eq, hg, hs]; simp only [Option.bind_some, Bool.not_true, Bool.not_false, cond_true, cond_false, Bool.true_and, Bool.false_and, Bool.and_true, Bool.and_false, Bool.false_eq_true, Bool.true_or, Bool.or_true, Bool.false_or, Bool.or_false, Bool.or_self, Bool.and_self, decide_true, decide_false, if_true, if_false, not_true, not_false_eq_true, not_true_eq_false, false_or, or_false, true_and, and_true, Bool.not_eq_true, Bool.true_eq_false, reduceCtorEq]
      rw [h2 k (by omega)]; rfl
    · unfold spec_FewestChanges.f spec_FewestChanges.m
      rw [asked_eq _ _ _ _ (by omega) k (by omega), ha]; simp only [Option.bind_some, Bool.not_true, Bool.not_false, cond_true, cond_false, Bool.true_and, Bool.false_and, Bool.and_true, Bool.and_false, Bool.false_eq_true, Bool.true_or, Bool.or_true, Bool.false_or, Bool.or_false, Bool.or_self, Bool.and_self, decide_true, decide_false, if_true, if_false, not_true, not_false_eq_true, not_true_eq_false, false_or, or_false, true_and, and_true, Bool.not_eq_true, Bool.true_eq_false, reduceCtorEq]
      rw [h1 k (by omega)]; rfl
    · unfold impl_FewestChanges.f impl_FewestChanges.m
      rw [isChart_eq k _ _ _ (by omega) (by omega), implSymm_eq, hgr, hs]; simp only [Option.bind_some, Bool.not_true, Bool.not_false, cond_true, cond_false, Bool.true_and, Bool.false_and, Bool.and_true, Bool.and_false, Bool.false_eq_true, Bool.true_or, Bool.or_true, Bool.false_or, Bool.or_false, Bool.or_self, Bool.and_self, decide_true, decide_false, if_true, if_false, not_true, not_false_eq_true, not_true_eq_false, false_or, or_false, true_and, and_true, Bool.not_eq_true, Bool.true_eq_false, reduceCtorEq]
      rw [h3 k (by omega), i2]; rfl
  · right
    have hf := notB ha
    intro k hk
    have hno : goodB w h l = true → symB s = true → impl_Chart_complete.f k w h l s = some (w, h, l, 0, false) := by
      intro hg hs
      unfold askedB at hf
      rw [hg, hs] at hf
      simp only [Bool.true_and, Bool.or_eq_false_iff, decide_eq_false_iff_not] at hf
      obtain ⟨hw, hh, hll, hlc⟩ := good_of hg
      have hsi := inB_iff.1 hs
      obtain ⟨w, rfl⟩ := Int.eq_ofNat_of_zero_le (show 0 ≤ w by omega)
      obtain ⟨h, rfl⟩ := Int.eq_ofNat_of_zero_le (show 0 ≤ h by omega)
      obtain ⟨s, rfl⟩ := Int.eq_ofNat_of_zero_le (show 0 ≤ s by omega)
      exact complete_no (by omega) (by omega) (by omega) (by omega) (by omega) (lenN hll) k (by omega)
    refine ⟨?_, ?_, ?_, ?_⟩
    · unfold impl_CompleteChart.f impl_CompleteChart.m
      rw [isChart_eq k _ _ _ (by omega) (by omega), implSymm_eq]; simp only [Option.bind_some]
      cases hg : goodB w h l
      · rfl
      cases hs : symB s
      · rfl
      rw [hno hg hs]; rfl
    · unfold spec_CompleteChart.f spec_CompleteChart.m
      rw [asked_eq _ _ _ _ (by omega) k (by omega), hf]; rfl
    · unfold impl_FewestChanges.f impl_FewestChanges.m
      rw [isChart_eq k _ _ _ (by omega) (by omega), implSymm_eq]; simp only [Option.bind_some]
      cases hg : goodB w h l
      · rfl
      cases hs : symB s
      · rfl
      rw [hno hg hs]; rfl
    · unfold spec_FewestChanges.f spec_FewestChanges.m
      rw [asked_eq _ _ _ _ (by omega) k (by omega), hf]; rfl
def TailOk (t : Option Bool) : Prop := t = some true
theorem com22_end {l0 : List Int} (hb : By l0) (w h : Int) (l : List Int) (w' h' : Int) (r : List Int) (n : Int) (i : Int) (hi : (l.length : Int) ≤ i) (K : Nat) (hK : 140000 ≤ K) : laws_FnCompletion.l22 K l0 w h l w' h' r n true true 0 true n i = some true := by
  obtain ⟨K, rfl⟩ := succ_of (show 0 < K by omega)
  simp only [laws_FnCompletion.l22, laws_FnCompletion.b22]
  rw [if_neg (by omega)]
  simp only [Bool.not_true, cond_false]
  rw [if_neg (fun hn => hn trivial), if_neg (fun hn => hn trivial)]
  obtain ⟨⟨w2, h2, l2, s2⟩, e2, hl2⟩ := drawHas_ok K hb (by omega)
  dsimp only at hl2
  rw [e2]; simp only [Option.bind_some]
  rw [implHas_eq K w2 h2 l2 s2 (by omega) (by omega), specHas_eq K w2 h2 l2 s2 (by omega) (by omega)]; simp only [Option.bind_some]
  rw [if_neg (fun hn => hn trivial), if_neg (fun hn => hn trivial)]
  obtain ⟨⟨w3, h3, l3⟩, e3, hl3⟩ := drawTurn_ok K hb (by omega)
  dsimp only at hl3
  rw [e3]; simp only [Option.bind_some]
  rw [implTurnC_eq K w3 h3 l3 (by omega) (by omega), specTurnC_eq K w3 h3 l3 (by omega) (by omega)]; simp only [Option.bind_some]
  rw [if_neg (fun hn => hn trivial)]
  rw [vChart_self K _ _ _ (by split; · next hg => have := okC_len (turn_ok (good_ok hg)); dsimp only; omega
                              · simp) (by omega)]; simp only [Option.bind_some, Bool.not_true, cond_false]
  obtain ⟨⟨w4, h4, l4⟩, e4, hl4⟩ := drawMirr_ok K hb (by omega)
  dsimp only at hl4
  rw [e4]; simp only [Option.bind_some]
  rw [implMirrC_eq K w4 h4 l4 (by omega) (by omega), specMirrC_eq K w4 h4 l4 (by omega) (by omega)]; simp only [Option.bind_some]
  rw [if_neg (fun hn => hn trivial)]
  cases hg : goodB w4 h4 l4
  · simp only [Bool.false_eq_true, if_false]
    rw [vChart_self K _ _ _ (by simp) (by omega)]; rfl
  · simp only [if_true]
    have hm := okC_len (mirr_ok (good_ok hg))
    have hgm : goodB w4 h4 (mirrL w4 h4 l4) = true := move_good 4 hg
    rw [vChart_self K _ _ _ (by omega) (by omega)]; simp only [Option.bind_some, Bool.not_true, cond_false, cond_true]
    rw [implMirrC_eq K _ _ _ (by omega) (by omega), hgm]; simp only [Option.bind_some, if_true, cond_true]
    have hmm : mirrL w4 h4 (mirrL w4 h4 l4) = l4 := congrArg (fun c => c.2.2) (tM_M (c := (w4, h4, l4)) (good_ok hg))
    rw [hmm, vChart_self K _ _ _ (by omega) (by omega)]; rfl
theorem com22 {l0 : List Int} (hb : By l0) (w h : Int) (l : List Int) (w' h' : Int) (r : List Int) (hl : l.length ≤ 1000) (hlr : l.length = r.length) (n : Int) (hn : n = ((List.range l.length).countP (fun k => !(l.getD k 0 == r.getD k 0)) : Int)) : ∀ (d K i : Nat), i + d = l.length → 140000 + d < K → laws_FnCompletion.l22 K l0 w h l w' h' r n true true 0 true ((List.range i).countP (fun k => !(l.getD k 0 == r.getD k 0)) : Int) i = some true := by
  intro d
  induction d with
  | zero =>
    intro K i h1 h2
    obtain rfl : i = l.length := by omega
    rw [← hn]
    exact com22_end hb w h l w' h' r n _ (by omega) K (by omega)
  | succ d ih =>
    intro K i h1 h2
    obtain ⟨K, rfl⟩ := succ_of (show 0 < K by omega)
    have hih := ih K (i + 1) (by omega) (by omega)
    rw [List.range_succ, List.countP_append, List.countP_singleton] at hih
    have hc : (List.range i).countP (fun k => !(l.getD k 0 == r.getD k 0)) ≤ i := Nat.le_trans List.countP_le_length (by simp)
    simp only [laws_FnCompletion.l22, laws_FnCompletion.b22]
    rw [if_pos (by omega), chk_nat (by omega)]; simp only [Option.bind_some]
    rw [chk_nat (by omega)]; simp only [Option.bind_some]
    rw [w64_id (x := (i : Int) + 1) (by omega), show ((i : Int) + 1) = ((i + 1 : Nat) : Int) by omega]
    by_cases e : l.getD i 0 = r.getD i 0
    · rw [if_neg (fun hn => hn e)]
      have h5 : (!(l.getD i 0 == r.getD i 0)) = false := by rw [beq_iff_eq.2 e]; rfl
      simp only [h5, Bool.false_eq_true, if_false, Nat.add_zero] at hih
      exact hih
    · rw [if_pos e, w64_id (by omega)]
      have h5 : (!(l.getD i 0 == r.getD i 0)) = true := by rw [beq_eq_false_iff_ne.2 e]; rfl
      simp only [h5, if_true, Int.natCast_add, Int.cast_ofNat_Int] at hih
      exact hih
theorem pure_holds : Pure := by
  intro l0 _ hw
  have hb := By.of hw
  refine ⟨300000, ?_⟩
  unfold laws_FnCompletion.f laws_FnCompletion.m laws_vBig.f laws_vBig.m
  simp only [Option.bind_some]
  generalize hK : 300000 = K
  cases decide (65536 < (l0.length : Int)) with
  | true => rfl
  | false =>
  simp only [Bool.not_true, Bool.not_false, cond_true, cond_false, Bool.true_and, Bool.false_and, Bool.and_true, Bool.and_false, Bool.false_eq_true, Bool.true_or, Bool.or_true, Bool.false_or, Bool.or_false, Bool.or_self, Bool.and_self, decide_true, decide_false, if_true, if_false, not_true, not_false_eq_true, not_true_eq_false, false_or, or_false, true_and, and_true, Bool.not_eq_true, Bool.true_eq_false, reduceCtorEq]
  obtain ⟨⟨w, h, l, s⟩, e, hl⟩ := drawCom_ok K hb (by omega)
  dsimp only at hl
  rw [e]; simp only [Option.bind_some]
  rcases com_facts w h l s (by omega) with ⟨r, n, ⟨f1, f2⟩, f3, f4, f5, f6, f7⟩ | f7
  · obtain ⟨g1, g2, g3, g4, g5⟩ := f7 K (by omega)
    rw [g1, g2]; simp only [Option.bind_some]
    rw [if_neg (fun hn => hn trivial), vChart_self K _ _ _ (by omega) (by omega)]; simp only [Option.bind_some, Bool.not_true, cond_false]
    rw [g3, g4]; simp only [Option.bind_some]
    rw [if_neg (fun hn => hn trivial), if_neg (fun hn => hn trivial), if_neg (fun hn => hn trivial)]
    simp only [cond_true]
    rw [implHas_eq K w h r s (by omega) (by omega), f3, f4, f5]; simp only [Option.bind_some]
    rw [g5]; simp only [Option.bind_some]
    have := com22 hb w h l w h r (by omega) f1 n f6 l.length K 0 (by omega) (by omega)
    simpa using this
  · obtain ⟨g1, g2, g3, g4⟩ := f7 K (by omega)
    rw [g1, g2]; simp only [Option.bind_some]
    rw [if_neg (fun hn => hn trivial), vChart_self K _ _ _ (by simp) (by omega)]; simp only [Option.bind_some, Bool.not_true, cond_false]
    rw [g3, g4]; simp only [Option.bind_some]
    rw [if_neg (fun hn => hn trivial), if_neg (fun hn => hn trivial), if_neg (fun hn => hn trivial)]
    obtain ⟨⟨w2, h2, l2, s2⟩, e2, hl2⟩ := drawHas_ok K hb (by omega)
    dsimp only at hl2
    rw [e2]; simp only [Option.bind_some]
    rw [implHas_eq K w2 h2 l2 s2 (by omega) (by omega), specHas_eq K w2 h2 l2 s2 (by omega) (by omega)]; simp only [Option.bind_some]
    rw [if_neg (fun hn => hn trivial), if_neg (fun hn => hn trivial)]
    obtain ⟨⟨w3, h3, l3⟩, e3, hl3⟩ := drawTurn_ok K hb (by omega)
    dsimp only at hl3
    rw [e3]; simp only [Option.bind_some]
    rw [implTurnC_eq K w3 h3 l3 (by omega) (by omega), specTurnC_eq K w3 h3 l3 (by omega) (by omega)]; simp only [Option.bind_some]
    rw [if_neg (fun hn => hn trivial)]
    rw [vChart_self K _ _ _ (by split; · next hg => have := okC_len (turn_ok (good_ok hg)); dsimp only; omega
                                · simp) (by omega)]; simp only [Option.bind_some, Bool.not_true, cond_false]
    obtain ⟨⟨w4, h4, l4⟩, e4, hl4⟩ := drawMirr_ok K hb (by omega)
    dsimp only at hl4
    rw [e4]; simp only [Option.bind_some]
    rw [implMirrC_eq K w4 h4 l4 (by omega) (by omega), specMirrC_eq K w4 h4 l4 (by omega) (by omega)]; simp only [Option.bind_some]
    rw [if_neg (fun hn => hn trivial)]
    cases hg : goodB w4 h4 l4
    · simp only [Bool.false_eq_true, if_false]
      rw [vChart_self K _ _ _ (by simp) (by omega)]; rfl
    · simp only [if_true]
      have hm := okC_len (mirr_ok (good_ok hg))
      have hgm : goodB w4 h4 (mirrL w4 h4 l4) = true := move_good 4 hg
      rw [vChart_self K _ _ _ (by omega) (by omega)]; simp only [Option.bind_some, Bool.not_true, cond_false, cond_true]
      rw [implMirrC_eq K _ _ _ (by omega) (by omega), hgm]; simp only [Option.bind_some, if_true, cond_true]
      have hmm : mirrL w4 h4 (mirrL w4 h4 l4) = l4 := congrArg (fun c => c.2.2) (tM_M (c := (w4, h4, l4)) (good_ok hg))
      rw [hmm, vChart_self K _ _ _ (by omega) (by omega)]; rfl
end Go.Proofs.Ytijmljaemalgmaa.DFnCompletion
