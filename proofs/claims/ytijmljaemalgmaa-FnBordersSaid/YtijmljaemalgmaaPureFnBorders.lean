/- A border that is added and stripped changes nothing, and its period is not longer than its pattern. -/
import Derived.Test.YtijmljaemalgmaaDFnBorders
set_option linter.unusedVariables false
set_option linter.unusedSimpArgs false
set_option maxRecDepth 100000
namespace Go.Proofs.Ytijmljaemalgmaa.DFnBorders
open Go Go.Proofs.YtijmljaemalgmaaD
theorem succ_of {k : Nat} (h : 0 < k) : ∃ j, k = j + 1 := ⟨k - 1, by omega⟩
theorem w64_id {x : Int} (h : -9223372036854775808 ≤ x ∧ x ≤ 9223372036854775807) : w64 x = x := by
  unfold w64 IntKind.wrap
  simp [IntKind.signed, IntKind.bits]
  omega
theorem chk_nat {n j : Nat} (h : j < n) : chk n (j : Int) = some j := by unfold chk; rw [if_pos (by omega)]; simp
theorem chk_int {n : Nat} {i : Int} (h : 0 ≤ i ∧ i < n) : chk n i = some i.toNat := by unfold chk; rw [if_pos h]
theorem cut_int {n : Nat} {i j : Int} (h : 0 ≤ i ∧ i ≤ j ∧ j ≤ n) : cut n i j = some (i.toNat, j.toNat - i.toNat) := by unfold cut; rw [if_pos h]
theorem cutTo_int {n : Nat} {j : Int} (h : 0 ≤ j ∧ j ≤ n) : cutTo n j = some j.toNat := by unfold cutTo; rw [if_pos h]
theorem cut3_int {n : Nat} {i j m : Int} (h : 0 ≤ i ∧ i ≤ j ∧ j ≤ m ∧ m ≤ n) : cut3 n i j m = some () := by unfold cut3; rw [if_pos h]
theorem mkl_int {L : Nat} {n c : Int} (h : 0 ≤ n ∧ n ≤ c ∧ c ≤ L) : mkl L n c = some n.toNat := by unfold mkl; rw [if_pos h]
theorem selfApp_nat {i lo m : Nat} (h : i ≤ lo) : selfApp i lo m = some (i + m) := by unfold selfApp; rw [if_pos h]
section
variable {β : Type}
theorem app_ok {L : Nat} {xs ys : List β} (h : xs.length + ys.length ≤ L) : app L xs ys = some (xs ++ ys) := by unfold app; rw [if_pos h]
theorem chk_mid (p : List β) (a : β) (q : List β) : chk (p ++ a :: q).length (p.length : Int) = some p.length := chk_nat (by simp)
theorem getD_mid (p : List β) (a : β) (q : List β) (d : β) : (p ++ a :: q).getD p.length d = a := by
  rw [List.getD_eq_getElem?_getD, List.getElem?_append_right (Nat.le_refl _)]; simp
theorem set_mid (p : List β) (a b : β) (q : List β) : (p ++ a :: q).set p.length b = p ++ b :: q := by
  rw [List.set_append_right _ _ (Nat.le_refl _)]; simp
theorem upd_mid (p : List β) (a : β) (q : List β) (d : β) (f : β → β) : upd (p ++ a :: q) p.length d f = p ++ f a :: q := by
  unfold upd; rw [getD_mid, set_mid]
theorem upd_len (xs : List β) (j : Nat) (d : β) (f : β → β) : (upd xs j d f).length = xs.length := by unfold upd; simp
theorem upd_of {xs : List β} {j : Nat} {d : β} {f : β → β} : upd xs j d f = xs.set j (f (xs.getD j d)) := rfl
theorem lt_mid (p : List β) (a : β) (q : List β) : (p.length : Int) < ((p ++ a :: q).length : Nat) := by simp; omega
theorem next_mid {p : List β} {a : β} {q : List β} (h : (p ++ a :: q).length ≤ 1152921504606846976) : w64 ((p.length : Int) + 1) = ((p ++ [a]).length : Nat) := by
  rw [w64_id (by simp at h; omega)]; simp
theorem snoc_app (p : List β) (a : β) (q : List β) : p ++ a :: q = (p ++ [a]) ++ q := by simp
theorem getD_lt {xs : List β} {i : Nat} {d : β} (h : i < xs.length) : xs.getD i d = xs[i] := by
  rw [List.getD_eq_getElem?_getD, List.getElem?_eq_getElem h]; rfl
theorem getD_set {xs : List β} {i j : Nat} {a d : β} (h : i < xs.length) : (xs.set i a).getD j d = if i = j then a else xs.getD j d := by
  rw [List.getD_eq_getElem?_getD, List.getD_eq_getElem?_getD, List.getElem?_set]
  split
  · rename_i e; subst e; simp [h]
  · rfl
theorem some_bind {γ : Type} (x : β) (f : β → Option γ) : (some x).bind f = f x := rfl
end
def inB (n lo hi : Int) : Bool := decide (lo ≤ n) && decide (n ≤ hi)
theorem inB_iff {n lo hi : Int} : inB n lo hi = true ↔ lo ≤ n ∧ n ≤ hi := by unfold inB; simp
theorem inB_of {n lo hi : Int} (h : lo ≤ n ∧ n ≤ hi) : inB n lo hi = true := inB_iff.2 h
theorem notB {b : Bool} (h : ¬ b = true) : b = false := by cases b <;> simp_all
theorem all_loop {β : Type} {L : Nat → Nat → Option β} {n K0 : Nat} {ok : Nat → Bool} {f : Option β} (hs : ∀ k i, K0 ≤ k → i < n → L (k + 1) i = if ok i = true then L k (i + 1) else f) :
    ∀ (d k i : Nat), i + d = n → K0 + d < k → (∀ e, (∀ k, K0 ≤ k → L (k + 1) n = e) → (∀ j, i ≤ j → j < n → ok j = true) → L k i = e) ∧ ((∃ j, i ≤ j ∧ j < n ∧ ok j = false) → L k i = f) := by
  intro d
  induction d with
  | zero =>
    intro k i h1 h2
    obtain ⟨k, rfl⟩ := succ_of (show 0 < k by omega)
    have : i = n := by omega
    subst this
    exact ⟨fun e he _ => he k (by omega), fun ⟨j, a, b, _⟩ => by omega⟩
  | succ d ih =>
    intro k i h1 h2
    obtain ⟨k, rfl⟩ := succ_of (show 0 < k by omega)
    have := ih k (i + 1) (by omega) (by omega)
    rw [hs k i (by omega) (by omega)]
    refine ⟨fun e he h => ?_, fun ⟨j, a, b, c⟩ => ?_⟩
    · rw [if_pos (h i (Nat.le_refl _) (by omega))]; exact this.1 e he fun j a b => h j (by omega) b
    · by_cases e : ok i = true
      · rw [if_pos e]
        refine this.2 ⟨j, ?_, b, c⟩
        rcases Nat.lt_or_ge i j with h | h
        · exact h
        · have : j = i := by omega
          subst this; rw [e] at c; cases c
      · rw [if_neg e]
theorem exists_bad {n : Nat} {ok : Nat → Bool} (h : ¬ ∀ i, i < n → ok i = true) : ∃ j, 0 ≤ j ∧ j < n ∧ ok j = false := by
  apply Classical.byContradiction; intro hn
  refine h fun j hj => ?_
  cases hc : ok j with
  | true => rfl
  | false => exact absurd ⟨j, Nat.zero_le _, hj, hc⟩ hn
theorem first_bad {n : Nat} {ok : Nat → Bool} (h : ¬ ∀ i, i < n → ok i = true) : ∃ j, j < n ∧ ok j = false ∧ ∀ i, i < j → ok i = true := by
  induction n with
  | zero => exact absurd (fun i hi => by omega) h
  | succ n ih =>
    by_cases h1 : ∀ i, i < n → ok i = true
    · refine ⟨n, by omega, ?_, h1⟩
      cases hc : ok n with
      | false => rfl
      | true => exact absurd (fun i hi => by
          rcases Nat.lt_or_ge i n with h' | h'
          · exact h1 i h'
          · have : i = n := by omega
            rw [this]; exact hc) h
    · obtain ⟨j, a, b, c⟩ := ih h1
      exact ⟨j, by omega, b, c⟩
theorem find_loop {L : Nat → Nat → Option Int} {n K0 : Nat} {ok : Nat → Bool} (hs : ∀ k i, K0 ≤ k → i < n → L (k + 1) i = if ok i = true then some (i : Int) else L k (i + 1)) (he : ∀ k, K0 ≤ k → L (k + 1) n = some (-1)) :
    ∀ (d k i : Nat), i + d = n → K0 + d < k → ((∀ j, i ≤ j → j < n → ok j = false) → L k i = some (-1)) ∧ (∀ m, i ≤ m → m < n → ok m = true → (∀ j, i ≤ j → j < m → ok j = false) → L k i = some (m : Int)) := by
  intro d
  induction d with
  | zero =>
    intro k i h1 h2
    obtain ⟨k, rfl⟩ := succ_of (show 0 < k by omega)
    have : i = n := by omega
    subst this
    exact ⟨fun _ => he k (by omega), fun m a b _ _ => by omega⟩
  | succ d ih =>
    intro k i h1 h2
    obtain ⟨k, rfl⟩ := succ_of (show 0 < k by omega)
    have := ih k (i + 1) (by omega) (by omega)
    rw [hs k i (by omega) (by omega)]
    refine ⟨fun h => ?_, fun m a b c h => ?_⟩
    · rw [if_neg (by rw [h i (Nat.le_refl _) (by omega)]; simp)]; exact this.1 fun j a b => h j (by omega) b
    · by_cases e : ok i = true
      · rw [if_pos e]
        rcases Nat.lt_or_ge i m with h' | h'
        · have := h i (Nat.le_refl _) h'; rw [e] at this; cases this
        · have : m = i := by omega
          rw [this]
      · rw [if_neg e]
        refine this.2 m ?_ b c fun j a b => h j (by omega) b
        rcases Nat.lt_or_ge i m with h' | h'
        · exact h'
        · have : m = i := by omega
          subst this; exact absurd c e
theorem stepb {α γ : Type} {a : Option α} {x : α} {f : α → Option γ} {r : Option γ} (h : a = some x) (g : f x = r) : a.bind f = r := by rw [h]; exact g
theorem ifn {γ : Type} {c : Prop} {i : Decidable c} {t e r : γ} (h : ¬ c) (g : e = r) : @ite γ c i t e = r := by rw [if_neg h]; exact g
theorem condt {γ : Type} {a b r : γ} (g : b = r) : cond (!true) a b = r := g
def Yl {α : Type} (x : Option α) (P : α → Prop) : Prop := ∃ a, x = some a ∧ P a
theorem Yl.bind {α β : Type} {x : Option α} {f : α → Option β} {P : α → Prop} {Q : β → Prop} (h : Yl x P) (g : ∀ a, P a → Yl (f a) Q) : Yl (x.bind f) Q := by
  obtain ⟨a, rfl, ha⟩ := h; exact g a ha
theorem Yl.mono {α : Type} {x : Option α} {P Q : α → Prop} (h : Yl x P) (g : ∀ a, P a → Q a) : Yl x Q := by
  obtain ⟨a, e, ha⟩ := h; exact ⟨a, e, g a ha⟩
theorem Yl.ret {α : Type} {a : α} {P : α → Prop} (h : P a) : Yl (some a) P := ⟨a, rfl, h⟩
theorem Yl.ite {α : Type} {c : Prop} [i : Decidable c] {t e : Option α} {P : α → Prop} (ht : c → Yl t P) (he : ¬ c → Yl e P) : Yl (@ite _ c i t e) P := by
  by_cases h : c
  · rw [if_pos h]; exact ht h
  · rw [if_neg h]; exact he h
theorem Yl.cond {α : Type} {c : Bool} {t e : Option α} {P : α → Prop} (ht : c = true → Yl t P) (he : c = false → Yl e P) : Yl (cond c t e) P := by
  cases c
  · exact he rfl
  · exact ht rfl
def By (l : List Int) : Prop := ∀ y ∈ l, 0 ≤ y ∧ y ≤ 255
theorem By.of {l : List Int} (h : ∀ y ∈ l, (Lit.int .u8 y).wf = true) : By l := by
  intro y hy; have h := h y hy
  unfold Lit.wf at h; rw [Bool.and_eq_true] at h
  have h1 := of_decide_eq_true h.1; have h2 := of_decide_eq_true h.2
  exact ⟨h1, h2⟩
theorem byteBits (q : Int) : 0 ≤ band .u64 q 255 ∧ band .u64 q 255 ≤ 255 := by
  have h : (BitVec.ofInt 64 q &&& BitVec.ofInt 64 255).toNat ≤ 255 := by
    rw [BitVec.toNat_and]
    exact Nat.le_trans Nat.and_le_right (by decide)
  change 0 ≤ IntKind.wrap .u64 ((((BitVec.ofInt 64 q &&& BitVec.ofInt 64 255).toNat : Nat)) : Int) ∧ IntKind.wrap .u64 ((((BitVec.ofInt 64 q &&& BitVec.ofInt 64 255).toNat : Nat)) : Int) ≤ 255
  generalize (BitVec.ofInt 64 q &&& BitVec.ofInt 64 255).toNat = n at *
  unfold IntKind.wrap
  simp [IntKind.signed, IntKind.bits]
  omega
theorem next_ok (k : Nat) {l : List Int} {a : Int} (s : Int) (hb : By l) (h : 0 ≤ a ∧ a ≤ 1000000000000000) (hk : 5 ≤ k) : Yl (spec_l1Cur_next.f k l a s) fun r => r.2.1 = l ∧ r.2.2.1 = a + 1 ∧ 0 ≤ r.1 ∧ r.1 ≤ 255 := by
  obtain ⟨k, rfl⟩ := succ_of (show 0 < k by omega)
  have key : ∀ b : Int, 0 ≤ b ∧ b ≤ 255 → Yl (spec_l1Cur_next.l2 (k + 1) l a s b) fun r => r.2.1 = l ∧ r.2.2.1 = a + 1 ∧ 0 ≤ r.1 ∧ r.1 ≤ 255 := fun b hbb => by
    simp only [spec_l1Cur_next.l2, spec_l1Cur_next.b2]
    rw [w64_id (x := a + 1) (by omega)]
    refine Yl.ite (fun _ => Yl.ret ⟨rfl, rfl, hbb⟩) fun _ => ?_
    unfold shr; rw [if_neg (by omega)]; simp only [Option.bind_some]
    refine Yl.ret ⟨rfl, rfl, ?_⟩
    have := byteBits ((IntKind.u64.wrap (IntKind.u64.wrap (IntKind.u64.wrap (s * 6364136223846793005) + IntKind.u64.wrap b) + 102323)).fdiv (2 ^ min (Int.toNat 40) IntKind.u64.bits))
    rw [w64_id (by omega)]; exact this
  unfold spec_l1Cur_next.f spec_l1Cur_next.m
  refine Yl.ite (fun hlt => ?_) fun _ => key 0 (by omega)
  rw [chk_int (by omega)]; simp only [Option.bind_some]
  have hi : a.toNat < l.length := by omega
  have := hb _ (List.getElem_mem hi)
  rw [getD_lt hi, w64_id (by omega)]
  exact key _ this
theorem pick_ok (k : Nat) {l : List Int} {a : Int} (s n : Int) (hb : By l) (h : 0 ≤ a ∧ a ≤ 1000000000000) (hk : 5 ≤ k) : Yl (spec_l1Cur_pick.f k l a s n) fun r => r.2.1 = l ∧ a ≤ r.2.2.1 ∧ r.2.2.1 ≤ a + 2 ∧ 0 ≤ r.1 ∧ (r.1 = 0 ∨ r.1 < n) ∧ r.1 ≤ 65535 := by
  unfold spec_l1Cur_pick.f spec_l1Cur_pick.m
  refine Yl.ite (fun _ => Yl.ret ⟨rfl, by simp, by dsimp only; omega, by simp⟩) fun hn => ?_
  refine Yl.bind (next_ok k s hb (by omega) hk) ?_
  rintro ⟨b, l', a', s'⟩ ⟨e1, e2, e3, e4⟩
  dsimp only at *; subst e1; subst e2
  refine Yl.ite (fun hn2 => ?_) fun _ => ?_
  · refine Yl.bind (next_ok k s' hb (by omega) hk) ?_
    rintro ⟨c, l2, a2, s2⟩ ⟨f1, f2, f3, f4⟩
    dsimp only at *; subst f1; subst f2
    rw [w64_id (x := b * 256) (by omega), w64_id (by omega)]
    unfold rem; rw [if_neg (by omega)]; simp only [Option.bind_some]
    rw [Int.tmod_eq_emod_of_nonneg (by omega)]
    have := Int.emod_nonneg (b * 256 + c) (show n ≠ 0 by omega)
    have := Int.emod_lt_of_pos (b * 256 + c) (show 0 < n by omega)
    have : (b * 256 + c) % n ≤ b * 256 + c := by
      rcases Int.lt_or_le (b * 256 + c) n with h | h
      · rw [Int.emod_eq_of_lt (by omega) h]; omega
      · omega
    exact Yl.ret ⟨rfl, by dsimp only; omega, by dsimp only; omega, by omega, by omega, by dsimp only; omega⟩
  · unfold rem; rw [if_neg (by omega)]; simp only [Option.bind_some]
    rw [Int.tmod_eq_emod_of_nonneg (by omega)]
    have := Int.emod_nonneg b (show n ≠ 0 by omega)
    have := Int.emod_lt_of_pos b (show 0 < n by omega)
    exact Yl.ret ⟨rfl, by dsimp only; omega, by dsimp only; omega, by omega, by omega, by dsimp only; omega⟩
theorem one_ok (k : Nat) {l : List Int} {a : Int} (s n : Int) (hb : By l) (h : 0 ≤ a ∧ a ≤ 1000000000000) (hk : 5 ≤ k) : Yl (spec_l1Cur_one.f k l a s n) fun r => r.2.1 = l ∧ a ≤ r.2.2.1 ∧ r.2.2.1 ≤ a + 2 := by
  unfold spec_l1Cur_one.f spec_l1Cur_one.m
  refine Yl.bind (pick_ok k s n hb h hk) ?_
  rintro ⟨b, l', a', s'⟩ ⟨e1, e2, e3, e4⟩
  exact Yl.ret ⟨e1, e2, e3⟩
theorem among_ok (k : Nat) {l : List Int} {a : Int} (s : Int) {xs : List Int} (lo hi : Int) (hx : 0 < xs.length ∧ xs.length ≤ 60000) (hm : ∀ x ∈ xs, lo ≤ x ∧ x ≤ hi) (hb : By l) (h : 0 ≤ a ∧ a ≤ 1000000000000) (hk : 5 ≤ k) : Yl (spec_l1Cur_among_2.f k l a s xs) fun r => r.2.1 = l ∧ r.2.2.2.2 = xs ∧ a ≤ r.2.2.1 ∧ r.2.2.1 ≤ a + 2 ∧ lo ≤ r.1 ∧ r.1 ≤ hi := by
  unfold spec_l1Cur_among_2.f spec_l1Cur_among_2.m
  refine Yl.bind (pick_ok k s _ hb h hk) ?_
  rintro ⟨b, l', a', s'⟩ ⟨e1, e2, e3, e4, e5, e6⟩
  dsimp only at *
  rw [chk_int (by omega)]; simp only [Option.bind_some]
  have hi : b.toNat < xs.length := by omega
  have := hm _ (List.getElem_mem hi)
  rw [getD_lt hi]
  exact Yl.ret ⟨e1, rfl, e2, e3, this⟩
theorem among_any (k : Nat) {l : List Int} {a : Int} (s : Int) {xs : List Int} (hx : 0 < xs.length ∧ xs.length ≤ 60000) (hb : By l) (h : 0 ≤ a ∧ a ≤ 1000000000000) (hk : 5 ≤ k) : Yl (spec_l1Cur_among_2.f k l a s xs) fun r => r.2.1 = l ∧ r.2.2.2.2 = xs ∧ a ≤ r.2.2.1 ∧ r.2.2.1 ≤ a + 2 := by
  unfold spec_l1Cur_among_2.f spec_l1Cur_among_2.m
  refine Yl.bind (pick_ok k s _ hb h hk) ?_
  rintro ⟨b, l', a', s'⟩ ⟨e1, e2, e3, e4, e5, e6⟩
  dsimp only at *
  rw [chk_int (by omega)]; simp only [Option.bind_some]
  exact Yl.ret ⟨e1, rfl, e2, e3⟩
theorem quo2 {x : Int} {β : Type} {f : Int → Option β} {P : β → Prop} (h : ∀ q, Yl (f q) P) : Yl ((quo .i64 x 2).bind f) P := by
  unfold quo; rw [if_neg (by omega)]; exact h _
theorem most_ok (k : Nat) (a b : Int) : Yl (spec_l1Most.f k a b) fun r => a ≤ r ∧ b ≤ r ∧ (r = a ∨ r = b) := by
  unfold spec_l1Most.f spec_l1Most.m
  exact Yl.ite (fun h => Yl.ret ⟨by omega, by omega, by omega⟩) fun h => Yl.ret ⟨by omega, by omega, by omega⟩
def colorB (x : Int) : Bool := inB x 0 5
def goodB (w h : Int) (l : List Int) : Bool := inB w 1 8 && inB h 1 8 && decide ((l.length : Int) = w * h) && l.all colorB
theorem mul_bd {w h : Int} (hw : 1 ≤ w ∧ w ≤ 8) (hh : 1 ≤ h ∧ h ≤ 8) : 1 ≤ w * h ∧ w * h ≤ 64 := by
  obtain ⟨a, b⟩ := hw; obtain ⟨c, d⟩ := hh
  have h1 : w = 1 ∨ w = 2 ∨ w = 3 ∨ w = 4 ∨ w = 5 ∨ w = 6 ∨ w = 7 ∨ w = 8 := by omega
  rcases h1 with rfl | rfl | rfl | rfl | rfl | rfl | rfl | rfl <;> omega
theorem good_of {w h : Int} {l : List Int} (hg : goodB w h l = true) : (1 ≤ w ∧ w ≤ 8) ∧ (1 ≤ h ∧ h ≤ 8) ∧ (l.length : Int) = w * h ∧ ∀ x ∈ l, 0 ≤ x ∧ x ≤ 5 := by
  unfold goodB at hg
  simp only [Bool.and_eq_true, decide_eq_true_eq, List.all_eq_true, inB_iff] at hg
  exact ⟨hg.1.1.1, hg.1.1.2, hg.1.2, fun x hx => inB_iff.1 (hg.2 x hx)⟩
theorem allI_iff (p : Int → Bool) (xs : List Int) : xs.all p = true ↔ ∀ i, i < xs.length → p (xs.getD i 0) = true := by
  rw [List.all_eq_true]
  constructor
  · intro h i hi; rw [getD_lt hi]; exact h _ (List.getElem_mem hi)
  · intro h x hx
    obtain ⟨i, hi, rfl⟩ := List.mem_iff_getElem.1 hx
    rw [← getD_lt (d := 0) hi]; exact h i hi
theorem specIn_eq (k : Nat) (n lo hi : Int) : spec_l1In.f k n lo hi = some (inB n lo hi) := by
  unfold spec_l1In.f spec_l1In.m inB; by_cases h : lo ≤ n <;> simp [h]
theorem implIn_eq (k : Nat) (n lo hi : Int) : impl_in.f k n lo hi = some (inB n lo hi) := by
  unfold impl_in.f impl_in.m inB; by_cases h : lo ≤ n <;> simp [h]
theorem l2Color_eq (k : Nat) (n : Int) : spec_l2Color.f k n = some (colorB n) := by unfold spec_l2Color.f spec_l2Color.m; rw [specIn_eq]; rfl
theorem l2Side_eq (k : Nat) (n : Int) : spec_l2Side.f k n = some (inB n 1 8) := by unfold spec_l2Side.f spec_l2Side.m; rw [specIn_eq]; rfl
theorem isColor_eq (k : Nat) (n : Int) : impl_isColor.f k n = some (colorB n) := by unfold impl_isColor.f impl_isColor.m; rw [implIn_eq]; rfl
theorem isSide_eq (k : Nat) (n : Int) : impl_isSide.f k n = some (inB n 1 8) := by unfold impl_isSide.f impl_isSide.m; rw [implIn_eq]; rfl
theorem l2Good_eq (k : Nat) (w h : Int) (l : List Int) (hl : l.length ≤ 100000000000000) (hk : l.length + 50 ≤ k) : spec_l2Good.f k w h l = some (goodB w h l) := by
  unfold spec_l2Good.f spec_l2Good.m
  have hq := (all_loop (L := fun k i => spec_l2Good.l3 k w h l (i : Int)) (n := l.length) (K0 := 20) (ok := fun i => colorB (l.getD i 0)) (f := some false) (fun k i hk hi => ?_)) l.length k 0 (by omega) (by omega)
  · rw [show ((0 : Nat) : Int) = 0 from rfl] at hq
    by_cases hc : l.all colorB = true
    · rw [hq.1 _ (fun k hk => ?_) (fun j _ hj => (allI_iff _ _).1 hc j hj)]
      simp (disch := omega) only [spec_l2Good.l3, spec_l2Good.b3, if_neg, l2Side_eq, Option.bind_some]
      unfold goodB
      cases e1 : inB w 1 8 <;> simp only [Bool.not_true, Bool.not_false, cond_true, cond_false, Bool.true_and, Bool.false_and, Bool.and_true, Bool.and_false, Bool.false_eq_true, Bool.true_or, Bool.or_true, Bool.false_or, Bool.or_false, Bool.or_self, Bool.and_self, decide_true, decide_false, if_true, if_false, not_true, not_false_eq_true, not_true_eq_false, false_or, or_false, true_and, and_true, Bool.not_eq_true, Bool.true_eq_false, reduceCtorEq]
      cases e2 : inB h 1 8 <;> simp only [Bool.not_true, Bool.not_false, cond_true, cond_false, Bool.true_and, Bool.false_and, Bool.and_true, Bool.and_false, Bool.false_eq_true, Bool.true_or, Bool.or_true, Bool.false_or, Bool.or_false, Bool.or_self, Bool.and_self, decide_true, decide_false, if_true, if_false, not_true, not_false_eq_true, not_true_eq_false, false_or, or_false, true_and, and_true, Bool.not_eq_true, Bool.true_eq_false, reduceCtorEq, hc, Option.bind_some]
      have := mul_bd (inB_iff.1 e1) (inB_iff.1 e2)
      rw [w64_id (by omega)]
    · rw [hq.2 (exists_bad fun hn => hc ((allI_iff _ _).2 hn))]
      unfold goodB; rw [notB hc]; simp
  · simp (disch := omega) only [spec_l2Good.l3, spec_l2Good.b3, if_pos, chk_nat, Option.bind_some, w64_id, l2Color_eq, Int.natCast_add, Int.cast_ofNat_Int]
    cases colorB (l.getD i 0) <;> simp only [Bool.not_true, Bool.not_false, cond_true, cond_false, Bool.true_and, Bool.false_and, Bool.and_true, Bool.and_false, Bool.false_eq_true, Bool.true_or, Bool.or_true, Bool.false_or, Bool.or_false, Bool.or_self, Bool.and_self, decide_true, decide_false, if_true, if_false, not_true, not_false_eq_true, not_true_eq_false, false_or, or_false, true_and, and_true, Bool.not_eq_true, Bool.true_eq_false, reduceCtorEq]
theorem areColors_eq (k : Nat) (l : List Int) (hl : l.length ≤ 100000000000000) (hk : l.length + 50 ≤ k) : impl_areAll_int__impl_isColor.f k l = some (l.all colorB) := by
  unfold impl_areAll_int__impl_isColor.f impl_areAll_int__impl_isColor.m slices_ContainsFunc_int_int__impl_areAll_int_1__impl_isColor.f slices_ContainsFunc_int_int__impl_areAll_int_1__impl_isColor.m slices_IndexFunc_int_int__impl_areAll_int_1__impl_isColor.f slices_IndexFunc_int_int__impl_areAll_int_1__impl_isColor.m
  have h := (find_loop (L := fun k i => slices_IndexFunc_int_int__impl_areAll_int_1__impl_isColor.l3 k l l.length (i : Int)) (n := l.length) (K0 := 20) (ok := fun i => !colorB (l.getD i 0)) (fun k i hk hi => ?_) (fun k hk => ?_)) l.length k 0 (by omega) (by omega)
  · rw [show ((0 : Nat) : Int) = 0 from rfl] at h
    by_cases ha : l.all colorB = true
    · rw [h.1 (fun j _ hj => by rw [(allI_iff _ _).1 ha j hj]; rfl), ha]; rfl
    · obtain ⟨m, h1, h2, h3⟩ := first_bad (n := l.length) (ok := fun i => colorB (l.getD i 0)) (fun hn => ha ((allI_iff _ _).2 hn))
      rw [h.2 m (Nat.zero_le _) h1 (by rw [h2]; rfl) (fun j _ hj => by rw [h3 j hj]; rfl), notB ha]
      simp
  · simp (disch := omega) only [slices_IndexFunc_int_int__impl_areAll_int_1__impl_isColor.l3, slices_IndexFunc_int_int__impl_areAll_int_1__impl_isColor.b3, impl_areAll_int_1__impl_isColor.f, impl_areAll_int_1__impl_isColor.m, isColor_eq, if_pos, chk_nat, Option.bind_some, w64_id, Int.natCast_add, Int.cast_ofNat_Int]
    cases colorB (l.getD i 0) <;> simp only [Bool.not_true, Bool.not_false, cond_true, cond_false, Bool.true_and, Bool.false_and, Bool.and_true, Bool.and_false, Bool.false_eq_true, Bool.true_or, Bool.or_true, Bool.false_or, Bool.or_false, Bool.or_self, Bool.and_self, decide_true, decide_false, if_true, if_false, not_true, not_false_eq_true, not_true_eq_false, false_or, or_false, true_and, and_true, Bool.not_eq_true, Bool.true_eq_false, reduceCtorEq]
  · simp (disch := omega) only [slices_IndexFunc_int_int__impl_areAll_int_1__impl_isColor.l3, slices_IndexFunc_int_int__impl_areAll_int_1__impl_isColor.b3, if_neg]
theorem isChart_eq (k : Nat) (w h : Int) (l : List Int) (hl : l.length ≤ 100000000000000) (hk : l.length + 50 ≤ k) : impl_IsChart.f k w h l = some (goodB w h l) := by
  unfold impl_IsChart.f impl_IsChart.m goodB
  rw [isSide_eq, isSide_eq, areColors_eq k l hl hk]
  simp only [Option.bind_some]
  cases e1 : inB w 1 8 <;> simp only [Bool.not_true, Bool.not_false, cond_true, cond_false, Bool.true_and, Bool.false_and, Bool.and_true, Bool.and_false, Bool.false_eq_true, Bool.true_or, Bool.or_true, Bool.false_or, Bool.or_false, Bool.or_self, Bool.and_self, decide_true, decide_false, if_true, if_false, not_true, not_false_eq_true, not_true_eq_false, false_or, or_false, true_and, and_true, Bool.not_eq_true, Bool.true_eq_false, reduceCtorEq]
  cases e2 : inB h 1 8 <;> simp only [Bool.not_true, Bool.not_false, cond_true, cond_false, Bool.true_and, Bool.false_and, Bool.and_true, Bool.and_false, Bool.false_eq_true, Bool.true_or, Bool.or_true, Bool.false_or, Bool.or_false, Bool.or_self, Bool.and_self, decide_true, decide_false, if_true, if_false, not_true, not_false_eq_true, not_true_eq_false, false_or, or_false, true_and, and_true, Bool.not_eq_true, Bool.true_eq_false, reduceCtorEq]
  have := mul_bd (inB_iff.1 e1) (inB_iff.1 e2)
  rw [w64_id (by omega)]
  by_cases e : (l.length : Int) = w * h <;> simp [e]
theorem cloneI_eq (k : Nat) (cs : List Int) (hl : cs.length ≤ 5000000) : slices_Clone_int_int.f k cs = some cs := by unfold slices_Clone_int_int.f; rw [app_ok (by simp; omega)]; rfl
theorem ownI_eq (k : Nat) (cs : List Int) (hl : cs.length ≤ 5000000) : spec_l1Own.f k cs = some cs := by unfold spec_l1Own.f spec_l1Own.m; rw [app_ok (by simp; omega)]; rfl
theorem copied_eq (k : Nat) (w h : Int) (l : List Int) (hl : l.length ≤ 5000000) : impl_Chart_copied.f k w h l = some (w, h, l) := by unfold impl_Chart_copied.f impl_Chart_copied.m; rw [cloneI_eq k l hl]; rfl
theorem l2Own_eq (k : Nat) (w h : Int) (l : List Int) (hl : l.length ≤ 5000000) : spec_l2Own.f k w h l = some (w, h, l) := by unfold spec_l2Own.f spec_l2Own.m; rw [ownI_eq k l hl]; rfl
theorem nat_mul_cast (a b : Nat) : ((a * b : Nat) : Int) = (a : Int) * b := Int.natCast_mul a b
theorem lenN {w h : Nat} {l : List Int} (hl : (l.length : Int) = (w : Int) * (h : Int)) : l.length = w * h := by rw [← nat_mul_cast] at hl; omega
theorem specAt_eq (k : Nat) (w h : Int) (l : List Int) (r c : Int) (n : Nat) (hn : r * w + c = n) (hl : n < l.length) (hb : 0 ≤ r * w ∧ r * w ≤ 1000 ∧ 0 ≤ c ∧ c ≤ 1000) : spec_l2At.f k w h l r c = some (l.getD n 0) := by
  unfold spec_l2At.f spec_l2At.m
  generalize r * w = q at *
  simp (disch := omega) only [w64_id, hn, chk_nat, Option.bind_some]
theorem implAt_eq (k : Nat) (w h : Int) (l : List Int) (r c : Int) (n : Nat) (hn : r * w + c = n) (hl : n < l.length) (hb : 0 ≤ r * w ∧ r * w ≤ 1000 ∧ 0 ≤ c ∧ c ≤ 1000) : impl_Chart_at.f k w h l r c = some (l.getD n 0) := by
  unfold impl_Chart_at.f impl_Chart_at.m
  generalize r * w = q at *
  simp (disch := omega) only [w64_id, hn, chk_nat, Option.bind_some]
theorem plain_l (w h : Nat) (hw : w ≤ 16) (hh : h ≤ 16) : ∀ (d k i : Nat) (l : List Int) (a s : Int) (kn : List Int), i + d = w * h → kn.length = i → (∀ x ∈ kn, 0 ≤ x ∧ x ≤ 5) → By l → 0 ≤ a ∧ a + 4 * d ≤ 1000000000 → 20 + d ≤ k → Yl (spec_l1Cur_plain.l4 k l a s w h 0 0 [] w h kn (i : Int)) fun r => r.1 = (w : Int) ∧ r.2.1 = (h : Int) ∧ r.2.2.2.1 = l ∧ (∀ x ∈ r.2.2.1, 0 ≤ x ∧ x ≤ 5) ∧ (r.2.2.1.length = w * h ∧ a ≤ r.2.2.2.2.1 ∧ r.2.2.2.2.1 ≤ a + 4 * d) := by
  have hN : w * h ≤ 256 := Nat.le_trans (Nat.mul_le_mul hw hh) (by decide)
  have hc : ((w : Int) * (h : Int)) = ((w * h : Nat) : Int) := by rw [Int.natCast_mul]
  intro d
  induction d with
  | zero =>
    intro k i l a s kn h1 h2 hx hb h3 h4
    obtain ⟨k, rfl⟩ := succ_of (show 0 < k by omega)
    simp only [spec_l1Cur_plain.l4, spec_l1Cur_plain.b4]
    rw [hc, w64_id (by omega), if_neg (by omega)]
    exact Yl.ret ⟨rfl, rfl, rfl, hx, by dsimp only; omega⟩
  | succ d ih =>
    intro k i l a s kn h1 h2 hx hb h3 h4
    obtain ⟨k, rfl⟩ := succ_of (show 0 < k by omega)
    simp only [spec_l1Cur_plain.l4, spec_l1Cur_plain.b4]
    have hsnoc : ∀ x : Int, 0 ≤ x ∧ x ≤ 5 → ∀ y ∈ kn ++ [x], 0 ≤ y ∧ y ≤ 5 := fun x hx0 y hy => by
      rcases List.mem_append.1 hy with h | h
      · exact hx y h
      · rw [List.mem_singleton] at h; subst h; exact hx0
    rw [hc, w64_id (by omega), if_pos (by omega), w64_id (x := (i : Int) + 1) (by omega), show ((i : Int) + 1) = ((i + 1 : Nat) : Int) by omega]
    (refine Yl.bind (among_ok _ _ 0 5 (by simp) (by intro x hx; simp at hx; omega) (by assumption) (by omega) (by omega)) ?_; rintro ⟨vq, lq, aq, sq, xq⟩ ⟨eq1, eq2, eq3, eq4, eq5, eq6⟩; dsimp only at *; subst eq1; subst eq2)
    refine Yl.ite (fun hwi => ?_) fun _ => ?_
    · (refine Yl.bind (one_ok _ _ _ (by assumption) (by omega) (by omega)) ?_; rintro ⟨vq, lq, aq, sq⟩ ⟨eq1, eq2, eq3⟩; dsimp only at *; subst eq1)
      refine Yl.cond (fun _ => ?_) fun _ => ?_
      · have hw1 : 1 ≤ w := by
          rcases Nat.eq_zero_or_pos w with h | h
          · subst h; rw [Nat.zero_mul] at h1; omega
          · exact h
        rw [w64_id (by omega), chk_int (by omega)]; simp only [Option.bind_some]
        rw [app_ok (by simp; omega)]; simp only [Option.bind_some]
        refine (ih k (i + 1) _ _ _ _ (by omega) (by simp; omega) (hsnoc _ ?_) (by assumption) (by omega) (by omega)).mono fun r hr => ⟨hr.1, hr.2.1, hr.2.2.1, hr.2.2.2.1, by omega⟩
        rw [getD_lt (by omega)]; exact hx _ (List.getElem_mem _)
      · rw [app_ok (by simp; omega)]; simp only [Option.bind_some]
        exact (ih k (i + 1) _ _ _ _ (by omega) (by simp; omega) (hsnoc _ (by omega)) (by assumption) (by omega) (by omega)).mono fun r hr => ⟨hr.1, hr.2.1, hr.2.2.1, hr.2.2.2.1, by omega⟩
    · rw [app_ok (by simp; omega)]; simp only [Option.bind_some]
      exact (ih k (i + 1) _ _ _ _ (by omega) (by simp; omega) (hsnoc _ (by omega)) (by assumption) (by omega) (by omega)).mono fun r hr => ⟨hr.1, hr.2.1, hr.2.2.1, hr.2.2.2.1, by omega⟩
theorem plain_ok (k : Nat) {l : List Int} {a : Int} (s : Int) {w h : Int} (hw : 0 ≤ w ∧ w ≤ 16) (hh : 0 ≤ h ∧ h ≤ 16) (hb : By l) (ha : 0 ≤ a ∧ a ≤ 100000000) (hk : 1000 ≤ k) : Yl (spec_l1Cur_plain.f k l a s w h) fun r => r.1 = w ∧ r.2.1 = h ∧ r.2.2.2.1 = l ∧ (∀ x ∈ r.2.2.1, 0 ≤ x ∧ x ≤ 5) ∧ (r.2.2.1.length : Int) = w * h ∧ (r.2.2.1.length ≤ 256 ∧ a ≤ r.2.2.2.2.1 ∧ r.2.2.2.2.1 ≤ a + 1100) := by
  obtain ⟨w, rfl⟩ := Int.eq_ofNat_of_zero_le hw.1
  obtain ⟨h, rfl⟩ := Int.eq_ofNat_of_zero_le hh.1
  have hN : w * h ≤ 256 := Nat.le_trans (Nat.mul_le_mul (show w ≤ 16 by omega) (show h ≤ 16 by omega)) (by decide)
  unfold spec_l1Cur_plain.f spec_l1Cur_plain.m
  refine (plain_l w h (by omega) (by omega) (w * h) k 0 l a s [] (by omega) rfl (by simp) hb (by omega) (by omega)).mono fun r hr => ⟨hr.1, hr.2.1, hr.2.2.1, hr.2.2.2.1, ?_, by omega⟩
  have := hr.2.2.2.2.1
  rw [this, Int.natCast_mul]
theorem good_plain {w h : Int} {kn : List Int} (hw : 1 ≤ w ∧ w ≤ 8) (hh : 1 ≤ h ∧ h ≤ 8) (hx : ∀ x ∈ kn, 0 ≤ x ∧ x ≤ 5) (hl : (kn.length : Int) = w * h) : goodB w h kn = true := by
  unfold goodB
  simp only [Bool.and_eq_true, decide_eq_true_eq, List.all_eq_true, inB_iff]
  exact ⟨⟨⟨hw, hh⟩, hl⟩, fun x h => inB_of (hx x h)⟩
theorem chart_ok (k : Nat) {l : List Int} {a : Int} (s : Int) (hb : By l) (ha : 0 ≤ a ∧ a ≤ 1000000) (hk : 2000 ≤ k) : Yl (spec_l1Cur_chart.f k l a s) fun r => r.2.2.2.1 = l ∧ (r.2.2.1.length ≤ 300 ∧ -1 ≤ r.1 ∧ r.1 ≤ 9 ∧ -1 ≤ r.2.1 ∧ r.2.1 ≤ 9 ∧ a ≤ r.2.2.2.2.1 ∧ r.2.2.2.2.1 ≤ a + 3000) := by
  unfold spec_l1Cur_chart.f spec_l1Cur_chart.m
  refine Yl.bind (among_ok _ _ 1 8 (by simp) (by intro x hx; simp at hx; omega) hb (by omega) (by omega)) ?_
  rintro ⟨w, l', a', s', x'⟩ ⟨e1, e2, e3, e4, e5, e6⟩
  dsimp only at *; subst e1
  refine Yl.bind (among_ok _ _ 1 8 (by simp) (by intro x hx; simp at hx; omega) hb (by omega) (by omega)) ?_
  rintro ⟨h, l', a2, s2, x2⟩ ⟨e1, f2, f3, f4, f5, f6⟩
  dsimp only at *; subst e1
  refine Yl.bind (plain_ok k s2 (w := w) (h := h) (by omega) (by omega) hb (by omega) (by omega)) ?_
  rintro ⟨w', h', kn, l', a3, s3⟩ ⟨g1, g2, e1, g3, g4, g5⟩
  dsimp only at *; subst e1; subst g1; subst g2
  have hm := mul_bd (w := w') (h := h') (by omega) (by omega)
  refine Yl.bind (pick_ok _ _ _ hb (by omega) (by omega)) ?_
  rintro ⟨n, l', a4, s4⟩ ⟨e1, i2, i3, i4, i5, i6⟩
  dsimp only at *; subst e1
  refine Yl.ite (fun _ => ?_) fun _ => ?_
  · refine Yl.bind (pick_ok _ _ _ hb (by omega) (by omega)) ?_
    rintro ⟨m, l', a5, s5⟩ ⟨e1, j2, j3, j4, j5, j6⟩
    dsimp only at *; subst e1
    (refine Yl.bind (among_any _ _ (by simp) (by assumption) (by omega) (by omega)) ?_; rintro ⟨vq, lq, aq, sq, xq⟩ ⟨eq1, eq2, eq3, eq4⟩; dsimp only at *; subst eq1; subst eq2)
    rw [chk_int (by omega)]; simp only [Option.bind_some]
    exact Yl.ret ⟨rfl, by dsimp only; rw [List.length_set]; omega⟩
  refine Yl.ite (fun _ => ?_) fun _ => ?_
  · rw [app_ok (by simp; omega)]; simp only [Option.bind_some]
    exact Yl.ret ⟨rfl, by dsimp only; rw [List.length_append, List.length_singleton]; omega⟩
  refine Yl.ite (fun _ => ?_) fun _ => ?_
  · refine Yl.bind (among_ok _ _ 0 9 (by simp) (by intro x hx; simp at hx; omega) hb (by omega) (by omega)) ?_
    rintro ⟨w2, l', a6, s6, x6⟩ ⟨e1, n2, n3, n4, n5, n6⟩
    dsimp only at *; subst e1
    refine Yl.bind (plain_ok k s6 (w := w2) (h := 1) (by omega) (by omega) hb (by omega) (by omega)) ?_
    rintro ⟨w', h', kn, l', a3, s3⟩ ⟨p1, p2, e1, p3, p4, p5⟩
    dsimp only at *; subst e1; subst p1; subst p2
    exact Yl.ret ⟨rfl, by dsimp only; omega⟩
  exact Yl.ret ⟨rfl, by dsimp only; omega⟩
def splice (l : List Int) (b : Nat) (ys : List Int) : List Int := l.take b ++ (ys ++ l.drop (b + ys.length))
theorem splice_len {l : List Int} {b : Nat} {ys : List Int} (h : b + ys.length ≤ l.length) : (splice l b ys).length = l.length := by unfold splice; simp; omega
theorem splice_nil (l : List Int) (b : Nat) : splice l b [] = l := by unfold splice; simp
theorem splice_set {l : List Int} {b j : Nat} {ys : List Int} (hj : j < ys.length) (h : b + ys.length ≤ l.length) : (splice l b (ys.take j)).set (b + j) ys[j] = splice l b (ys.take (j + 1)) := by
  unfold splice
  have hl : (ys.take j).length = j := by rw [List.length_take]; omega
  have hl1 : (ys.take (j + 1)).length = j + 1 := by rw [List.length_take]; omega
  rw [hl, hl1, List.drop_eq_getElem_cons (show b + j < l.length by omega), ← List.append_assoc]
  have hb : b + j = (l.take b ++ ys.take j).length := by rw [List.length_append, hl, List.length_take]; omega
  have hs := set_mid (l.take b ++ ys.take j) (l[b + j]'(by omega)) ys[j] (l.drop (b + j + 1))
  rw [← hb] at hs
  rw [hs, List.take_succ_eq_append_getElem hj]
  simp only [List.append_assoc, List.cons_append, List.nil_append, Nat.add_assoc]
theorem lay_splice {l : List Int} {b : Nat} {ys : List Int} (h : b + ys.length ≤ l.length) : lay l b (l.length - b) ys = splice l b ys := by
  unfold lay splice
  rw [List.take_of_length_le (l := ys) (by omega), Nat.min_eq_left (by omega)]
/-- A chart after so many rows of a part. -/
def putR (w R C W : Nat) (p : List Int) : Nat → Nat → List Int → List Int
  | 0, _, l => l
  | d + 1, r, l => putR w R C W p d (r + 1) (splice l ((R + r) * w + C) ((p.drop (r * W)).take W))
theorem putR_len (w h R C W H : Nat) (p : List Int) (hp : p.length = W * H) (hC : C + W ≤ w) : ∀ (d r : Nat) (l : List Int), r + d = H → R + H ≤ h → l.length = w * h → (putR w R C W p d r l).length = w * h := by
  intro d
  induction d with
  | zero => intro r l _ _ h; exact h
  | succ d ih =>
    intro r l h1 h2 h3
    unfold putR
    refine ih (r + 1) _ (by omega) h2 ?_
    rw [splice_len ?_, h3]
    have : (R + r) * w + w ≤ h * w := by rw [← Nat.succ_mul]; exact Nat.mul_le_mul_right _ (by omega)
    have h4 : ((p.drop (r * W)).take W).length ≤ W := by rw [List.length_take]; omega
    rw [h3, Nat.mul_comm w h]; omega
theorem row_len {p : List Int} {W H r : Nat} (hp : p.length = W * H) (hr : r < H) : ((p.drop (r * W)).take W).length = W := by
  have : r * W + W ≤ H * W := by rw [← Nat.succ_mul]; exact Nat.mul_le_mul_right _ hr
  rw [List.length_take, List.length_drop, hp, Nat.mul_comm W H]; omega
theorem implPut_l {w h R C W H : Nat} {l0 p : List Int} (hw : w ≤ 8) (hh : h ≤ 8) (hp : p.length = W * H) (hC : C + W ≤ w) (hR : R + H ≤ h) (hW : 1 ≤ W) : ∀ (d k r : Nat) (l : List Int), r + d = H → d < k → l.length = w * h → impl_Chart_put.l4 k (R : Int) (C : Int) (w : Int) (h : Int) l0 (W : Int) (H : Int) p 0 0 [] (w : Int) (h : Int) l (H : Int) (r : Int) = some ((w : Int), (h : Int), putR w R C W p d r l) := by
  intro d
  induction d with
  | zero =>
    intro k r l h1 h2 h3
    obtain ⟨k, rfl⟩ := succ_of h2
    simp (disch := omega) only [impl_Chart_put.l4, impl_Chart_put.b4, if_neg, putR]
  | succ d ih =>
    intro k r l h1 h2 h3
    obtain ⟨k, rfl⟩ := succ_of (show 0 < k by omega)
    have hrow := row_len hp (show r < H by omega)
    have b1 : (R + r) * w + w ≤ h * w := by rw [← Nat.succ_mul]; exact Nat.mul_le_mul_right _ (by omega)
    have b2 : h * w ≤ 64 := Nat.le_trans (Nat.mul_le_mul hh hw) (by omega)
    have b3 : r * W + W ≤ H * W := by rw [← Nat.succ_mul]; exact Nat.mul_le_mul_right _ (by omega)
    have b4 : H * W ≤ 64 := Nat.le_trans (Nat.mul_le_mul (show H ≤ 8 by omega) (show W ≤ 8 by omega)) (by omega)
    have e1 : ((R : Int) + (r : Int)) * (w : Int) = (((R + r) * w : Nat) : Int) := by rw [nat_mul_cast, Int.natCast_add]
    have e2 : (r : Int) * (W : Int) = ((r * W : Nat) : Int) := (nat_mul_cast _ _).symm
    have e3 : ((r : Int) + 1) * (W : Int) = ((r * W + W : Nat) : Int) := by rw [← Nat.succ_mul, nat_mul_cast]; rfl
    have hlen : l.length = h * w := by rw [h3, Nat.mul_comm]
    have hplen : p.length = H * W := by rw [hp, Nat.mul_comm]
    have h4 := ih k (r + 1) (splice l ((R + r) * w + C) ((p.drop (r * W)).take W)) (by omega) (by omega) (by rw [splice_len (by rw [hrow]; omega)]; exact h3)
    rw [show ((r + 1 : Nat) : Int) = (r : Int) + 1 by omega] at h4
    unfold putR
    generalize (R + r) * w = bb at *
    generalize r * W = cc at *
    simp (disch := omega) only [impl_Chart_put.l4, impl_Chart_put.b4, if_pos, w64_id, e1, e2, e3, cut_int, Option.bind_some]
    rw [show (((bb : Int) + (C : Int)).toNat) = bb + C by omega, Int.toNat_natCast, Int.toNat_natCast, Int.toNat_natCast, show cc + W - cc = W by omega, lay_splice (by rw [hrow]; omega)]
    exact h4
theorem specPut_l9 {w h R C W H : Nat} {l0 p : List Int} (hw : w ≤ 8) (hh : h ≤ 8) (hp : p.length = W * H) (hC : C + W ≤ w) (hR : R + H ≤ h) (r : Nat) (hr : r < H) (l : List Int) (h3 : l.length = w * h) : ∀ (d k j : Nat), j + d = W → d + 2 < k → spec_l2Put.l9 k (R : Int) (C : Int) (w : Int) (h : Int) l0 (W : Int) (H : Int) p 0 0 [] (w : Int) (h : Int) (splice l ((R + r) * w + C) (((p.drop (r * W)).take W).take j)) (r : Int) (j : Int) = spec_l2Put.l4 (k - d - 1) (R : Int) (C : Int) (w : Int) (h : Int) l0 (W : Int) (H : Int) p 0 0 [] (w : Int) (h : Int) (splice l ((R + r) * w + C) ((p.drop (r * W)).take W)) ((r + 1 : Nat) : Int) := by
  have hrow := row_len hp hr
  have b1 : (R + r) * w + w ≤ h * w := by rw [← Nat.succ_mul]; exact Nat.mul_le_mul_right _ (by omega)
  have b2 : h * w ≤ 64 := Nat.le_trans (Nat.mul_le_mul hh hw) (by omega)
  have b3 : r * W + W ≤ H * W := by rw [← Nat.succ_mul]; exact Nat.mul_le_mul_right _ (by omega)
  have b4 : H * W ≤ 64 := Nat.le_trans (Nat.mul_le_mul (show H ≤ 8 by omega) (show W ≤ 8 by omega)) (by omega)
  have e1 : ((R : Int) + (r : Int)) * (w : Int) = (((R + r) * w : Nat) : Int) := by rw [nat_mul_cast, Int.natCast_add]
  have hlen : l.length = h * w := by rw [h3, Nat.mul_comm]
  have hplen : p.length = H * W := by rw [hp, Nat.mul_comm]
  intro d
  induction d with
  | zero =>
    intro k j h1 h2
    obtain ⟨k, rfl⟩ := succ_of (show 0 < k by omega)
    simp (disch := omega) only [spec_l2Put.l9, spec_l2Put.b9, if_neg, w64_id]
    rw [List.take_of_length_le (l := (p.drop (r * W)).take W) (by omega), show ((r + 1 : Nat) : Int) = (r : Int) + 1 by omega]; rfl
  | succ d ih =>
    intro k j h1 h2
    obtain ⟨k, rfl⟩ := succ_of (show 0 < k by omega)
    have h4 := ih k (j + 1) (by omega) (by omega)
    have hat := specAt_eq k (W : Int) (H : Int) p (r : Int) (j : Int) (r * W + j) (by rw [← nat_mul_cast]; omega) (by omega) (by rw [← nat_mul_cast]; omega)
    have hg : p.getD (r * W + j) 0 = ((p.drop (r * W)).take W)[j]'(by omega) := by
      rw [getD_lt (by omega), List.getElem_take, List.getElem_drop]
    have hset := splice_set (l := l) (b := (R + r) * w + C) (ys := (p.drop (r * W)).take W) (j := j) (by omega) (by rw [hrow]; omega)
    have hsl : (splice l ((R + r) * w + C) (((p.drop (r * W)).take W).take j)).length = l.length := splice_len (by rw [List.length_take, hrow]; omega)
    rw [show k + 1 - (d + 1) - 1 = k - d - 1 by omega, ← h4, ← hset, show ((j + 1 : Nat) : Int) = (j : Int) + 1 by omega]
    simp only [spec_l2Put.l9, spec_l2Put.b9]
    rw [if_pos (by omega), hat]
    simp (disch := omega) only [Option.bind_some, w64_id, e1, hg]
    generalize (R + r) * w = bb at *
    rw [show ((bb : Int) + (C : Int) + (j : Int)) = ((bb + C + j : Nat) : Int) by omega, chk_nat (by omega)]
    rfl
theorem specPut_l {w h R C W H : Nat} {l0 p : List Int} (hw : w ≤ 8) (hh : h ≤ 8) (hp : p.length = W * H) (hC : C + W ≤ w) (hR : R + H ≤ h) (hW : 1 ≤ W) : ∀ (d k r : Nat) (l : List Int), r + d = H → d * (W + 2) + 5 < k → l.length = w * h → spec_l2Put.l4 k (R : Int) (C : Int) (w : Int) (h : Int) l0 (W : Int) (H : Int) p 0 0 [] (w : Int) (h : Int) l (r : Int) = some ((w : Int), (h : Int), putR w R C W p d r l) := by
  intro d
  induction d with
  | zero =>
    intro k r l h1 h2 h3
    obtain ⟨k, rfl⟩ := succ_of (show 0 < k by omega)
    simp (disch := omega) only [spec_l2Put.l4, spec_l2Put.b4, if_neg, putR]
  | succ d ih =>
    intro k r l h1 h2 h3
    obtain ⟨k, rfl⟩ := succ_of (show 0 < k by omega)
    have hrow := row_len hp (show r < H by omega)
    have b1 : (R + r) * w + w ≤ h * w := by rw [← Nat.succ_mul]; exact Nat.mul_le_mul_right _ (by omega)
    have hlen : l.length = h * w := by rw [h3, Nat.mul_comm]
    rw [Nat.succ_mul] at h2
    have h5 := specPut_l9 (l0 := l0) hw hh hp hC hR r (by omega) l h3 W k 0 (by omega) (by omega)
    rw [List.take_zero, splice_nil, show ((0 : Nat) : Int) = 0 from rfl] at h5
    simp (disch := omega) only [spec_l2Put.l4, spec_l2Put.b4, if_pos]
    rw [h5]
    exact ih _ (r + 1) _ (by omega) (by omega) (by rw [splice_len (by rw [hrow]; omega)]; exact h3)
def fitsB (w h : Int) (R C H W : Int) : Bool := inB R 0 (h - 1) && inB C 0 (w - 1) && inB H 1 (h - R) && inB W 1 (w - C)
def putOut (w h : Int) (l : List Int) (W H : Int) (p : List Int) (R C : Int) : Int × Int × List Int × Bool :=
  if goodB w h l = true ∧ goodB W H p = true ∧ fitsB w h R C H W = true then (w, h, putR w.toNat R.toNat C.toNat W.toNat p H.toNat 0 l, true) else (0, 0, [], false)
theorem fits_of {w h R C H W : Int} (hf : fitsB w h R C H W = true) : (0 ≤ R ∧ 0 ≤ C) ∧ (1 ≤ H ∧ R + H ≤ h) ∧ (1 ≤ W ∧ C + W ≤ w) := by
  unfold fitsB at hf
  simp only [Bool.and_eq_true, inB_iff] at hf
  omega
theorem put_both (w h : Int) (l : List Int) (W H : Int) (p : List Int) (R C : Int) (h1 : goodB w h l = true) (h2 : goodB W H p = true) (h3 : fitsB w h R C H W = true) (k : Nat) (hk : 200 ≤ k) : spec_l2Put.f k w h l W H p R C = some (w, h, putR w.toNat R.toNat C.toNat W.toNat p H.toNat 0 l) ∧ impl_Chart_put.f k w h l W H p R C = some (w, h, putR w.toNat R.toNat C.toNat W.toNat p H.toNat 0 l) := by
  obtain ⟨hw, hh, hl, _⟩ := good_of h1
  obtain ⟨hW, hH, hp, _⟩ := good_of h2
  obtain ⟨⟨f1, f2⟩, ⟨f3, f4⟩, f5, f6⟩ := fits_of h3
  have := mul_bd hw hh
  obtain ⟨w, rfl⟩ := Int.eq_ofNat_of_zero_le (show 0 ≤ w by omega)
  obtain ⟨h, rfl⟩ := Int.eq_ofNat_of_zero_le (show 0 ≤ h by omega)
  obtain ⟨W, rfl⟩ := Int.eq_ofNat_of_zero_le (show 0 ≤ W by omega)
  obtain ⟨H, rfl⟩ := Int.eq_ofNat_of_zero_le (show 0 ≤ H by omega)
  obtain ⟨R, rfl⟩ := Int.eq_ofNat_of_zero_le f1
  obtain ⟨C, rfl⟩ := Int.eq_ofNat_of_zero_le f2
  simp only [Int.toNat_natCast]
  have hl' := lenN hl
  have hp' := lenN hp
  have hHW : H * (W + 2) ≤ 80 := Nat.le_trans (Nat.mul_le_mul (show H ≤ 8 by omega) (show W + 2 ≤ 10 by omega)) (by omega)
  constructor
  · unfold spec_l2Put.f spec_l2Put.m
    rw [l2Own_eq k _ _ l (by omega)]; simp only [Option.bind_some]
    exact specPut_l (by omega) (by omega) hp' (by omega) (by omega) (by omega) H k 0 l (by omega) (by omega) hl'
  · unfold impl_Chart_put.f impl_Chart_put.m
    rw [copied_eq k _ _ l (by omega)]; simp only [Option.bind_some]
    exact implPut_l (by omega) (by omega) hp' (by omega) (by omega) (by omega) H k 0 l (by omega) (by omega) hl'
theorem putOut_len (w h : Int) (l : List Int) (W H : Int) (p : List Int) (R C : Int) : (putOut w h l W H p R C).2.2.1.length ≤ 64 := by
  unfold putOut
  split
  · rename_i hc
    obtain ⟨h1, h2, h3⟩ := hc
    obtain ⟨hw, hh, hl, _⟩ := good_of h1
    obtain ⟨hW, hH, hp, _⟩ := good_of h2
    obtain ⟨⟨f1, f2⟩, ⟨f3, f4⟩, f5, f6⟩ := fits_of h3
    have := mul_bd hw hh
    obtain ⟨w, rfl⟩ := Int.eq_ofNat_of_zero_le (show 0 ≤ w by omega)
    obtain ⟨h, rfl⟩ := Int.eq_ofNat_of_zero_le (show 0 ≤ h by omega)
    obtain ⟨W, rfl⟩ := Int.eq_ofNat_of_zero_le (show 0 ≤ W by omega)
    obtain ⟨H, rfl⟩ := Int.eq_ofNat_of_zero_le (show 0 ≤ H by omega)
    have hl' := lenN hl
    have hp' := lenN hp
    simp only [Int.toNat_natCast]
    rw [putR_len w h R.toNat C.toNat W H p hp' (by omega) H 0 l (by omega) (by omega) hl']
    rw [← nat_mul_cast] at this; omega
  · simp
def partR (w R C W : Nat) (l : List Int) : Nat → Nat → List Int
  | 0, _ => []
  | d + 1, r => (l.drop ((R + r) * w + C)).take W ++ partR w R C W l d (r + 1)
theorem rowL {w h R C W H r : Nat} {l : List Int} (hl : l.length = w * h) (hC : C + W ≤ w) (hR : R + H ≤ h) (hr : r < H) : (R + r) * w + C + W ≤ l.length ∧ ((l.drop ((R + r) * w + C)).take W).length = W := by
  have b1 : (R + r) * w + w ≤ h * w := by rw [← Nat.succ_mul]; exact Nat.mul_le_mul_right _ (by omega)
  rw [Nat.mul_comm h w] at b1
  refine ⟨by omega, ?_⟩
  rw [List.length_take, List.length_drop]; omega
theorem partR_len {w h R C W H : Nat} {l : List Int} (hl : l.length = w * h) (hC : C + W ≤ w) (hR : R + H ≤ h) : ∀ (d r : Nat), r + d ≤ H → (partR w R C W l d r).length = d * W := by
  intro d
  induction d with
  | zero => intro r _; simp [partR]
  | succ d ih =>
    intro r h1
    unfold partR
    rw [List.length_append, (rowL hl hC hR (show r < H by omega)).2, ih (r + 1) (by omega), Nat.succ_mul]; omega
theorem partR_row {w h R C W H : Nat} {l : List Int} (hl : l.length = w * h) (hC : C + W ≤ w) (hR : R + H ≤ h) : ∀ (d s q : Nat), s + d ≤ H → q < d → ((partR w R C W l d s).drop (q * W)).take W = (l.drop ((R + (s + q)) * w + C)).take W := by
  intro d
  induction d with
  | zero => intro s q _ h; omega
  | succ d ih =>
    intro s q h1 h2
    have hrow := (rowL hl hC hR (show s < H by omega)).2
    unfold partR
    cases q with
    | zero =>
      rw [Nat.zero_mul, List.drop_zero]
      rw [List.take_append_of_le_length (by omega), List.take_of_length_le (by omega)]
      rfl
    | succ q =>
      rw [Nat.succ_mul, List.drop_append, List.drop_of_length_le (by rw [hrow]; omega), List.nil_append, hrow, show q * W + W - W = q * W by omega, ih (s + 1) q (by omega) (by omega), show s + 1 + q = s + (q + 1) by omega]
theorem partR_mem {w R C W : Nat} {l : List Int} : ∀ (d r : Nat) (x : Int), x ∈ partR w R C W l d r → x ∈ l := by
  intro d
  induction d with
  | zero => intro r x h; simp [partR] at h
  | succ d ih =>
    intro r x h
    unfold partR at h
    rcases List.mem_append.1 h with h | h
    · exact List.mem_of_mem_drop (List.mem_of_mem_take h)
    · exact ih _ x h
theorem splice_same {l : List Int} {b W : Nat} (h : b + W ≤ l.length) : splice l b ((l.drop b).take W) = l := by
  unfold splice
  have : ((l.drop b).take W).length = W := by rw [List.length_take, List.length_drop]; omega
  rw [this, ← List.drop_drop, List.take_append_drop, List.take_append_drop]
theorem put_part {w h R C W H : Nat} {l p : List Int} (hl : l.length = w * h) (hC : C + W ≤ w) (hR : R + H ≤ h) (hp : ∀ r, r < H → (p.drop (r * W)).take W = (l.drop ((R + r) * w + C)).take W) : ∀ (d r : Nat), r + d ≤ H → putR w R C W p d r l = l := by
  intro d
  induction d with
  | zero => intro r _; rfl
  | succ d ih =>
    intro r h1
    unfold putR
    rw [hp r (by omega), splice_same (rowL hl hC hR (show r < H by omega)).1]
    exact ih (r + 1) (by omega)
theorem splice_mem {l ys : List Int} {b : Nat} {x : Int} (h : x ∈ splice l b ys) : x ∈ l ∨ x ∈ ys := by
  unfold splice at h
  rcases List.mem_append.1 h with h | h
  · exact .inl (List.mem_of_mem_take h)
  · rcases List.mem_append.1 h with h | h
    · exact .inr h
    · exact .inl (List.mem_of_mem_drop h)
theorem putR_mem {w R C W : Nat} {p : List Int} : ∀ (d r : Nat) (l : List Int) (x : Int), x ∈ putR w R C W p d r l → x ∈ l ∨ x ∈ p := by
  intro d
  induction d with
  | zero => intro r l x h; exact .inl h
  | succ d ih =>
    intro r l x h
    unfold putR at h
    rcases ih _ _ x h with h | h
    · rcases splice_mem h with h | h
      · exact .inl h
      · exact .inr (List.mem_of_mem_drop (List.mem_of_mem_take h))
    · exact .inr h
theorem splice_read {l ys : List Int} {b : Nat} (h : b + ys.length ≤ l.length) : ((splice l b ys).drop b).take ys.length = ys := by
  unfold splice
  have hb : (l.take b).length = b := by rw [List.length_take]; omega
  rw [List.drop_append, List.drop_of_length_le (by omega), List.nil_append, hb, Nat.sub_self, List.drop_zero, List.take_append_of_le_length (Nat.le_refl _), List.take_of_length_le (Nat.le_refl _)]
theorem splice_read_lt {l ys : List Int} {b a W : Nat} (h : a + W ≤ b) (hb : b ≤ l.length) : ((splice l b ys).drop a).take W = (l.drop a).take W := by
  unfold splice
  have hb' : (l.take b).length = b := by rw [List.length_take]; omega
  rw [List.drop_append_of_le_length (by omega), List.take_append_of_le_length (by rw [List.length_drop]; omega), List.drop_take, List.take_take, Nat.min_eq_left (by omega)]
theorem put_read {w h R C W H : Nat} {p : List Int} (hp : p.length = W * H) (hC : C + W ≤ w) (hR : R + H ≤ h) : ∀ (d r : Nat) (l : List Int), r + d ≤ H → l.length = w * h → (∀ q, q < r → ((putR w R C W p d r l).drop ((R + q) * w + C)).take W = (l.drop ((R + q) * w + C)).take W) ∧ (∀ q, r ≤ q → q < r + d → ((putR w R C W p d r l).drop ((R + q) * w + C)).take W = (p.drop (q * W)).take W) := by
  intro d
  induction d with
  | zero => intro r l _ _; exact ⟨fun _ _ => rfl, fun q h1 h2 => by omega⟩
  | succ d ih =>
    intro r l h1 h2
    have hrow := row_len hp (show r < H by omega)
    have hb := (rowL h2 hC hR (show r < H by omega)).1
    have hlen : (splice l ((R + r) * w + C) ((p.drop (r * W)).take W)).length = w * h := by rw [splice_len (by rw [hrow]; omega)]; exact h2
    obtain ⟨i1, i2⟩ := ih (r + 1) _ (by omega) hlen
    have hlt : ∀ q, q < r → (R + q) * w + C + W ≤ (R + r) * w + C := fun q hq => by
      have : (R + q) * w + w ≤ (R + r) * w := by rw [← Nat.succ_mul]; exact Nat.mul_le_mul_right _ (by omega)
      omega
    unfold putR
    refine ⟨fun q hq => ?_, fun q hq1 hq2 => ?_⟩
    · rw [i1 q (by omega), splice_read_lt (hlt q hq) (by omega)]
    · rcases Nat.lt_or_ge r q with h | h
      · exact i2 q (by omega) (by omega)
      · have : q = r := by omega
        subst this
        rw [i1 q (by omega)]
        have := splice_read (l := l) (b := (R + q) * w + C) (ys := (p.drop (q * W)).take W) (by rw [hrow]; omega)
        rw [hrow] at this; exact this
theorem part_of_rows {w R C W H : Nat} {l p : List Int} (hp : p.length = W * H) (hrow : ∀ q, q < H → (l.drop ((R + q) * w + C)).take W = (p.drop (q * W)).take W) : ∀ (d r : Nat), r + d = H → partR w R C W l d r = p.drop (r * W) := by
  intro d
  induction d with
  | zero =>
    intro r h
    have : r = H := by omega
    subst this
    rw [List.drop_of_length_le (by rw [hp, Nat.mul_comm]; omega)]; rfl
  | succ d ih =>
    intro r h
    unfold partR
    rw [hrow r (by omega), ih (r + 1) (by omega), Nat.succ_mul, ← List.drop_drop, List.take_append_drop]
/-! ### The walks -/
theorem take_snoc {l : List Int} {b j : Nat} (h : b + j < l.length) : (l.drop b).take (j + 1) = (l.drop b).take j ++ [l.getD (b + j) 0] := by
  rw [List.take_succ_eq_append_getElem (by rw [List.length_drop]; omega), List.getElem_drop, getD_lt h]
theorem implPart_l {w h R C W H : Nat} {l : List Int} (hw : w ≤ 8) (hh : h ≤ 8) (hl : l.length = w * h) (hC : C + W ≤ w) (hR : R + H ≤ h) (r : Nat) (hr : r < H) (acc : List Int) (hacc : acc.length ≤ 1000) : ∀ (d k j : Nat), j + d = W → d + 2 < k → impl_makeChart__impl_Chart_part_1.l10 k (W : Int) (w : Int) (h : Int) l (R : Int) (C : Int) 0 0 [] (W : Int) (H : Int) (acc ++ (l.drop ((R + r) * w + C)).take j) (r : Int) (H : Int) (r : Int) (W : Int) (j : Int) = impl_makeChart__impl_Chart_part_1.l4 (k - d - 1) (W : Int) (w : Int) (h : Int) l (R : Int) (C : Int) 0 0 [] (W : Int) (H : Int) (acc ++ (l.drop ((R + r) * w + C)).take W) (H : Int) ((r + 1 : Nat) : Int) := by
  have hb := (rowL hl hC hR hr).1
  have b2 : w * h ≤ 64 := Nat.le_trans (Nat.mul_le_mul hw hh) (by omega)
  have e1 : ((R : Int) + (r : Int)) * (w : Int) = (((R + r) * w : Nat) : Int) := by rw [nat_mul_cast, Int.natCast_add]
  intro d
  induction d with
  | zero =>
    intro k j h1 h2
    obtain ⟨k, rfl⟩ := succ_of (show 0 < k by omega)
    have : j = W := by omega
    subst this
    simp (disch := omega) only [impl_makeChart__impl_Chart_part_1.l10, impl_makeChart__impl_Chart_part_1.b10, if_neg, w64_id]
    rw [show ((r + 1 : Nat) : Int) = (r : Int) + 1 by omega]; rfl
  | succ d ih =>
    intro k j h1 h2
    obtain ⟨k, rfl⟩ := succ_of (show 0 < k by omega)
    have h4 := ih k (j + 1) (by omega) (by omega)
    rw [show k + 1 - (d + 1) - 1 = k - d - 1 by omega, ← h4, take_snoc (by omega), ← List.append_assoc]
    simp only [impl_makeChart__impl_Chart_part_1.l10, impl_makeChart__impl_Chart_part_1.b10]
    have hlen : (acc ++ (l.drop ((R + r) * w + C)).take j).length ≤ 1010 := by rw [List.length_append, List.length_take]; omega
    unfold impl_Chart_part_1.f impl_Chart_part_1.m
    rw [if_pos (by omega), w64_id (x := (R : Int) + (r : Int)) (by omega), w64_id (x := (C : Int) + (j : Int)) (by omega), implAt_eq k w h l ((R : Int) + r) ((C : Int) + j) ((R + r) * w + C + j) (by rw [e1]; omega) (by omega) (by rw [e1]; omega)]
    simp only [Option.bind_some]
    rw [app_ok (by simp only [List.length_singleton]; omega), w64_id (by omega), show ((j + 1 : Nat) : Int) = (j : Int) + 1 by omega]
    rfl
theorem implPart_eq {w h R C W H : Nat} {l : List Int} (hw : w ≤ 8) (hh : h ≤ 8) (hl : l.length = w * h) (hC : C + W ≤ w) (hR : R + H ≤ h) : ∀ (d k r : Nat) (acc : List Int), r + d = H → 12 * d + 5 < k → acc.length + 8 * d ≤ 900 → impl_makeChart__impl_Chart_part_1.l4 k (W : Int) (w : Int) (h : Int) l (R : Int) (C : Int) 0 0 [] (W : Int) (H : Int) acc (H : Int) (r : Int) = some ((W : Int), (H : Int), acc ++ partR w R C W l d r) := by
  intro d
  induction d with
  | zero =>
    intro k r acc h1 h2 h3
    obtain ⟨k, rfl⟩ := succ_of (show 0 < k by omega)
    simp (disch := omega) only [impl_makeChart__impl_Chart_part_1.l4, impl_makeChart__impl_Chart_part_1.b4, if_neg, partR, List.append_nil]
  | succ d ih =>
    intro k r acc h1 h2 h3
    obtain ⟨k, rfl⟩ := succ_of (show 0 < k by omega)
    have hrow := (rowL hl hC hR (show r < H by omega)).2
    have h5 := implPart_l hw hh hl hC hR r (by omega) acc (by omega) W k 0 (by omega) (by omega)
    rw [List.take_zero, List.append_nil, show ((0 : Nat) : Int) = 0 from rfl] at h5
    simp (disch := omega) only [impl_makeChart__impl_Chart_part_1.l4, impl_makeChart__impl_Chart_part_1.b4, if_pos]
    rw [h5, ih _ (r + 1) _ (by omega) (by omega) (by rw [List.length_append, hrow]; omega), partR, List.append_assoc]
theorem specPart_l {w h R C W H : Nat} {l : List Int} (hw : w ≤ 8) (hh : h ≤ 8) (hl : l.length = w * h) (hC : C + W ≤ w) (hR : R + H ≤ h) (r : Nat) (hr : r < H) (acc : List Int) (hacc : acc.length ≤ 1000) : ∀ (d k j : Nat), j + d = W → d + 2 < k → spec_l2Part.l9 k (R : Int) (C : Int) (H : Int) (W : Int) (w : Int) (h : Int) l 0 0 [] (W : Int) (H : Int) (acc ++ (l.drop ((R + r) * w + C)).take j) ((R + r : Nat) : Int) ((C + j : Nat) : Int) = spec_l2Part.l4 (k - d - 1) (R : Int) (C : Int) (H : Int) (W : Int) (w : Int) (h : Int) l 0 0 [] (W : Int) (H : Int) (acc ++ (l.drop ((R + r) * w + C)).take W) ((R + (r + 1) : Nat) : Int) := by
  have hb := (rowL hl hC hR hr).1
  have b2 : w * h ≤ 64 := Nat.le_trans (Nat.mul_le_mul hw hh) (by omega)
  have e1 : ((R + r : Nat) : Int) * (w : Int) = (((R + r) * w : Nat) : Int) := by rw [nat_mul_cast]
  intro d
  induction d with
  | zero =>
    intro k j h1 h2
    obtain ⟨k, rfl⟩ := succ_of (show 0 < k by omega)
    have : j = W := by omega
    subst this
    simp (disch := omega) only [spec_l2Part.l9, spec_l2Part.b9, if_neg, w64_id]
    rw [show ((R + (r + 1) : Nat) : Int) = ((R + r : Nat) : Int) + 1 by omega]; rfl
  | succ d ih =>
    intro k j h1 h2
    obtain ⟨k, rfl⟩ := succ_of (show 0 < k by omega)
    have h4 := ih k (j + 1) (by omega) (by omega)
    rw [show k + 1 - (d + 1) - 1 = k - d - 1 by omega, ← h4, take_snoc (by omega), ← List.append_assoc]
    simp only [spec_l2Part.l9, spec_l2Part.b9]
    have hlen : (acc ++ (l.drop ((R + r) * w + C)).take j).length ≤ 1010 := by rw [List.length_append, List.length_take]; omega
    rw [w64_id (x := (C : Int) + (W : Int)) (by omega), if_pos (by omega), specAt_eq k w h l ((R + r : Nat) : Int) ((C + j : Nat) : Int) ((R + r) * w + C + j) (by rw [e1]; omega) (by omega) (by rw [e1]; omega)]
    simp only [Option.bind_some]
    rw [app_ok (by simp only [List.length_singleton]; omega), w64_id (by omega), show ((C + (j + 1) : Nat) : Int) = ((C + j : Nat) : Int) + 1 by omega]
    rfl
theorem specPart_eq {w h R C W H : Nat} {l : List Int} (hw : w ≤ 8) (hh : h ≤ 8) (hl : l.length = w * h) (hC : C + W ≤ w) (hR : R + H ≤ h) : ∀ (d k r : Nat) (acc : List Int), r + d = H → 12 * d + 5 < k → acc.length + 8 * d ≤ 900 → spec_l2Part.l4 k (R : Int) (C : Int) (H : Int) (W : Int) (w : Int) (h : Int) l 0 0 [] (W : Int) (H : Int) acc ((R + r : Nat) : Int) = some ((W : Int), (H : Int), acc ++ partR w R C W l d r) := by
  intro d
  induction d with
  | zero =>
    intro k r acc h1 h2 h3
    obtain ⟨k, rfl⟩ := succ_of (show 0 < k by omega)
    simp (disch := omega) only [spec_l2Part.l4, spec_l2Part.b4, if_neg, partR, List.append_nil, w64_id]
  | succ d ih =>
    intro k r acc h1 h2 h3
    obtain ⟨k, rfl⟩ := succ_of (show 0 < k by omega)
    have hrow := (rowL hl hC hR (show r < H by omega)).2
    have h5 := specPart_l hw hh hl hC hR r (by omega) acc (by omega) W k 0 (by omega) (by omega)
    rw [List.take_zero, List.append_nil, Nat.add_zero] at h5
    simp (disch := omega) only [spec_l2Part.l4, spec_l2Part.b4, if_pos, w64_id]
    rw [h5, ih _ (r + 1) _ (by omega) (by omega) (by rw [List.length_append, hrow]; omega), partR, List.append_assoc]
theorem rem_ok {x y : Int} (h : ¬ y = 0) : rem x y = some (x.tmod y) := by unfold rem; rw [if_neg h]
def ringP (w h : Int) : List Int := (spec_l8Places.f 50 w h).getD []
theorem l8Places_k (w h : Int) (hw : 2 ≤ w ∧ w ≤ 8) (hh : 2 ≤ h ∧ h ≤ 8) (k : Nat) : spec_l8Places.f (k + 50) w h = some (ringP w h) := by
  have h1 : w = 2 ∨ w = 3 ∨ w = 4 ∨ w = 5 ∨ w = 6 ∨ w = 7 ∨ w = 8 := by omega
  have h2 : h = 2 ∨ h = 3 ∨ h = 4 ∨ h = 5 ∨ h = 6 ∨ h = 7 ∨ h = 8 := by omega
  rcases h1 with rfl | rfl | rfl | rfl | rfl | rfl | rfl <;> rcases h2 with rfl | rfl | rfl | rfl | rfl | rfl | rfl <;> (refine Eq.symm (Eq.symm ?_); kernel_rfl)
theorem l8Places_eq (w h : Int) (hw : 2 ≤ w ∧ w ≤ 8) (hh : 2 ≤ h ∧ h ≤ 8) (k : Nat) (hk : 50 ≤ k) : spec_l8Places.f k w h = some (ringP w h) := by
  obtain ⟨m, rfl⟩ : ∃ m, k = m + 50 := ⟨k - 50, by omega⟩
  exact l8Places_k w h hw hh m
theorem ringPlaces_k (w h : Int) (hw : 2 ≤ w ∧ w ≤ 8) (hh : 2 ≤ h ∧ h ≤ 8) (k : Nat) : impl_ringPlaces.f (k + 50) w h = some (ringP w h) := by
  have h1 : w = 2 ∨ w = 3 ∨ w = 4 ∨ w = 5 ∨ w = 6 ∨ w = 7 ∨ w = 8 := by omega
  have h2 : h = 2 ∨ h = 3 ∨ h = 4 ∨ h = 5 ∨ h = 6 ∨ h = 7 ∨ h = 8 := by omega
  rcases h1 with rfl | rfl | rfl | rfl | rfl | rfl | rfl <;> rcases h2 with rfl | rfl | rfl | rfl | rfl | rfl | rfl <;> (refine Eq.symm (Eq.symm ?_); kernel_rfl)
theorem ringPlaces_eq (w h : Int) (hw : 2 ≤ w ∧ w ≤ 8) (hh : 2 ≤ h ∧ h ≤ 8) (k : Nat) (hk : 50 ≤ k) : impl_ringPlaces.f k w h = some (ringP w h) := by
  obtain ⟨m, rfl⟩ : ∃ m, k = m + 50 := ⟨k - 50, by omega⟩
  exact ringPlaces_k w h hw hh m
def ringOk (w h : Int) : Bool := (ringP w h).all (fun p => decide (0 ≤ p) && decide (p < w * h)) && decide (((ringP w h).length : Int) = 2 * w + 2 * h - 4)
theorem ringOk_all (w h : Int) (hw : 2 ≤ w ∧ w ≤ 8) (hh : 2 ≤ h ∧ h ≤ 8) : ringOk w h = true := by
  have h1 : w = 2 ∨ w = 3 ∨ w = 4 ∨ w = 5 ∨ w = 6 ∨ w = 7 ∨ w = 8 := by omega
  have h2 : h = 2 ∨ h = 3 ∨ h = 4 ∨ h = 5 ∨ h = 6 ∨ h = 7 ∨ h = 8 := by omega
  rcases h1 with rfl | rfl | rfl | rfl | rfl | rfl | rfl <;> rcases h2 with rfl | rfl | rfl | rfl | rfl | rfl | rfl <;> (refine Eq.symm (Eq.symm ?_); kernel_rfl)
theorem ringP_of (w h : Int) (hw : 2 ≤ w ∧ w ≤ 8) (hh : 2 ≤ h ∧ h ≤ 8) : (∀ p ∈ ringP w h, 0 ≤ p ∧ p < w * h) ∧ ((ringP w h).length : Int) = 2 * w + 2 * h - 4 := by
  have := ringOk_all w h hw hh
  unfold ringOk at this
  simp only [Bool.and_eq_true, decide_eq_true_eq, List.all_eq_true] at this
  exact this
def ringR (ps ring : List Int) : Nat → Nat → List Int → List Int
  | 0, _, xs => xs
  | d + 1, i, xs => ringR ps ring d (i + 1) (xs.set (ps.getD i 0).toNat (ring.getD (Int.tmod i ring.length).toNat 0))
theorem ringR_len (ps ring : List Int) : ∀ d i xs, (ringR ps ring d i xs).length = xs.length := by
  intro d; induction d with
  | zero => intro i xs; rfl
  | succ d ih => intro i xs; simp only [ringR]; rw [ih]; simp
theorem l8Put_l (w h : Int) (ps ring : List Int) (hp : ps.length ≤ 1000) (hr : 0 < ring.length) : ∀ (d k i : Nat) (xs : List Int), i + d = ps.length → d < k → (∀ p ∈ ps, 0 ≤ p ∧ p < xs.length) → spec_l8Put.l4 k ring 0 0 [] w h xs ps (i : Int) = some (w, h, ringR ps ring d i xs) := by
  intro d
  induction d with
  | zero =>
    intro k i xs h1 h2 h3
    obtain ⟨k, rfl⟩ := succ_of h2
    simp (disch := omega) only [spec_l8Put.l4, spec_l8Put.b4, if_neg]; rfl
  | succ d ih =>
    intro k i xs h1 h2 h3
    obtain ⟨k, rfl⟩ := succ_of (show 0 < k by omega)
    have hm1 : 0 ≤ Int.tmod (i : Int) (ring.length : Int) := Int.tmod_nonneg _ (by omega)
    have hm2 : Int.tmod (i : Int) (ring.length : Int) < (ring.length : Int) := Int.tmod_lt_of_pos _ (by omega)
    have hb := h3 (ps.getD i 0) (by rw [getD_lt (by omega)]; exact List.getElem_mem _)
    have h := ih k (i + 1) (xs.set (ps.getD i 0).toNat (ring.getD (Int.tmod i ring.length).toNat 0)) (by omega) (by omega) (by simpa using h3)
    rw [show ((i + 1 : Nat) : Int) = (i : Int) + 1 by omega] at h
    simp (disch := omega) only [spec_l8Put.l4, spec_l8Put.b4, if_pos, chk_nat, Option.bind_some, rem_ok, w64_id]
    rw [chk_int ⟨hm1, hm2⟩]; simp only [Option.bind_some]
    rw [chk_int hb]; simp only [Option.bind_some]
    exact h
theorem withRing_l (w h : Int) (ps ring : List Int) (hp : ps.length ≤ 1000) (hr : 0 < ring.length) : ∀ (d k i : Nat) (xs : List Int), i + d = ps.length → d < k → (∀ p ∈ ps, 0 ≤ p ∧ p < xs.length) → impl_Chart_withRing.l4 k ring 0 0 [] w h xs ps ps.length (i : Int) = some (w, h, ringR ps ring d i xs) := by
  intro d
  induction d with
  | zero =>
    intro k i xs h1 h2 h3
    obtain ⟨k, rfl⟩ := succ_of h2
    simp (disch := omega) only [impl_Chart_withRing.l4, impl_Chart_withRing.b4, if_neg]; rfl
  | succ d ih =>
    intro k i xs h1 h2 h3
    obtain ⟨k, rfl⟩ := succ_of (show 0 < k by omega)
    have hm1 : 0 ≤ Int.tmod (i : Int) (ring.length : Int) := Int.tmod_nonneg _ (by omega)
    have hm2 : Int.tmod (i : Int) (ring.length : Int) < (ring.length : Int) := Int.tmod_lt_of_pos _ (by omega)
    have hb := h3 (ps.getD i 0) (by rw [getD_lt (by omega)]; exact List.getElem_mem _)
    have h := ih k (i + 1) (xs.set (ps.getD i 0).toNat (ring.getD (Int.tmod i ring.length).toNat 0)) (by omega) (by omega) (by simpa using h3)
    rw [show ((i + 1 : Nat) : Int) = (i : Int) + 1 by omega] at h
    simp (disch := omega) only [impl_Chart_withRing.l4, impl_Chart_withRing.b4, if_pos, chk_nat, Option.bind_some, rem_ok, w64_id]
    rw [chk_int ⟨hm1, hm2⟩]; simp only [Option.bind_some]
    rw [chk_int hb]; simp only [Option.bind_some]
    exact h
theorem l8Put_eq (w h : Int) (l ring : List Int) (hw : 2 ≤ w ∧ w ≤ 8) (hh : 2 ≤ h ∧ h ≤ 8) (hl : (l.length : Int) = w * h) (hr : 0 < ring.length) (k : Nat) (hk : 200 ≤ k) : spec_l8Put.f k w h l ring = some (w, h, ringR (ringP w h) ring (ringP w h).length 0 l) := by
  have hb := mul_bd (w := w) (h := h) (by omega) (by omega)
  have hp := ringP_of w h hw hh
  unfold spec_l8Put.f spec_l8Put.m
  rw [l2Own_eq k w h l (by omega), l8Places_eq w h hw hh k (by omega)]
  simp only [Option.bind_some]
  exact l8Put_l w h _ ring (by omega) hr _ k 0 l (by omega) (by omega) (fun p hpp => by have := hp.1 p hpp; omega)
theorem withRing_eq (w h : Int) (l ring : List Int) (hw : 2 ≤ w ∧ w ≤ 8) (hh : 2 ≤ h ∧ h ≤ 8) (hl : (l.length : Int) = w * h) (hr : 0 < ring.length) (k : Nat) (hk : 200 ≤ k) : impl_Chart_withRing.f k w h l ring = some (w, h, ringR (ringP w h) ring (ringP w h).length 0 l) := by
  have hb := mul_bd (w := w) (h := h) (by omega) (by omega)
  have hp := ringP_of w h hw hh
  unfold impl_Chart_withRing.f impl_Chart_withRing.m
  rw [copied_eq k w h l (by omega), ringPlaces_eq w h hw hh k (by omega)]
  simp only [Option.bind_some]
  exact withRing_l w h _ ring (by omega) hr _ k 0 l (by omega) (by omega) (fun p hpp => by have := hp.1 p hpp; omega)
theorem l8Length_eq (k : Nat) (w h : Int) (hw : 2 ≤ w ∧ w ≤ 8) (hh : 2 ≤ h ∧ h ≤ 8) : spec_l8Length.f k w h = some (2 * w + 2 * h - 4) := by
  unfold spec_l8Length.f spec_l8Length.m
  simp (disch := omega) only [w64_id]
theorem ringLength_eq (k : Nat) (w h : Int) (hw : 2 ≤ w ∧ w ≤ 8) (hh : 2 ≤ h ∧ h ≤ 8) : impl_ringLength.f k w h = some (2 * w + 2 * h - 4) := by
  unfold impl_ringLength.f impl_ringLength.m
  simp (disch := omega) only [w64_id]
  congr 1; omega
theorem l8Colors_eq (k : Nat) (l : List Int) (hl : l.length ≤ 100000000000000) (hk : l.length + 50 ≤ k) : spec_l8Colors.f k l = some (l.all colorB) := by
  unfold spec_l8Colors.f spec_l8Colors.m
  have hq := (all_loop (L := fun k i => spec_l8Colors.l3 k l (i : Int)) (n := l.length) (K0 := 20) (ok := fun i => colorB (l.getD i 0)) (f := some false) (fun k i hk hi => ?_)) l.length k 0 (by omega) (by omega)
  · rw [show ((0 : Nat) : Int) = 0 from rfl] at hq
    by_cases hc : l.all colorB = true
    · rw [hq.1 (some true) (fun k hk => by simp (disch := omega) only [spec_l8Colors.l3, spec_l8Colors.b3, if_neg]) (fun j _ hj => (allI_iff _ _).1 hc j hj), hc]
    · rw [hq.2 (exists_bad fun hn => hc ((allI_iff _ _).2 hn)), notB hc]
  · simp (disch := omega) only [spec_l8Colors.l3, spec_l8Colors.b3, if_pos, chk_nat, Option.bind_some, w64_id, l2Color_eq, Int.natCast_add, Int.cast_ofNat_Int]
    cases colorB (l.getD i 0) <;> simp only [Bool.not_true, Bool.not_false, cond_true, cond_false, Bool.true_and, Bool.false_and, Bool.and_true, Bool.and_false, Bool.false_eq_true, Bool.true_or, Bool.or_true, Bool.false_or, Bool.or_false, Bool.or_self, Bool.and_self, decide_true, decide_false, if_true, if_false, not_true, not_false_eq_true, not_true_eq_false, false_or, or_false, true_and, and_true, Bool.not_eq_true, Bool.true_eq_false, reduceCtorEq]
theorem vInts_self (k : Nat) (c : List Int) (hl : c.length ≤ 1000) (hk : 1100 ≤ k) : laws_vInts.f k c c = some true := by
  unfold laws_vInts.f laws_vInts.m
  have h := (all_loop (L := fun k i => laws_vInts.l6 k c c (i : Int)) (n := c.length) (K0 := 20) (ok := fun _ => true) (f := some false) (fun k i hk hi => ?_)) c.length k 0 (by omega) (by omega)
  · rw [show ((0 : Nat) : Int) = 0 from rfl] at h
    simp only [Bool.not_true, Bool.not_false, cond_true, cond_false, Bool.true_and, Bool.false_and, Bool.and_true, Bool.and_false, Bool.false_eq_true, Bool.true_or, Bool.or_true, Bool.false_or, Bool.or_false, Bool.or_self, Bool.and_self, decide_true, decide_false, if_true, if_false, not_true, not_false_eq_true, not_true_eq_false, false_or, or_false, true_and, and_true, Bool.not_eq_true, Bool.true_eq_false, reduceCtorEq]
    exact h.1 (some true) (fun k hk => by simp (disch := omega) only [laws_vInts.l6, laws_vInts.b6, if_neg]) (fun _ _ _ => rfl)
  · simp (disch := omega) only [laws_vInts.l6, laws_vInts.b6, if_pos, chk_nat, Option.bind_some, w64_id, Bool.not_true, Bool.not_false, cond_true, cond_false, Bool.true_and, Bool.false_and, Bool.and_true, Bool.and_false, Bool.false_eq_true, Bool.true_or, Bool.or_true, Bool.false_or, Bool.or_false, Bool.or_self, Bool.and_self, decide_true, decide_false, if_true, if_false, not_true, not_false_eq_true, not_true_eq_false, false_or, or_false, true_and, and_true, Bool.not_eq_true, Bool.true_eq_false, reduceCtorEq, Int.natCast_add, Int.cast_ofNat_Int]
theorem vChart_self (k : Nat) (w h : Int) (l : List Int) (hl : l.length ≤ 1000) (hk : 1100 ≤ k) : laws_vChart.f k w h l w h l = some true := by
  unfold laws_vChart.f laws_vChart.m
  rw [vInts_self k l hl hk]; simp only [Bool.not_true, Bool.not_false, cond_true, cond_false, Bool.true_and, Bool.false_and, Bool.and_true, Bool.and_false, Bool.false_eq_true, Bool.true_or, Bool.or_true, Bool.false_or, Bool.or_false, Bool.or_self, Bool.and_self, decide_true, decide_false, if_true, if_false, not_true, not_false_eq_true, not_true_eq_false, false_or, or_false, true_and, and_true, Bool.not_eq_true, Bool.true_eq_false, reduceCtorEq, Option.bind_some]
def patB (p : List Int) : Bool := p.all colorB && inB (p.length : Int) 1 8
theorem l8Pattern_eq (k : Nat) (l : List Int) (hl : l.length ≤ 100000000000000) (hk : l.length + 50 ≤ k) : spec_l8Pattern.f k l = some (patB l) := by
  unfold spec_l8Pattern.f spec_l8Pattern.m patB
  rw [l8Colors_eq k l hl hk, specIn_eq]; simp only [Option.bind_some]
  cases l.all colorB <;> rfl
theorem pat13 (l : List Int) (hb : By l) : ∀ (e K : Nat) (a s : Int) (p : List Int), 10 ≤ p.length + e → p.length ≤ 20 → 0 ≤ a ∧ a + 4 * e ≤ 10000000 → 50 + e ≤ K → Yl (spec_l1Cur_pattern8.l13 K l a s p) fun r => r.2.1 = l ∧ (r.1.length ≤ 30 ∧ a ≤ r.2.2.1 ∧ r.2.2.1 ≤ a + 4 * e + 4) := by
  intro e
  induction e with
  | zero =>
    intro K a s p h1 h2 h3 h4
    obtain ⟨K, rfl⟩ := succ_of (show 0 < K by omega)
    simp only [spec_l1Cur_pattern8.l13, spec_l1Cur_pattern8.b13]
    (refine Yl.bind (pick_ok _ _ _ (by assumption) (by omega) (by omega)) ?_; rintro ⟨vq, lq, aq, sq⟩ ⟨eq1, eq2, eq3, eq4, eq5, eq6⟩; dsimp only at *; subst eq1)
    rw [w64_id (by omega), if_neg (by omega)]
    exact Yl.ret ⟨rfl, by dsimp only; omega⟩
  | succ e ih =>
    intro K a s p h1 h2 h3 h4
    obtain ⟨K, rfl⟩ := succ_of (show 0 < K by omega)
    simp only [spec_l1Cur_pattern8.l13, spec_l1Cur_pattern8.b13]
    refine Yl.bind (pick_ok _ _ _ hb (by omega) (by omega)) ?_
    rintro ⟨v, l', a', s'⟩ ⟨e1, e2, e3, e4, e5, e6⟩
    dsimp only at *; subst e1
    rw [w64_id (by omega)]
    refine Yl.ite (fun _ => ?_) fun _ => Yl.ret ⟨rfl, by dsimp only; omega⟩
    rw [app_ok (by simp; omega)]; simp only [Option.bind_some]
    exact (ih K a' s' _ (by simp; omega) (by simp; omega) (by omega) (by omega)).mono fun r hr => ⟨hr.1, by omega⟩
theorem pat4 (l : List Int) (hb : By l) : ∀ (n K : Nat) (a s : Int) (p : List Int), p.length + n ≤ 10 → 0 ≤ a ∧ a + 4 * n ≤ 5000000 → 80 + n ≤ K → Yl (spec_l1Cur_pattern8.l4 K l a s p (n : Int)) fun r => r.2.1 = l ∧ (r.1.length ≤ 30 ∧ a ≤ r.2.2.1 ∧ r.2.2.1 ≤ a + 4 * n + 60) := by
  intro n
  induction n with
  | zero =>
    intro K a s p h1 h2 h3
    obtain ⟨K, rfl⟩ := succ_of (show 0 < K by omega)
    simp only [spec_l1Cur_pattern8.l4, spec_l1Cur_pattern8.b4]
    rw [if_neg (by omega)]
    refine Yl.bind (pick_ok _ _ _ hb (by omega) (by omega)) ?_
    rintro ⟨v, l', a', s'⟩ ⟨e1, e2, e3, e4, e5, e6⟩
    dsimp only at *; subst e1
    refine Yl.ite (fun _ => ?_) fun _ => ?_
    · (refine Yl.bind (among_any _ _ (by simp) (by assumption) (by omega) (by omega)) ?_; rintro ⟨vq, lq, aq, sq, xq⟩ ⟨eq1, eq2, eq3, eq4⟩; dsimp only at *; subst eq1; subst eq2)
      rw [app_ok (by simp; omega)]; simp only [Option.bind_some]
      exact Yl.ret ⟨rfl, by dsimp only; rw [List.length_append, List.length_singleton]; omega⟩
    refine Yl.ite (fun _ => Yl.ret ⟨rfl, by simp; omega⟩) fun _ => ?_
    refine Yl.ite (fun _ => ?_) fun _ => Yl.ret ⟨rfl, by dsimp only; omega⟩
    exact (pat13 l' hb 10 K a' s' p (by omega) (by omega) (by omega) (by omega)).mono fun r hr => ⟨hr.1, by omega⟩
  | succ n ih =>
    intro K a s p h1 h2 h3
    obtain ⟨K, rfl⟩ := succ_of (show 0 < K by omega)
    simp only [spec_l1Cur_pattern8.l4, spec_l1Cur_pattern8.b4]
    rw [if_pos (by omega), w64_id (x := ((n + 1 : Nat) : Int) - 1) (by omega), show ((n + 1 : Nat) : Int) - 1 = n by omega]
    refine Yl.bind (among_any _ _ (by simp) hb (by omega) (by omega)) ?_
    rintro ⟨v, l', a', s', x'⟩ ⟨e1, e2, e3, e4⟩
    dsimp only at *; subst e1
    rw [app_ok (by simp; omega)]; simp only [Option.bind_some]
    exact (ih K a' s' _ (by simp; omega) (by omega) (by omega)).mono fun r hr => ⟨hr.1, by omega⟩
theorem pattern_ok (k : Nat) {l : List Int} {a : Int} (s : Int) (hb : By l) (h : 0 ≤ a ∧ a ≤ 4000000) (hk : 200 ≤ k) : Yl (spec_l1Cur_pattern8.f k l a s) fun r => r.2.1 = l ∧ (r.1.length ≤ 30 ∧ a ≤ r.2.2.1 ∧ r.2.2.1 ≤ a + 200) := by
  unfold spec_l1Cur_pattern8.f spec_l1Cur_pattern8.m
  refine Yl.bind (among_ok _ _ 1 8 (by simp) (by intro x hx; simp at hx; omega) hb (by omega) (by omega)) ?_
  rintro ⟨n, l', a', s', x'⟩ ⟨e1, e2, e3, e4, e5, e6⟩
  dsimp only at *; subst e1
  obtain ⟨n, rfl⟩ := Int.eq_ofNat_of_zero_le (show 0 ≤ n by omega)
  exact (pat4 _ hb n k a' s' [] (by simp; omega) (by omega) (by omega)).mono fun r hr => ⟨hr.1, by omega⟩
def ringB (w h : Int) (l : List Int) : Bool := goodB w h l && inB w 2 8 && inB h 2 8
theorem l8Good_eq (k : Nat) (w h : Int) (l : List Int) (hl : l.length ≤ 400) (hk : 1000 ≤ k) : spec_l8Good.f k w h l = some (ringB w h l) := by
  unfold spec_l8Good.f spec_l8Good.m spec_l8Side.f spec_l8Side.m ringB
  rw [l2Good_eq k w h l (by omega) (by omega), specIn_eq, specIn_eq]; simp only [Option.bind_some]
  cases goodB w h l <;> cases inB w 2 8 <;> rfl
theorem ringB_of {w h : Int} {l : List Int} (hr : ringB w h l = true) : goodB w h l = true ∧ (2 ≤ w ∧ w ≤ 8) ∧ (2 ≤ h ∧ h ≤ 8) := by
  unfold ringB at hr
  simp only [Bool.and_eq_true, inB_iff] at hr
  exact ⟨hr.1.1, hr.1.2, hr.2⟩
def RingD (l : List Int) (a b : Int) (r : Int × Int × List Int × List Int × Int × Int) : Prop := r.2.2.2.1 = l ∧ (r.2.2.1.length ≤ 300 ∧ -1 ≤ r.1 ∧ r.1 ≤ 9 ∧ -1 ≤ r.2.1 ∧ r.2.1 ≤ 9 ∧ a ≤ r.2.2.2.2.1 ∧ r.2.2.2.2.1 ≤ b)
theorem ringed2 (k : Nat) {l : List Int} {a : Int} (s w h : Int) (kn : List Int) (hb : By l) (ha : 0 ≤ a ∧ a ≤ 3000000) (hk : 2000 ≤ k) (hkn : kn.length ≤ 300) (hw : -1 ≤ w ∧ w ≤ 9) (hh : -1 ≤ h ∧ h ≤ 9) : Yl (spec_l1Cur_ringed.l2 k l a s 0 0 [] w h kn) (RingD l a (a + 300)) := by
  obtain ⟨k, rfl⟩ := succ_of (show 0 < k by omega)
  simp only [spec_l1Cur_ringed.l2, spec_l1Cur_ringed.b2]
  unfold RingD
  refine Yl.bind (pattern_ok _ _ hb (by omega) (by omega)) ?_
  rintro ⟨p, l', a', s'⟩ ⟨e1, e2, e3, e4⟩
  dsimp only at *; subst e1
  rw [l8Good_eq k w h kn (by omega) (by omega), l8Pattern_eq k p (by omega) (by omega)]; simp only [Option.bind_some]
  refine Yl.cond (fun hr => ?_) fun _ => Yl.ret ⟨rfl, by dsimp only; omega⟩
  refine Yl.cond (fun hp => ?_) fun _ => Yl.ret ⟨rfl, by dsimp only; omega⟩
  refine Yl.bind (one_ok _ _ _ hb (by omega) (by omega)) ?_
  rintro ⟨v, l', a2, s2⟩ ⟨e1, f2, f3⟩
  dsimp only at *; subst e1
  refine Yl.cond (fun _ => ?_) fun _ => Yl.ret ⟨rfl, by dsimp only; omega⟩
  obtain ⟨hg, h1, h2⟩ := ringB_of hr
  obtain ⟨_, _, hl, _⟩ := good_of hg
  unfold patB at hp
  rw [Bool.and_eq_true, inB_iff] at hp
  rw [l8Put_eq w h kn p h1 h2 hl (by omega) k (by omega)]; simp only [Option.bind_some]
  exact Yl.ret ⟨rfl, by dsimp only; rw [ringR_len]; omega⟩
theorem ringed_ok (k : Nat) {l : List Int} {a : Int} (s : Int) (hb : By l) (ha : 0 ≤ a ∧ a ≤ 500000) (hk : 3000 ≤ k) : Yl (spec_l1Cur_ringed.f k l a s) (RingD l a (a + 6000)) := by
  unfold spec_l1Cur_ringed.f spec_l1Cur_ringed.m
  refine Yl.bind (among_ok _ _ 2 8 (by simp) (by intro x hx; simp at hx; omega) hb (by omega) (by omega)) ?_
  rintro ⟨w1, l2, a1, s1, x1⟩ ⟨e1, f2, f3, f4, f5, f6⟩
  dsimp only at *; subst e1
  refine Yl.bind (among_ok _ _ 2 8 (by simp) (by intro x hx; simp at hx; omega) hb (by omega) (by omega)) ?_
  rintro ⟨h1, l2, a2, s2, x2⟩ ⟨e1, g2, g3, g4, g5, g6⟩
  dsimp only at *; subst e1
  refine Yl.bind (plain_ok k s2 (w := w1) (h := h1) (by omega) (by omega) hb (by omega) (by omega)) ?_
  rintro ⟨w', h', kn2, l2, a3, s3⟩ ⟨p1, p2, e1, p3, p4, p5⟩
  dsimp only at *; subst e1; subst p1; subst p2
  refine Yl.bind (one_ok _ _ _ hb (by omega) (by omega)) ?_
  rintro ⟨v, l2, a4, s4⟩ ⟨e1, q2, q3⟩
  dsimp only at *; subst e1
  refine Yl.cond (fun _ => ?_) fun _ => (ringed2 k s4 w' h' kn2 hb (by omega) (by omega) (by omega) (by omega) (by omega)).mono fun r hr => ?_
  · refine Yl.bind (chart_ok k s4 hb (by omega) (by omega)) ?_
    rintro ⟨w5, h5, kn5, l2, a5, s5⟩ ⟨e1, t2, t3⟩
    dsimp only at *; subst e1
    refine (ringed2 k s5 w5 h5 kn5 hb (by omega) (by omega) (by omega) (by omega) (by omega)).mono fun r hr => ?_
    unfold RingD at *
    exact ⟨hr.1, by omega⟩
  · unfold RingD at *
    exact ⟨hr.1, by omega⟩
theorem drawRing_ok (k : Nat) {l : List Int} (hb : By l) (hk : 3000 ≤ k) : Yl (spec_DrawRingOf.f k l) fun r => r.2.2.length ≤ 300 := by
  unfold spec_DrawRingOf.f spec_DrawRingOf.m
  refine Yl.bind (ringed_ok k 0 hb (by omega) hk) ?_
  rintro ⟨w, h, kn, l', a, s⟩ ⟨e1, e2, _⟩
  exact Yl.ret e2
def ringL (w h : Int) (l : List Int) : List Int := (ringP w h).map fun p => l.getD p.toNat 0
theorem ringDup (w h : Int) (hw : 2 ≤ w ∧ w ≤ 8) (hh : 2 ≤ h ∧ h ≤ 8) : decide ((ringP w h).Nodup) = true := by
  have h1 : w = 2 ∨ w = 3 ∨ w = 4 ∨ w = 5 ∨ w = 6 ∨ w = 7 ∨ w = 8 := by omega
  have h2 : h = 2 ∨ h = 3 ∨ h = 4 ∨ h = 5 ∨ h = 6 ∨ h = 7 ∨ h = 8 := by omega
  rcases h1 with rfl | rfl | rfl | rfl | rfl | rfl | rfl <;> rcases h2 with rfl | rfl | rfl | rfl | rfl | rfl | rfl <;> (refine Eq.symm (Eq.symm ?_); kernel_rfl)
theorem hasRing_eq (k : Nat) (w h : Int) (l : List Int) (hl : l.length ≤ 400) (hk : 1000 ≤ k) : impl_hasRing.f k w h l = some (ringB w h l) := by
  unfold impl_hasRing.f impl_hasRing.m impl_isRingSide.f impl_isRingSide.m ringB
  rw [isChart_eq k w h l (by omega) (by omega), implIn_eq, implIn_eq]; simp only [Option.bind_some]
  cases goodB w h l <;> cases inB w 2 8 <;> rfl
theorem iring_l (w h : Int) (l ps : List Int) (hp : ps.length ≤ 1000) (hb : ∀ p ∈ ps, 0 ≤ p ∧ p < l.length) : ∀ (d k i : Nat), i + d = ps.length → d < k → impl_Chart_ring.l4 k w h l ((ps.take i).map fun p => l.getD p.toNat 0) ps ps.length (i : Int) = some (ps.map fun p => l.getD p.toNat 0) := by
  intro d
  induction d with
  | zero =>
    intro k i h1 h2
    obtain ⟨k, rfl⟩ := succ_of h2
    simp (disch := omega) only [impl_Chart_ring.l4, impl_Chart_ring.b4, if_neg]
    rw [List.take_of_length_le (by omega)]
  | succ d ih =>
    intro k i h1 h2
    obtain ⟨k, rfl⟩ := succ_of (show 0 < k by omega)
    have hi : i < ps.length := by omega
    have hq := hb _ (List.getElem_mem hi)
    have h := ih k (i + 1) (by omega) (by omega)
    rw [show ((i + 1 : Nat) : Int) = (i : Int) + 1 by omega, List.take_succ_eq_append_getElem hi, List.map_append] at h
    simp (disch := omega) only [impl_Chart_ring.l4, impl_Chart_ring.b4, if_pos, chk_nat, Option.bind_some, getD_lt hi, w64_id]
    rw [chk_int hq]; simp only [Option.bind_some]
    rw [app_ok (by rw [List.length_map, List.length_take, List.length_singleton]; omega)]
    exact h
theorem ringL_len {w h : Int} {l : List Int} (hr : ringB w h l = true) : ((ringL w h l).length : Int) = 2 * w + 2 * h - 4 ∧ 4 ≤ (ringL w h l).length ∧ (ringL w h l).length ≤ 28 := by
  obtain ⟨hg, h1, h2⟩ := ringB_of hr
  have := (ringP_of w h h1 h2).2
  unfold ringL; rw [List.length_map]; omega
def ringOut (w h : Int) (l : List Int) : List Int × Bool := if ringB w h l = true then (ringL w h l, true) else ([], false)
def putRB (w h : Int) (l r : List Int) : Bool := ringB w h l && r.all colorB && decide ((r.length : Int) = 2 * w + 2 * h - 4)
def putROut (w h : Int) (l r : List Int) : Int × Int × List Int × Bool := if putRB w h l r = true then (w, h, ringR (ringP w h) r (ringP w h).length 0 l, true) else (0, 0, [], false)
theorem set_same {l : List Int} {i : Nat} : l.set i (l.getD i 0) = l := by
  rcases Nat.lt_or_ge i l.length with h | h
  · rw [getD_lt h]; exact List.set_getElem_self h
  · exact List.set_eq_of_length_le h
theorem ringR_same (ps : List Int) (l : List Int) : ∀ (d i : Nat), i + d = ps.length → ringR ps (ps.map fun p => l.getD p.toNat 0) d i l = l := by
  intro d
  induction d with
  | zero => intro i _; rfl
  | succ d ih =>
    intro i h
    have hi : i < ps.length := by omega
    unfold ringR
    have e : (Int.tmod (i : Int) ((ps.map fun p => l.getD p.toNat 0).length : Int)).toNat = i := by
      rw [List.length_map, Int.tmod_eq_emod_of_nonneg (by omega), Int.emod_eq_of_lt (by omega) (by omega)]; omega
    rw [e, getD_lt (xs := ps.map _) (by rw [List.length_map]; exact hi), List.getElem_map, getD_lt hi, set_same]
    exact ih (i + 1) (by omega)
theorem ringR_read (ps r : List Int) (hlen : r.length = ps.length) (hnd : ps.Nodup) (hpos : ∀ p ∈ ps, 0 ≤ p) : ∀ (d i : Nat) (xs : List Int), i + d = ps.length → (∀ p ∈ ps, p < xs.length) → ∀ j (hj : j < ps.length), (ringR ps r d i xs).getD ps[j].toNat 0 = if i ≤ j then r.getD j 0 else xs.getD ps[j].toNat 0 := by
  intro d
  induction d with
  | zero => intro i xs h1 h2 j hj; rw [if_neg (by omega)]; rfl
  | succ d ih =>
    intro i xs h1 h2 j hj
    have hi : i < ps.length := by omega
    have hp1 := hpos _ (List.getElem_mem hi)
    have hp2 := h2 _ (List.getElem_mem hi)
    have hq1 := hpos _ (List.getElem_mem hj)
    unfold ringR
    have e : (Int.tmod (i : Int) (r.length : Int)).toNat = i := by
      rw [Int.tmod_eq_emod_of_nonneg (by omega), Int.emod_eq_of_lt (by omega) (by omega)]; omega
    rw [e, getD_lt hi, ih (i + 1) _ (by omega) (by rw [List.length_set]; exact h2) j hj]
    by_cases h : i + 1 ≤ j
    · rw [if_pos h, if_pos (by omega)]
    · rw [if_neg h, getD_set (by omega)]
      by_cases h3 : i ≤ j
      · have : j = i := by omega
        subst this
        rw [if_pos rfl, if_pos (Nat.le_refl _)]
      · rw [if_neg h3, if_neg ?_]
        intro heq
        have heq2 : ps[i] = ps[j] := by omega
        have := (List.getElem_inj hnd).1 heq2
        omega
theorem ring_put {w h : Int} {l r : List Int} (hp : putRB w h l r = true) : ringL w h (ringR (ringP w h) r (ringP w h).length 0 l) = r := by
  unfold putRB at hp
  simp only [Bool.and_eq_true, decide_eq_true_eq] at hp
  obtain ⟨⟨hr, _⟩, hlen⟩ := hp
  obtain ⟨hg, h1, h2⟩ := ringB_of hr
  obtain ⟨_, _, hl, _⟩ := good_of hg
  obtain ⟨q1, q2⟩ := ringP_of w h h1 h2
  have hnd := of_decide_eq_true (ringDup w h h1 h2)
  have hrl : r.length = (ringP w h).length := by omega
  refine List.ext_getElem (by unfold ringL; rw [List.length_map, hrl]) fun j h3 h4 => ?_
  unfold ringL at h3 ⊢
  rw [List.getElem_map]
  have hj : j < (ringP w h).length := by rw [List.length_map] at h3; exact h3
  rw [ringR_read (ringP w h) r hrl hnd (fun p hp => (q1 p hp).1) (ringP w h).length 0 l (by omega) (fun p hp => by have := (q1 p hp).2; omega) j hj, if_pos (Nat.zero_le _), getD_lt h4]
theorem ringR_mem (ps r : List Int) (hr : 0 < r.length) : ∀ (d i : Nat) (xs : List Int) (x : Int), x ∈ ringR ps r d i xs → x ∈ xs ∨ x ∈ r := by
  intro d
  induction d with
  | zero => intro i xs x h; exact .inl h
  | succ d ih =>
    intro i xs x h
    unfold ringR at h
    rcases ih _ _ x h with h | h
    · rcases List.mem_or_eq_of_mem_set h with h | h
      · exact .inl h
      · have hm1 : 0 ≤ Int.tmod (i : Int) (r.length : Int) := Int.tmod_nonneg _ (by omega)
        have hm2 : Int.tmod (i : Int) (r.length : Int) < (r.length : Int) := Int.tmod_lt_of_pos _ (by omega)
        rw [getD_lt (by omega)] at h
        exact .inr (h ▸ List.getElem_mem _)
    · exact .inr h
theorem put_ring {w h : Int} {l r : List Int} (hp : putRB w h l r = true) : ringB w h (ringR (ringP w h) r (ringP w h).length 0 l) = true := by
  unfold putRB at hp
  simp only [Bool.and_eq_true, decide_eq_true_eq] at hp
  obtain ⟨⟨hr, hc⟩, hlen⟩ := hp
  obtain ⟨hg, h1, h2⟩ := ringB_of hr
  obtain ⟨g1, g2, g3, g4⟩ := good_of hg
  have hpos : 0 < r.length := by omega
  unfold ringB goodB
  simp only [Bool.and_eq_true, decide_eq_true_eq, List.all_eq_true, inB_iff]
  refine ⟨⟨⟨⟨⟨g1, g2⟩, by rw [ringR_len]; exact g3⟩, fun x hx => ?_⟩, h1⟩, h2⟩
  rcases ringR_mem _ r hpos _ _ _ x hx with h | h
  · exact inB_of (g4 x h)
  · exact List.all_eq_true.1 hc x h
/-! ### The period -/
def isPer (r : List Int) (p : Nat) : Bool := (List.range r.length).all (fun i => decide (r.getD i 0 = r.getD ((i + p) % r.length) 0)) && decide (r.length % p = 0)
def perF (r : List Int) : Nat → Nat → Nat
  | 0, p => p
  | d + 1, p => if isPer r p = true then p else perF r d (p + 1)
theorem isPer_len {r : List Int} : isPer r r.length = true := by
  unfold isPer
  rw [Bool.and_eq_true, List.all_eq_true, decide_eq_true_eq]
  refine ⟨fun i hi => ?_, Nat.mod_self _⟩
  rw [List.mem_range] at hi
  rw [decide_eq_true_eq, Nat.add_mod_right, Nat.mod_eq_of_lt hi]
theorem perF_ok (r : List Int) : ∀ (d p : Nat), p + d = r.length → 1 ≤ p → isPer r (perF r d p) = true ∧ 1 ≤ perF r d p ∧ perF r d p ≤ r.length := by
  intro d
  induction d with
  | zero =>
    intro p h1 h2
    have : p = r.length := by omega
    subst this
    exact ⟨isPer_len, h2, Nat.le_refl _⟩
  | succ d ih =>
    intro p h1 h2
    unfold perF
    by_cases h : isPer r p = true
    · rw [if_pos h]; exact ⟨h, h2, by omega⟩
    · rw [if_neg h]; exact ih (p + 1) (by omega) (by omega)
theorem iper_l (r : List Int) (hr : 0 < r.length ∧ r.length ≤ 1000) (p : Nat) (hp : 1 ≤ p ∧ p ≤ r.length) (k : Nat) (hk : 2000 ≤ k) : impl_RingPeriod_1.f k (p : Int) r = some (isPer r p) := by
  unfold impl_RingPeriod_1.f impl_RingPeriod_1.m
  have hq := (all_loop (L := fun k i => impl_RingPeriod_1.l3 k (p : Int) r r r.length (i : Int)) (n := r.length) (K0 := 20) (ok := fun i => decide (r.getD i 0 = r.getD ((i + p) % r.length) 0)) (f := some false) (fun k i hk hi => ?_)) r.length k 0 (by omega) (by omega)
  · rw [show ((0 : Nat) : Int) = 0 from rfl] at hq
    unfold isPer
    by_cases hc : ∀ i, i < r.length → decide (r.getD i 0 = r.getD ((i + p) % r.length) 0) = true
    · rw [hq.1 (some (decide (r.length % p = 0))) (fun k hk => ?_) (fun j _ hj => hc j hj)]
      · have : (List.range r.length).all (fun i => decide (r.getD i 0 = r.getD ((i + p) % r.length) 0)) = true := List.all_eq_true.2 fun i hi => hc i (List.mem_range.1 hi)
        rw [this, Bool.true_and]
      · simp (disch := omega) only [impl_RingPeriod_1.l3, impl_RingPeriod_1.b3, if_neg, rem_ok, Option.bind_some]
        rw [Int.tmod_eq_emod_of_nonneg (by omega), ← Int.natCast_emod]
        congr 1
        rw [Bool.eq_iff_iff, decide_eq_true_eq, decide_eq_true_eq]; omega
    · rw [hq.2 (exists_bad hc)]
      have : (List.range r.length).all (fun i => decide (r.getD i 0 = r.getD ((i + p) % r.length) 0)) = false := by
        rw [← Bool.not_eq_true, List.all_eq_true]
        exact fun hn => hc fun i hi => hn i (List.mem_range.2 hi)
      rw [this, Bool.false_and]
  · have hm := Nat.mod_lt (i + p) hr.1
    simp (disch := omega) only [impl_RingPeriod_1.l3, impl_RingPeriod_1.b3, if_pos, chk_nat, Option.bind_some, w64_id, rem_ok]
    rw [Int.tmod_eq_emod_of_nonneg (by omega), show (i : Int) + (p : Int) = ((i + p : Nat) : Int) by omega, ← Int.natCast_emod, chk_nat hm]
    simp only [Option.bind_some, Int.natCast_add, Int.cast_ofNat_Int]
    by_cases e : r.getD i 0 = r.getD ((i + p) % r.length) 0 <;> simp only [e, Bool.not_true, Bool.not_false, cond_true, cond_false, Bool.true_and, Bool.false_and, Bool.and_true, Bool.and_false, Bool.false_eq_true, Bool.true_or, Bool.or_true, Bool.false_or, Bool.or_false, Bool.or_self, Bool.and_self, decide_true, decide_false, if_true, if_false, not_true, not_false_eq_true, not_true_eq_false, false_or, or_false, true_and, and_true, Bool.not_eq_true, Bool.true_eq_false, reduceCtorEq]
theorem iperiod_l (r : List Int) (hr : 0 < r.length ∧ r.length ≤ 900) : ∀ (d k p : Nat), p + d = r.length → 1 ≤ p → 3000 + d ≤ k → impl_RingPeriod.l8 k r (p : Int) = some (((perF r d p : Nat) : Int), true) := by
  intro d
  induction d with
  | zero =>
    intro k p h1 h2 h3
    obtain ⟨k, rfl⟩ := succ_of (show 0 < k by omega)
    have : p = r.length := by omega
    subst this
    simp only [impl_RingPeriod.l8, impl_RingPeriod.b8]
    rw [iper_l r (by omega) r.length (by omega) k (by omega), isPer_len]; rfl
  | succ d ih =>
    intro k p h1 h2 h3
    obtain ⟨k, rfl⟩ := succ_of (show 0 < k by omega)
    simp only [impl_RingPeriod.l8, impl_RingPeriod.b8]
    rw [iper_l r (by omega) p (by omega) k (by omega)]; simp only [Option.bind_some]
    unfold perF
    cases h : isPer r p
    · simp only [Bool.not_true, Bool.not_false, cond_true, cond_false, Bool.true_and, Bool.false_and, Bool.and_true, Bool.and_false, Bool.false_eq_true, Bool.true_or, Bool.or_true, Bool.false_or, Bool.or_false, Bool.or_self, Bool.and_self, decide_true, decide_false, if_true, if_false, not_true, not_false_eq_true, not_true_eq_false, false_or, or_false, true_and, and_true, Bool.not_eq_true, Bool.true_eq_false, reduceCtorEq]
      rw [w64_id (by omega), show ((p : Int) + 1) = ((p + 1 : Nat) : Int) by omega]
      exact ih k (p + 1) (by omega) (by omega) (by omega)
    · simp only [Bool.not_true, Bool.not_false, cond_true, cond_false, Bool.true_and, Bool.false_and, Bool.and_true, Bool.and_false, Bool.false_eq_true, Bool.true_or, Bool.or_true, Bool.false_or, Bool.or_false, Bool.or_self, Bool.and_self, decide_true, decide_false, if_true, if_false, not_true, not_false_eq_true, not_true_eq_false, false_or, or_false, true_and, and_true, Bool.not_eq_true, Bool.true_eq_false, reduceCtorEq]
def perOut (w h : Int) (l : List Int) : Int × Bool := if ringB w h l = true then (((perF (ringL w h l) ((ringL w h l).length - 1) 1 : Nat) : Int), true) else (0, false)
theorem isPattern_eq (k : Nat) (l : List Int) (hl : l.length ≤ 100000000000000) (hk : l.length + 50 ≤ k) : impl_isPattern.f k l = some (patB l) := by
  unfold impl_isPattern.f impl_isPattern.m patB
  rw [areColors_eq k l hl hk, implIn_eq]; simp only [Option.bind_some]
  cases l.all colorB <;> cases inB (l.length : Int) 1 8 <;> rfl
theorem blank_eq (k : Nat) (w h : Int) (hw : 1 ≤ w ∧ w ≤ 8) (hh : 1 ≤ h ∧ h ≤ 8) : spec_l6Blank.f k w h = some (w, h, List.replicate (w * h).toNat 0, true) := by
  have := mul_bd hw hh
  unfold spec_l6Blank.f spec_l6Blank.m
  rw [l2Side_eq, l2Side_eq, inB_of hw, inB_of hh]
  simp (disch := omega) only [Option.bind_some, Bool.not_true, Bool.not_false, cond_true, cond_false, Bool.true_and, Bool.false_and, Bool.and_true, Bool.and_false, Bool.false_eq_true, Bool.true_or, Bool.or_true, Bool.false_or, Bool.or_false, Bool.or_self, Bool.and_self, decide_true, decide_false, if_true, if_false, not_true, not_false_eq_true, not_true_eq_false, false_or, or_false, true_and, and_true, Bool.not_eq_true, Bool.true_eq_false, reduceCtorEq, w64_id, mkl_int]
theorem make_k (w h : Int) (hw : 3 ≤ w ∧ w ≤ 8) (hh : 3 ≤ h ∧ h ≤ 8) (k : Nat) : impl_makeChart__impl_AddBorder_1.f (k + 100) w h = some (w, h, List.replicate (w * h).toNat 0) := by
  have h1 : w = 3 ∨ w = 4 ∨ w = 5 ∨ w = 6 ∨ w = 7 ∨ w = 8 := by omega
  have h2 : h = 3 ∨ h = 4 ∨ h = 5 ∨ h = 6 ∨ h = 7 ∨ h = 8 := by omega
  rcases h1 with rfl | rfl | rfl | rfl | rfl | rfl <;> rcases h2 with rfl | rfl | rfl | rfl | rfl | rfl <;> (refine Eq.symm (Eq.symm ?_); kernel_rfl)
theorem blank_good {w h : Int} (hw : 1 ≤ w ∧ w ≤ 8) (hh : 1 ≤ h ∧ h ≤ 8) : goodB w h (List.replicate (w * h).toNat 0) = true := by
  have := mul_bd hw hh
  unfold goodB
  rw [inB_of hw, inB_of hh]
  have h1 : (((w * h).toNat : Nat) : Int) = w * h := Int.toNat_of_nonneg (by omega)
  simp only [List.length_replicate, h1, decide_true, Bool.true_and, List.all_eq_true]
  intro x hx; rw [List.eq_of_mem_replicate hx]; rfl
def bordC (w h : Int) (l p : List Int) : Prop := goodB w h l = true ∧ patB p = true ∧ w ≤ 6 ∧ h ≤ 6 ∧ (2 * (w + 2) + 2 * (h + 2) - 4).tmod p.length = 0
def bordL (w h : Int) (l p : List Int) : List Int := ringR (ringP (w + 2) (h + 2)) p (ringP (w + 2) (h + 2)).length 0 (putR (w + 2).toNat 1 1 w.toNat l h.toNat 0 (List.replicate ((w + 2) * (h + 2)).toNat 0))
open Classical in
noncomputable def bordOut (w h : Int) (l p : List Int) : Int × Int × List Int × Bool := if bordC w h l p then (w + 2, h + 2, bordL w h l p, true) else (0, 0, [], false)
theorem put_len1 {w h : Int} {l : List Int} (h1 : goodB w h l = true) (hw : w ≤ 6) (hh : h ≤ 6) : ((putR (w + 2).toNat 1 1 w.toNat l h.toNat 0 (List.replicate ((w + 2) * (h + 2)).toNat 0)).length : Int) = (w + 2) * (h + 2) := by
  obtain ⟨gw, gh, hl, _⟩ := good_of h1
  obtain ⟨w, rfl⟩ := Int.eq_ofNat_of_zero_le (show 0 ≤ w by omega)
  obtain ⟨h, rfl⟩ := Int.eq_ofNat_of_zero_le (show 0 ≤ h by omega)
  have hl' := lenN hl
  have e1 : ((w : Int) + 2).toNat = w + 2 := by omega
  have e2 : (((w : Int) + 2) * ((h : Int) + 2)).toNat = (w + 2) * (h + 2) := by
    rw [show ((w : Int) + 2) * ((h : Int) + 2) = (((w + 2) * (h + 2) : Nat) : Int) by rw [nat_mul_cast]; rfl, Int.toNat_natCast]
  rw [e1, e2, Int.toNat_natCast, Int.toNat_natCast, putR_len (w + 2) (h + 2) 1 1 w h l hl' (by omega) h 0 _ (by omega) (by omega) (by simp), nat_mul_cast]; rfl
theorem bordOut_len (w h : Int) (l p : List Int) : (bordOut w h l p).2.2.1.length ≤ 64 := by
  unfold bordOut
  split
  · rename_i hc
    obtain ⟨h1, h2, h3, h4, _⟩ := hc
    obtain ⟨gw, gh, hl, _⟩ := good_of h1
    have := mul_bd (w := w + 2) (h := h + 2) (by omega) (by omega)
    have hp := put_len1 h1 h3 h4
    simp only [bordL]
    rw [ringR_len]; omega
  · simp
theorem addBorder_eq (k : Nat) (w h : Int) (l p : List Int) (hl : l.length ≤ 4194304) (hp : p.length ≤ 4194304) (hk : 5000000 ≤ k) : spec_AddBorder.f k w h l p = some (bordOut w h l p) ∧ impl_AddBorder.f k w h l p = some (bordOut w h l p) := by
  have hno : ∀ r, ¬ bordC w h l p → r = (0, 0, ([] : List Int), false) → some r = some (bordOut w h l p) := fun r hc hr => by unfold bordOut; rw [if_neg hc, hr]
  refine ⟨?_, ?_⟩
  · show spec_AddBorder.f k w h l p = some (bordOut w h l p)
    unfold spec_AddBorder.f spec_AddBorder.m
    rw [l2Good_eq k w h l (by omega) (by omega)]; simp only [Option.bind_some]
    cases h1 : goodB w h l
    · exact hno _ (fun hc => by have := hc.1; rw [h1] at this; cases this) rfl
    rw [l8Pattern_eq k p (by omega) (by omega)]; simp only [Option.bind_some, Bool.not_true, Bool.not_false, cond_true, cond_false, Bool.true_and, Bool.false_and, Bool.and_true, Bool.and_false, Bool.false_eq_true, Bool.true_or, Bool.or_true, Bool.false_or, Bool.or_false, Bool.or_self, Bool.and_self, decide_true, decide_false, if_true, if_false, not_true, not_false_eq_true, not_true_eq_false, false_or, or_false, true_and, and_true, Bool.not_eq_true, Bool.true_eq_false, reduceCtorEq]
    cases h2 : patB p
    · exact hno _ (fun hc => by have := hc.2.1; rw [h2] at this; cases this) rfl
    obtain ⟨gw, gh, gl, _⟩ := good_of h1
    rw [w64_id (x := w + 2) (by omega), w64_id (x := h + 2) (by omega)]
    by_cases h3 : w ≤ 6 ∧ h ≤ 6
    · have hpl : 1 ≤ (p.length : Int) ∧ (p.length : Int) ≤ 8 := by unfold patB at h2; simp only [Bool.and_eq_true, inB_iff] at h2; exact h2.2
      rw [blank_eq k (w + 2) (h + 2) (by omega) (by omega)]; simp only [Option.bind_some, Bool.not_true, Bool.not_false, cond_true, cond_false, Bool.true_and, Bool.false_and, Bool.and_true, Bool.and_false, Bool.false_eq_true, Bool.true_or, Bool.or_true, Bool.false_or, Bool.or_false, Bool.or_self, Bool.and_self, decide_true, decide_false, if_true, if_false, not_true, not_false_eq_true, not_true_eq_false, false_or, or_false, true_and, and_true, Bool.not_eq_true, Bool.true_eq_false, reduceCtorEq]
      rw [l8Length_eq k (w + 2) (h + 2) (by omega) (by omega)]; simp only [Option.bind_some]
      rw [rem_ok (by omega)]; simp only [Option.bind_some]
      by_cases h4 : (2 * (w + 2) + 2 * (h + 2) - 4).tmod (p.length : Int) = 0
      · have hput := (put_both (w + 2) (h + 2) _ w h l 1 1 (blank_good (by omega) (by omega)) h1 (by unfold fitsB; rw [inB_of (by omega), inB_of (by omega), inB_of (by omega), inB_of (by omega)]; rfl) k (by omega)).1
        simp only [h4, Bool.not_true, Bool.not_false, cond_true, cond_false, Bool.true_and, Bool.false_and, Bool.and_true, Bool.and_false, Bool.false_eq_true, Bool.true_or, Bool.or_true, Bool.false_or, Bool.or_false, Bool.or_self, Bool.and_self, decide_true, decide_false, if_true, if_false, not_true, not_false_eq_true, not_true_eq_false, false_or, or_false, true_and, and_true, Bool.not_eq_true, Bool.true_eq_false, reduceCtorEq]
        rw [hput]; simp only [Option.bind_some, show Int.toNat 1 = 1 from rfl]
        rw [l8Put_eq (w + 2) (h + 2) _ p (by omega) (by omega) (put_len1 h1 h3.1 h3.2) (by omega) k (by omega)]
        unfold bordOut
        rw [if_pos ⟨h1, h2, h3.1, h3.2, h4⟩]; rfl
      · simp only [h4, Bool.not_true, Bool.not_false, cond_true, cond_false, Bool.true_and, Bool.false_and, Bool.and_true, Bool.and_false, Bool.false_eq_true, Bool.true_or, Bool.or_true, Bool.false_or, Bool.or_false, Bool.or_self, Bool.and_self, decide_true, decide_false, if_true, if_false, not_true, not_false_eq_true, not_true_eq_false, false_or, or_false, true_and, and_true, Bool.not_eq_true, Bool.true_eq_false, reduceCtorEq]
        exact hno _ (fun hc => h4 hc.2.2.2.2) rfl
    · have hb : spec_l6Blank.f k (w + 2) (h + 2) = some (0, 0, [], false) := by
        unfold spec_l6Blank.f spec_l6Blank.m
        rw [l2Side_eq, l2Side_eq]; simp only [Option.bind_some]
        cases e1 : inB (w + 2) 1 8 <;> simp only [Bool.not_true, Bool.not_false, cond_true, cond_false, Bool.true_and, Bool.false_and, Bool.and_true, Bool.and_false, Bool.false_eq_true, Bool.true_or, Bool.or_true, Bool.false_or, Bool.or_false, Bool.or_self, Bool.and_self, decide_true, decide_false, if_true, if_false, not_true, not_false_eq_true, not_true_eq_false, false_or, or_false, true_and, and_true, Bool.not_eq_true, Bool.true_eq_false, reduceCtorEq]
        cases e2 : inB (h + 2) 1 8 <;> simp only [Bool.not_true, Bool.not_false, cond_true, cond_false, Bool.true_and, Bool.false_and, Bool.and_true, Bool.and_false, Bool.false_eq_true, Bool.true_or, Bool.or_true, Bool.false_or, Bool.or_false, Bool.or_self, Bool.and_self, decide_true, decide_false, if_true, if_false, not_true, not_false_eq_true, not_true_eq_false, false_or, or_false, true_and, and_true, Bool.not_eq_true, Bool.true_eq_false, reduceCtorEq]
        rw [inB_iff] at e1 e2; omega
      rw [hb]; simp only [Option.bind_some, Bool.not_true, Bool.not_false, cond_true, cond_false, Bool.true_and, Bool.false_and, Bool.and_true, Bool.and_false, Bool.false_eq_true, Bool.true_or, Bool.or_true, Bool.false_or, Bool.or_false, Bool.or_self, Bool.and_self, decide_true, decide_false, if_true, if_false, not_true, not_false_eq_true, not_true_eq_false, false_or, or_false, true_and, and_true, Bool.not_eq_true, Bool.true_eq_false, reduceCtorEq]
      exact hno _ (fun hc => h3 ⟨hc.2.2.1, hc.2.2.2.1⟩) rfl
  · show impl_AddBorder.f k w h l p = some (bordOut w h l p)
    unfold impl_AddBorder.f impl_AddBorder.m
    rw [isChart_eq k w h l (by omega) (by omega)]; simp only [Option.bind_some]
    cases h1 : goodB w h l
    · exact hno _ (fun hc => by have := hc.1; rw [h1] at this; cases this) rfl
    rw [isPattern_eq k p (by omega) (by omega)]; simp only [Option.bind_some, Bool.not_true, Bool.not_false, cond_true, cond_false, Bool.true_and, Bool.false_and, Bool.and_true, Bool.and_false, Bool.false_eq_true, Bool.true_or, Bool.or_true, Bool.false_or, Bool.or_false, Bool.or_self, Bool.and_self, decide_true, decide_false, if_true, if_false, not_true, not_false_eq_true, not_true_eq_false, false_or, or_false, true_and, and_true, Bool.not_eq_true, Bool.true_eq_false, reduceCtorEq]
    cases h2 : patB p
    · exact hno _ (fun hc => by have := hc.2.1; rw [h2] at this; cases this) rfl
    obtain ⟨gw, gh, gl, _⟩ := good_of h1
    rw [w64_id (x := w + 2) (by omega), w64_id (x := h + 2) (by omega), isSide_eq, isSide_eq]; simp only [Option.bind_some, Bool.not_true, Bool.not_false, cond_true, cond_false, Bool.true_and, Bool.false_and, Bool.and_true, Bool.and_false, Bool.false_eq_true, Bool.true_or, Bool.or_true, Bool.false_or, Bool.or_false, Bool.or_self, Bool.and_self, decide_true, decide_false, if_true, if_false, not_true, not_false_eq_true, not_true_eq_false, false_or, or_false, true_and, and_true, Bool.not_eq_true, Bool.true_eq_false, reduceCtorEq]
    cases e1 : inB (w + 2) 1 8
    · simp only [Bool.not_true, Bool.not_false, cond_true, cond_false, Bool.true_and, Bool.false_and, Bool.and_true, Bool.and_false, Bool.false_eq_true, Bool.true_or, Bool.or_true, Bool.false_or, Bool.or_false, Bool.or_self, Bool.and_self, decide_true, decide_false, if_true, if_false, not_true, not_false_eq_true, not_true_eq_false, false_or, or_false, true_and, and_true, Bool.not_eq_true, Bool.true_eq_false, reduceCtorEq]
      exact hno _ (fun hc => by have := hc.2.2.1; rw [inB_of (by omega)] at e1; cases e1) rfl
    cases e2 : inB (h + 2) 1 8
    · simp only [Bool.not_true, Bool.not_false, cond_true, cond_false, Bool.true_and, Bool.false_and, Bool.and_true, Bool.and_false, Bool.false_eq_true, Bool.true_or, Bool.or_true, Bool.false_or, Bool.or_false, Bool.or_self, Bool.and_self, decide_true, decide_false, if_true, if_false, not_true, not_false_eq_true, not_true_eq_false, false_or, or_false, true_and, and_true, Bool.not_eq_true, Bool.true_eq_false, reduceCtorEq]
      exact hno _ (fun hc => by have := hc.2.2.2.1; rw [inB_of (by omega)] at e2; cases e2) rfl
    rw [inB_iff] at e1 e2
    have hpl : 1 ≤ (p.length : Int) ∧ (p.length : Int) ≤ 8 := by unfold patB at h2; simp only [Bool.and_eq_true, inB_iff] at h2; exact h2.2
    obtain ⟨m, rfl⟩ : ∃ m, k = m + 100 := ⟨k - 100, by omega⟩
    rw [make_k (w + 2) (h + 2) (by omega) (by omega)]; simp only [Option.bind_some, Bool.not_true, Bool.not_false, cond_true, cond_false, Bool.true_and, Bool.false_and, Bool.and_true, Bool.and_false, Bool.false_eq_true, Bool.true_or, Bool.or_true, Bool.false_or, Bool.or_false, Bool.or_self, Bool.and_self, decide_true, decide_false, if_true, if_false, not_true, not_false_eq_true, not_true_eq_false, false_or, or_false, true_and, and_true, Bool.not_eq_true, Bool.true_eq_false, reduceCtorEq]
    rw [(put_both (w + 2) (h + 2) _ w h l 1 1 (blank_good (by omega) (by omega)) h1 (by unfold fitsB; rw [inB_of (by omega), inB_of (by omega), inB_of (by omega), inB_of (by omega)]; rfl) (m + 100) (by omega)).2]; simp only [Option.bind_some, show Int.toNat 1 = 1 from rfl]
    rw [ringLength_eq _ (w + 2) (h + 2) (by omega) (by omega)]; simp only [Option.bind_some]
    rw [rem_ok (by omega)]; simp only [Option.bind_some]
    by_cases h4 : (2 * (w + 2) + 2 * (h + 2) - 4).tmod (p.length : Int) = 0
    · simp only [h4, Bool.not_true, Bool.not_false, cond_true, cond_false, Bool.true_and, Bool.false_and, Bool.and_true, Bool.and_false, Bool.false_eq_true, Bool.true_or, Bool.or_true, Bool.false_or, Bool.or_false, Bool.or_self, Bool.and_self, decide_true, decide_false, if_true, if_false, not_true, not_false_eq_true, not_true_eq_false, false_or, or_false, true_and, and_true, Bool.not_eq_true, Bool.true_eq_false, reduceCtorEq]
      rw [withRing_eq (w + 2) (h + 2) _ p (by omega) (by omega) (put_len1 h1 (by omega) (by omega)) (by omega) _ (by omega)]
      unfold bordOut
      rw [if_pos ⟨h1, h2, by omega, by omega, h4⟩]; rfl
    · simp only [h4, Bool.not_true, Bool.not_false, cond_true, cond_false, Bool.true_and, Bool.false_and, Bool.and_true, Bool.and_false, Bool.false_eq_true, Bool.true_or, Bool.or_true, Bool.false_or, Bool.or_false, Bool.or_self, Bool.and_self, decide_true, decide_false, if_true, if_false, not_true, not_false_eq_true, not_true_eq_false, false_or, or_false, true_and, and_true, Bool.not_eq_true, Bool.true_eq_false, reduceCtorEq]
      exact hno _ (fun hc => h4 hc.2.2.2.2) rfl
/-! ### The ring and what is inside of it -/
def ringEdge (w h : Int) : Bool := (ringP w h).all (fun p => decide (p / w = 0) || decide (p / w = h - 1) || decide (p % w = 0) || decide (p % w = w - 1)) && decide ((ringP w h).getD 0 1 = 0)
theorem ringEdge_all (w h : Int) (hw : 2 ≤ w ∧ w ≤ 8) (hh : 2 ≤ h ∧ h ≤ 8) : ringEdge w h = true := by
  have h1 : w = 2 ∨ w = 3 ∨ w = 4 ∨ w = 5 ∨ w = 6 ∨ w = 7 ∨ w = 8 := by omega
  have h2 : h = 2 ∨ h = 3 ∨ h = 4 ∨ h = 5 ∨ h = 6 ∨ h = 7 ∨ h = 8 := by omega
  rcases h1 with rfl | rfl | rfl | rfl | rfl | rfl | rfl <;> rcases h2 with rfl | rfl | rfl | rfl | rfl | rfl | rfl <;> (refine Eq.symm (Eq.symm ?_); kernel_rfl)
theorem ringR_other (ps r : List Int) : ∀ (d i : Nat) (xs : List Int) (q : Nat), (∀ p ∈ ps, p.toNat ≠ q) → i + d ≤ ps.length → (ringR ps r d i xs).getD q 0 = xs.getD q 0 := by
  intro d
  induction d with
  | zero => intro i xs q _ _; rfl
  | succ d ih =>
    intro i xs q h1 h2
    unfold ringR
    rw [ih (i + 1) _ q h1 (by omega)]
    have hi : i < ps.length := by omega
    have hne := h1 _ (List.getElem_mem hi)
    have hset : ∀ y, (xs.set ps[i].toNat y).getD q 0 = xs.getD q 0 := fun y => by
      rw [List.getD_eq_getElem?_getD, List.getD_eq_getElem?_getD, List.getElem?_set_ne hne]
    rw [getD_lt hi]; exact hset _
theorem row_ext {a b : List Int} {x y W : Nat} (ha : x + W ≤ a.length) (hb : y + W ≤ b.length) (h : ∀ j, j < W → a.getD (x + j) 0 = b.getD (y + j) 0) : (a.drop x).take W = (b.drop y).take W := by
  refine List.ext_getElem (by rw [List.length_take, List.length_take, List.length_drop, List.length_drop]; omega) fun j h1 h2 => ?_
  rw [List.length_take, List.length_drop] at h1
  have := h j (by omega)
  rw [getD_lt (by omega), getD_lt (by omega)] at this
  rw [List.getElem_take, List.getElem_take, List.getElem_drop, List.getElem_drop]; exact this
theorem row_get {a b : List Int} {x y W j : Nat} (ha : x + W ≤ a.length) (hb : y + W ≤ b.length) (h : (a.drop x).take W = (b.drop y).take W) (hj : j < W) : a.getD (x + j) 0 = b.getD (y + j) 0 := by
  have h1 : ((a.drop x).take W).getD j 0 = ((b.drop y).take W).getD j 0 := by rw [h]
  rw [getD_lt (by rw [List.length_take, List.length_drop]; omega), getD_lt (by rw [List.length_take, List.length_drop]; omega), List.getElem_take, List.getElem_take, List.getElem_drop, List.getElem_drop] at h1
  rw [getD_lt (by omega), getD_lt (by omega)]; exact h1
def baseL (w h : Int) (l : List Int) : List Int := putR (w + 2).toNat 1 1 w.toNat l h.toNat 0 (List.replicate ((w + 2) * (h + 2)).toNat 0)
theorem bordL_eq (w h : Int) (l p : List Int) : bordL w h l p = ringR (ringP (w + 2) (h + 2)) p (ringP (w + 2) (h + 2)).length 0 (baseL w h l) := rfl
/-- The inside of a chart with a border. -/
theorem strip_back {w h : Int} {l p : List Int} (hc : bordC w h l p) : partR (w + 2).toNat 1 1 w.toNat (bordL w h l p) h.toNat 0 = l := by
  obtain ⟨h1, h2, h3, h4, _⟩ := hc
  obtain ⟨gw, gh, gl, _⟩ := good_of h1
  have hbl := put_len1 h1 h3 h4
  have hed := ringEdge_all (w + 2) (h + 2) (by omega) (by omega)
  unfold ringEdge at hed
  rw [Bool.and_eq_true, List.all_eq_true] at hed
  have hpos := (ringP_of (w + 2) (h + 2) (by omega) (by omega)).1
  rw [bordL_eq]
  have hbl' : ((baseL w h l).length : Int) = (w + 2) * (h + 2) := hbl
  have hrd : ∀ q, q < h.toNat → ((baseL w h l).drop ((1 + q) * (w + 2).toNat + 1)).take w.toNat = (l.drop (q * w.toNat)).take w.toNat := by
    intro q hq
    obtain ⟨w, rfl⟩ := Int.eq_ofNat_of_zero_le (show 0 ≤ w by omega)
    obtain ⟨h, rfl⟩ := Int.eq_ofNat_of_zero_le (show 0 ≤ h by omega)
    have hl' := lenN gl
    have e1 : ((w : Int) + 2).toNat = w + 2 := by omega
    have e2 : (((w : Int) + 2) * ((h : Int) + 2)).toNat = (w + 2) * (h + 2) := by
      rw [show ((w : Int) + 2) * ((h : Int) + 2) = (((w + 2) * (h + 2) : Nat) : Int) by rw [nat_mul_cast]; rfl, Int.toNat_natCast]
    unfold baseL
    rw [e1, e2, Int.toNat_natCast, Int.toNat_natCast]
    exact (put_read (w := w + 2) (h := h + 2) (R := 1) (C := 1) (W := w) (H := h) (p := l) hl' (by omega) (by omega) h 0 _ (by omega) (by simp)).2 q (by omega) (by omega)
  generalize baseL w h l = b at *
  obtain ⟨w, rfl⟩ := Int.eq_ofNat_of_zero_le (show 0 ≤ w by omega)
  obtain ⟨h, rfl⟩ := Int.eq_ofNat_of_zero_le (show 0 ≤ h by omega)
  have hl' := lenN gl
  have e1 : ((w : Int) + 2).toNat = w + 2 := by omega
  simp only [e1, Int.toNat_natCast] at *
  have hblN : b.length = (w + 2) * (h + 2) := by
    have : ((w : Int) + 2) * ((h : Int) + 2) = (((w + 2) * (h + 2) : Nat) : Int) := by rw [nat_mul_cast]; rfl
    omega
  have := part_of_rows (w := w + 2) (R := 1) (C := 1) (W := w) (H := h) (l := ringR (ringP ((w : Int) + 2) ((h : Int) + 2)) p (ringP ((w : Int) + 2) ((h : Int) + 2)).length 0 b) (p := l) hl' (fun q hq => by
    rw [← hrd q hq]
    have hrow := rowL (w := w + 2) (h := h + 2) (R := 1) (C := 1) (W := w) (H := h) (r := q) hblN (by omega) (by omega) hq
    refine row_ext (by rw [ringR_len]; exact hrow.1) hrow.1 fun j hj => ?_
    refine ringR_other _ _ _ 0 b _ (fun pp hpp heq => ?_) (by omega)
    have k1 := hed.1 pp hpp
    have k2 := hpos pp hpp
    have hppe : pp = (((1 + q) * (w + 2) + (1 + j) : Nat) : Int) := by omega
    have hdiv : pp / ((w : Int) + 2) = ((1 + q : Nat) : Int) := by
      rw [hppe, show (w : Int) + 2 = ((w + 2 : Nat) : Int) by omega, ← Int.natCast_ediv, Nat.mul_comm (1 + q), Nat.mul_add_div (by omega), Nat.div_eq_of_lt (by omega), Nat.add_zero]
    have hmod : pp % ((w : Int) + 2) = ((1 + j : Nat) : Int) := by
      rw [hppe, show (w : Int) + 2 = ((w + 2 : Nat) : Int) by omega, ← Int.natCast_emod, Nat.mul_comm (1 + q), Nat.mul_add_mod, Nat.mod_eq_of_lt (by omega)]
    rw [hdiv, hmod] at k1
    simp only [Bool.or_eq_true, decide_eq_true_eq] at k1
    omega) h 0 (by omega)
  rw [Nat.zero_mul, List.drop_zero] at this
  exact this
theorem ringI (k : Nat) {w h : Int} {l : List Int} (hr : ringB w h l = true) (hk : 200 ≤ k) : impl_Chart_ring.f k w h l = some (ringL w h l) := by
  obtain ⟨hg, h1, h2⟩ := ringB_of hr
  obtain ⟨_, _, hl, _⟩ := good_of hg
  have hb := mul_bd (w := w) (h := h) (by omega) (by omega)
  have hp := ringP_of w h h1 h2
  unfold impl_Chart_ring.f impl_Chart_ring.m
  rw [ringPlaces_eq w h h1 h2 k (by omega)]; simp only [Option.bind_some]
  exact iring_l w h l (ringP w h) (by omega) (fun p hpp => by have := hp.1 p hpp; omega) (ringP w h).length k 0 (by omega) (by omega)
theorem ringPeriodI (k : Nat) (w h : Int) (l : List Int) (hl : l.length ≤ 400) (hk : 40000 ≤ k) : impl_RingPeriod.f k w h l = some (perOut w h l) := by
  unfold impl_RingPeriod.f impl_RingPeriod.m perOut
  rw [hasRing_eq k w h l hl (by omega)]; simp only [Option.bind_some]
  cases hr : ringB w h l <;> simp only [Bool.not_true, Bool.not_false, cond_true, cond_false, Bool.true_and, Bool.false_and, Bool.and_true, Bool.and_false, Bool.false_eq_true, Bool.true_or, Bool.or_true, Bool.false_or, Bool.or_false, Bool.or_self, Bool.and_self, decide_true, decide_false, if_true, if_false, not_true, not_false_eq_true, not_true_eq_false, false_or, or_false, true_and, and_true, Bool.not_eq_true, Bool.true_eq_false, reduceCtorEq]
  obtain ⟨r1, r2, r3⟩ := ringL_len hr
  rw [ringI k hr (by omega)]; simp only [Option.bind_some]
  exact iperiod_l (ringL w h l) (by omega) ((ringL w h l).length - 1) k 1 (by omega) (by omega) (by omega)
theorem bord_good {w h : Int} {l p : List Int} (hc : bordC w h l p) : ringB (w + 2) (h + 2) (bordL w h l p) = true := by
  obtain ⟨h1, h2, h3, h4, _⟩ := hc
  obtain ⟨gw, gh, gl, gx⟩ := good_of h1
  have hbl := put_len1 h1 h3 h4
  unfold patB at h2
  rw [Bool.and_eq_true, inB_iff] at h2
  unfold ringB goodB
  simp only [Bool.and_eq_true, decide_eq_true_eq, List.all_eq_true, inB_iff]
  refine ⟨⟨⟨⟨⟨by omega, by omega⟩, by rw [bordL_eq, ringR_len]; exact hbl⟩, fun x hx => ?_⟩, by omega⟩, by omega⟩
  rw [bordL_eq] at hx
  rcases ringR_mem _ p (by omega) _ _ _ x hx with h | h
  · rcases putR_mem _ _ _ x h with h | h
    · rw [List.eq_of_mem_replicate h]; rfl
    · exact inB_of (gx x h)
  · exact List.all_eq_true.1 h2.1 x h
/-- The ring of a chart with a border: the pattern, again and again. -/
theorem ringR_read2 (ps r : List Int) (hr : 0 < r.length) (hnd : ps.Nodup) (hpos : ∀ p ∈ ps, 0 ≤ p) : ∀ (d i : Nat) (xs : List Int), i + d = ps.length → (∀ p ∈ ps, p < xs.length) → ∀ j (hj : j < ps.length), (ringR ps r d i xs).getD ps[j].toNat 0 = if i ≤ j then r.getD (j % r.length) 0 else xs.getD ps[j].toNat 0 := by
  intro d
  induction d with
  | zero => intro i xs h1 h2 j hj; rw [if_neg (by omega)]; rfl
  | succ d ih =>
    intro i xs h1 h2 j hj
    have hi : i < ps.length := by omega
    have hp1 := hpos _ (List.getElem_mem hi)
    have hp2 := h2 _ (List.getElem_mem hi)
    have hq1 := hpos _ (List.getElem_mem hj)
    unfold ringR
    have e : (Int.tmod (i : Int) (r.length : Int)).toNat = i % r.length := by
      rw [Int.tmod_eq_emod_of_nonneg (by omega), ← Int.natCast_emod, Int.toNat_natCast]
    rw [e, getD_lt hi, ih (i + 1) _ (by omega) (by rw [List.length_set]; exact h2) j hj]
    by_cases h : i + 1 ≤ j
    · rw [if_pos h, if_pos (by omega)]
    · rw [if_neg h, getD_set (by omega)]
      by_cases h3 : i ≤ j
      · have : j = i := by omega
        subst this
        rw [if_pos rfl, if_pos (Nat.le_refl _)]
      · rw [if_neg h3, if_neg ?_]
        intro heq
        have heq2 : ps[i] = ps[j] := by omega
        have := (List.getElem_inj hnd).1 heq2
        omega
theorem bord_ring {w h : Int} {l p : List Int} (hc : bordC w h l p) : ∀ j, j < (ringL (w + 2) (h + 2) (bordL w h l p)).length → (ringL (w + 2) (h + 2) (bordL w h l p)).getD j 0 = p.getD (j % p.length) 0 := by
  obtain ⟨h1, h2, h3, h4, _⟩ := hc
  obtain ⟨gw, gh, gl, gx⟩ := good_of h1
  have hbl := put_len1 h1 h3 h4
  have hbl' : ((baseL w h l).length : Int) = (w + 2) * (h + 2) := hbl
  unfold patB at h2
  rw [Bool.and_eq_true, inB_iff] at h2
  obtain ⟨q1, q2⟩ := ringP_of (w + 2) (h + 2) (by omega) (by omega)
  have hnd := of_decide_eq_true (ringDup (w + 2) (h + 2) (by omega) (by omega))
  intro j hj
  have hj' : j < (ringP (w + 2) (h + 2)).length := by unfold ringL at hj; rw [List.length_map] at hj; exact hj
  have hget : (ringL (w + 2) (h + 2) (bordL w h l p)).getD j 0 = (bordL w h l p).getD (ringP (w + 2) (h + 2))[j].toNat 0 := by
    unfold ringL
    rw [getD_lt (by rw [List.length_map]; exact hj'), List.getElem_map]
  rw [hget, bordL_eq, ringR_read2 _ p (by omega) hnd (fun x hx => (q1 x hx).1) _ 0 _ (by omega) (fun x hx => by have := (q1 x hx).2; omega) j hj', if_pos (Nat.zero_le _)]
theorem perF_le (r : List Int) : ∀ (d p q : Nat), p + d = r.length → p ≤ q → q ≤ r.length → isPer r q = true → perF r d p ≤ q := by
  intro d
  induction d with
  | zero => intro p q h1 h2 h3 _; unfold perF; omega
  | succ d ih =>
    intro p q h1 h2 h3 h4
    unfold perF
    by_cases h : isPer r p = true
    · rw [if_pos h]; exact h2
    · rw [if_neg h]
      refine ih (p + 1) q (by omega) ?_ h3 h4
      rcases Nat.lt_or_ge p q with h5 | h5
      · exact h5
      · have : p = q := by omega
        subst this; exact absurd h4 h
theorem bord_per {w h : Int} {l p : List Int} (hc : bordC w h l p) : isPer (ringL (w + 2) (h + 2) (bordL w h l p)) p.length = true := by
  have hg := bord_good hc
  have hr := bord_ring hc
  obtain ⟨r1, r2, r3⟩ := ringL_len hg
  obtain ⟨h1, h2, h3, h4, h5⟩ := hc
  unfold patB at h2
  rw [Bool.and_eq_true, inB_iff] at h2
  obtain ⟨gw, gh, gl, gx⟩ := good_of h1
  generalize ringL (w + 2) (h + 2) (bordL w h l p) = r at *
  have hmod : r.length % p.length = 0 := by
    rw [← r1, Int.tmod_eq_emod_of_nonneg (by omega), ← Int.natCast_emod] at h5
    omega
  obtain ⟨c, hcm⟩ := Nat.dvd_of_mod_eq_zero hmod
  unfold isPer
  rw [Bool.and_eq_true, List.all_eq_true, decide_eq_true_eq]
  refine ⟨fun i hi => ?_, hmod⟩
  rw [List.mem_range] at hi
  rw [decide_eq_true_eq, hr i hi, hr _ (Nat.mod_lt _ (by omega)), Nat.mod_mod_of_dvd _ ⟨c, hcm⟩, Nat.add_mod_right]
/-! ### The walks -/
def stripOut (w h : Int) (l : List Int) : Int × Int × List Int × Bool := if goodB w h l = true ∧ 3 ≤ w ∧ 3 ≤ h then (w - 2, h - 2, partR w.toNat 1 1 (w - 2).toNat l (h - 2).toNat 0, true) else (0, 0, [], false)
theorem strip_eq (k : Nat) (w h : Int) (l : List Int) (hl : l.length ≤ 400) (hk : 1000 ≤ k) : impl_StripBorder.f k w h l = some (stripOut w h l) ∧ spec_StripBorder.f k w h l = some (stripOut w h l) := by
  unfold impl_StripBorder.f impl_StripBorder.m spec_StripBorder.f spec_StripBorder.m
  rw [hasRing_eq k w h l hl hk, l2Good_eq k w h l (by omega) (by omega)]; simp only [Option.bind_some]
  by_cases h1 : goodB w h l = true
  · obtain ⟨hw, hh, hl', _⟩ := good_of h1
    by_cases h2 : 3 ≤ w ∧ 3 ≤ h
    · have hr : ringB w h l = true := by unfold ringB; rw [h1, inB_of (by omega), inB_of (by omega)]; rfl
      have hp : stripOut w h l = (w - 2, h - 2, partR w.toNat 1 1 (w - 2).toNat l (h - 2).toNat 0, true) := by unfold stripOut; rw [if_pos ⟨h1, h2⟩]
      rw [hp, hr, h1]; simp only [Bool.not_true, cond_false]
      clear hp
      rw [if_neg (by omega), if_neg (by omega), if_neg (by omega), if_neg (by omega), w64_id (x := h - 2) (by omega), w64_id (x := w - 2) (by omega)]
      obtain ⟨w, rfl⟩ := Int.eq_ofNat_of_zero_le (show 0 ≤ w by omega)
      obtain ⟨h, rfl⟩ := Int.eq_ofNat_of_zero_le (show 0 ≤ h by omega)
      have hl2 := lenN hl'
      have a1 := implPart_eq (w := w) (h := h) (R := 1) (C := 1) (W := w - 2) (H := h - 2) (l := l) (by omega) (by omega) hl2 (by omega) (by omega) (h - 2) k 0 [] (by omega) (by omega) (by simp; omega)
      have a2 := specPart_eq (w := w) (h := h) (R := 1) (C := 1) (W := w - 2) (H := h - 2) (l := l) (by omega) (by omega) hl2 (by omega) (by omega) (h - 2) k 0 [] (by omega) (by omega) (by simp; omega)
      rw [show ((0 : Nat) : Int) = 0 from rfl, List.nil_append] at a1
      rw [Nat.add_zero, List.nil_append] at a2
      rw [show (((w - 2 : Nat)) : Int) = (w : Int) - 2 by omega, show (((h - 2 : Nat)) : Int) = (h : Int) - 2 by omega, show ((1 : Nat) : Int) = 1 from rfl] at a1 a2
      unfold impl_Chart_part.f impl_Chart_part.m impl_makeChart__impl_Chart_part_1.f impl_makeChart__impl_Chart_part_1.m spec_l2Part.f spec_l2Part.m
      rw [a1, a2]
      simp only [Int.toNat_natCast, show ((w : Int) - 2).toNat = w - 2 by omega, show ((h : Int) - 2).toNat = h - 2 by omega]
      exact ⟨rfl, rfl⟩
    · have hp : stripOut w h l = (0, 0, [], false) := by unfold stripOut; rw [if_neg (fun hn => h2 hn.2)]
      rw [hp, h1]; simp only [Bool.not_true, cond_false]
      refine ⟨?_, ?_⟩
      · by_cases hr : ringB w h l = true
        · obtain ⟨_, q1, q2⟩ := ringB_of hr
          rw [hr]; simp only [Bool.not_true, cond_false]
          by_cases e : w = 2
          · rw [if_pos e]
          · rw [if_neg e, if_pos (by omega)]
        · rw [notB hr]; rfl
      · by_cases e : w < 3
        · rw [if_pos e]
        · rw [if_neg e, if_pos (by omega)]
  · have hr : ringB w h l = false := by unfold ringB; rw [notB h1]; rfl
    have hp : stripOut w h l = (0, 0, [], false) := by unfold stripOut; rw [if_neg (fun hn => h1 hn.1)]
    rw [hp, hr, notB h1]
    exact ⟨rfl, rfl⟩
def meetOut (w h : Int) (l p : List Int) : Bool × Bool := if ringB w h l = true ∧ patB p = true then (decide ((2 * w + 2 * h - 4).tmod p.length = 0), true) else (false, false)
theorem meet_eq (k : Nat) (w h : Int) (l p : List Int) (hl : l.length ≤ 400) (hp : p.length ≤ 400) (hk : 1000 ≤ k) : impl_DoesMeet.f k w h l p = some (meetOut w h l p) ∧ spec_DoesMeet.f k w h l p = some (meetOut w h l p) := by
  unfold impl_DoesMeet.f impl_DoesMeet.m spec_DoesMeet.f spec_DoesMeet.m meetOut
  rw [hasRing_eq k w h l hl hk, l8Good_eq k w h l hl hk]; simp only [Option.bind_some]
  cases hr : ringB w h l <;> simp only [Bool.not_true, Bool.not_false, cond_true, cond_false, Bool.true_and, Bool.false_and, Bool.and_true, Bool.and_false, Bool.false_eq_true, Bool.true_or, Bool.or_true, Bool.false_or, Bool.or_false, Bool.or_self, Bool.and_self, decide_true, decide_false, if_true, if_false, not_true, not_false_eq_true, not_true_eq_false, false_or, or_false, true_and, and_true, Bool.not_eq_true, Bool.true_eq_false, reduceCtorEq, false_and, true_and]
  rw [isPattern_eq k p (by omega) (by omega), l8Pattern_eq k p (by omega) (by omega)]; simp only [Option.bind_some]
  cases hpb : patB p <;> simp only [Bool.not_true, Bool.not_false, cond_true, cond_false, Bool.true_and, Bool.false_and, Bool.and_true, Bool.and_false, Bool.false_eq_true, Bool.true_or, Bool.or_true, Bool.false_or, Bool.or_false, Bool.or_self, Bool.and_self, decide_true, decide_false, if_true, if_false, not_true, not_false_eq_true, not_true_eq_false, false_or, or_false, true_and, and_true, Bool.not_eq_true, Bool.true_eq_false, reduceCtorEq, and_false]
  obtain ⟨_, q1, q2⟩ := ringB_of hr
  have hpl : 1 ≤ (p.length : Int) := by unfold patB at hpb; rw [Bool.and_eq_true, inB_iff] at hpb; omega
  rw [ringLength_eq k w h q1 q2, l8Length_eq k w h q1 q2]; simp only [Option.bind_some]
  rw [rem_ok (by omega)]
  exact ⟨rfl, rfl⟩
theorem ringLen_eq (k : Nat) (w h : Int) : ∃ r : Int × Bool, impl_RingLength.f k w h = some r ∧ (2 ≤ w ∧ w ≤ 8 → 2 ≤ h ∧ h ≤ 8 → r = (2 * w + 2 * h - 4, true)) := by
  unfold impl_RingLength.f impl_RingLength.m impl_isRingSide.f impl_isRingSide.m
  rw [implIn_eq, implIn_eq]; simp only [Option.bind_some]
  cases e1 : inB w 2 8 <;> simp only [Bool.not_true, Bool.not_false, cond_true, cond_false, Bool.true_and, Bool.false_and, Bool.and_true, Bool.and_false, Bool.false_eq_true, Bool.true_or, Bool.or_true, Bool.false_or, Bool.or_false, Bool.or_self, Bool.and_self, decide_true, decide_false, if_true, if_false, not_true, not_false_eq_true, not_true_eq_false, false_or, or_false, true_and, and_true, Bool.not_eq_true, Bool.true_eq_false, reduceCtorEq]
  · refine ⟨_, rfl, fun h1 _ => ?_⟩
    rw [inB_of h1] at e1; cases e1
  · cases e2 : inB h 2 8 <;> simp only [Bool.not_true, Bool.not_false, cond_true, cond_false, Bool.true_and, Bool.false_and, Bool.and_true, Bool.and_false, Bool.false_eq_true, Bool.true_or, Bool.or_true, Bool.false_or, Bool.or_false, Bool.or_self, Bool.and_self, decide_true, decide_false, if_true, if_false, not_true, not_false_eq_true, not_true_eq_false, false_or, or_false, true_and, and_true, Bool.not_eq_true, Bool.true_eq_false, reduceCtorEq]
    · refine ⟨_, rfl, fun _ h1 => ?_⟩
      rw [inB_of h1] at e2; cases e2
    · rw [ringLength_eq k w h (inB_iff.1 e1) (inB_iff.1 e2)]
      exact ⟨_, rfl, fun _ _ => rfl⟩
/-! ### The nearest meeting -/
def NearR (len a b a' b' c c' : Int) : Prop := (c' = -1 ∧ c = 16 ∧ a = 0 ∧ b = 0 ∧ a' = 0 ∧ b' = 0) ∨ (c' = c ∧ a' = a ∧ b' = b ∧ 0 ≤ c ∧ c < 16 ∧ (2 ≤ a ∧ a ≤ 8) ∧ (2 ≤ b ∧ b ≤ 8) ∧ (2 * a + 2 * b - 4).tmod len = 0)
theorem near12 {w h len : Int} (hw : 2 ≤ w ∧ w ≤ 8) (hh : 2 ≤ h ∧ h ≤ 8) (hlen : 1 ≤ len ∧ len ≤ 8) (i : Int) (hi : 2 ≤ i ∧ i ≤ 8) : ∀ (d : Nat) (j : Int) (k k' : Nat) (a b a' b' c c' : Int), j + d = 9 → 2 ≤ j → 20 + d ≤ k → 20 + d ≤ k' → NearR len a b a' b' c c' → ∃ (K K' : Nat) (a2 b2 a2' b2' c2 c2' : Int), K + d + 1 = k ∧ K' + d + 1 = k' ∧ NearR len a2 b2 a2' b2' c2 c2' ∧ impl_NearestMeeting.l12 k w h len a b c i j = impl_NearestMeeting.l7 K w h len a2 b2 c2 (i + 1) ∧ spec_NearestMeeting.l12 k' w h len a' b' c' i j = spec_NearestMeeting.l7 K' w h len a2' b2' c2' (i + 1) := by
  intro d
  induction d with
  | zero =>
    intro j k k' a b a' b' c c' h1 h2 h3 h4 hR
    obtain ⟨k, rfl⟩ := succ_of (show 0 < k by omega)
    obtain ⟨k', rfl⟩ := succ_of (show 0 < k' by omega)
    refine ⟨k, k', a, b, a', b', c, c', rfl, rfl, hR, ?_, ?_⟩
    · simp only [impl_NearestMeeting.l12, impl_NearestMeeting.b12]
      rw [if_neg (by omega), w64_id (by omega)]
    · simp only [spec_NearestMeeting.l12, spec_NearestMeeting.b12]
      rw [if_neg (by omega), w64_id (by omega)]
  | succ d ih =>
    intro j k k' a b a' b' c c' h1 h2 h3 h4 hR
    obtain ⟨k, rfl⟩ := succ_of (show 0 < k by omega)
    obtain ⟨k', rfl⟩ := succ_of (show 0 < k' by omega)
    have habs : ∀ x y : Int, 2 ≤ x ∧ x ≤ 8 → 2 ≤ y ∧ y ≤ 8 → impl_abs.f k (w64 (x - y)) = some (max (x - y) (y - x)) := fun x y hx hy => by
      unfold impl_abs.f impl_abs.m
      rw [w64_id (x := x - y) (by omega), w64_id (x := 0 - (x - y)) (by omega), show 0 - (x - y) = y - x by omega]
    have hmost : ∀ x y : Int, 2 ≤ x ∧ x ≤ 8 → 2 ≤ y ∧ y ≤ 8 → spec_l1Most.f k' (w64 (x - y)) (w64 (y - x)) = some (max (x - y) (y - x)) := fun x y hx hy => by
      rw [w64_id (x := x - y) (by omega), w64_id (x := y - x) (by omega)]
      obtain ⟨r, e, r1, r2, r3⟩ := most_ok k' (x - y) (y - x)
      rw [e]; congr 1; omega
    have hn : 0 ≤ max (i - w) (w - i) + max (j - h) (h - j) ∧ max (i - w) (w - i) + max (j - h) (h - j) ≤ 12 := by omega
    have ih' := fun (a b a' b' c c' : Int) hR => ih (j + 1) k k' a b a' b' c c' (by omega) (by omega) (by omega) (by omega) hR
    have fin : ∀ {a b a' b' c c' : Int} {x y : Option (Int × Int × Bool)}, NearR len a b a' b' c c' → x = impl_NearestMeeting.l12 k w h len a b c i (j + 1) → y = spec_NearestMeeting.l12 k' w h len a' b' c' i (j + 1) → ∃ (K K' : Nat) (a2 b2 a2' b2' c2 c2' : Int), K + (d + 1) + 1 = k + 1 ∧ K' + (d + 1) + 1 = k' + 1 ∧ NearR len a2 b2 a2' b2' c2 c2' ∧ x = impl_NearestMeeting.l7 K w h len a2 b2 c2 (i + 1) ∧ y = spec_NearestMeeting.l7 K' w h len a2' b2' c2' (i + 1) := by
      intro a b a' b' c c' x y hR hx hy
      obtain ⟨K, K', a2, b2, a2', b2', c2, c2', q1, q2, q3, q4, q5⟩ := ih' a b a' b' c c' hR
      exact ⟨K, K', a2, b2, a2', b2', c2, c2', by omega, by omega, q3, hx.trans q4, hy.trans q5⟩
    simp only [impl_NearestMeeting.l12, impl_NearestMeeting.b12, spec_NearestMeeting.l12, spec_NearestMeeting.b12]
    rw [if_pos (by omega), if_pos (by omega), habs i w hi hw, habs j h (by omega) hh, hmost i w hi hw, hmost j h (by omega) hh, ringLength_eq k i j hi (by omega), l8Length_eq k' i j hi (by omega)]
    simp only [Option.bind_some]
    rw [rem_ok (by omega)]
    simp only [Option.bind_some]
    generalize max (i - w) (w - i) + max (j - h) (h - j) = n at *
    rw [w64_id (x := n) (by omega), w64_id (x := j + 1) (by omega)]
    by_cases hm : (2 * i + 2 * j - 4).tmod len = 0
    · rw [if_pos hm, if_pos hm]
      rcases hR with ⟨rfl, rfl, rfl, rfl, rfl, rfl⟩ | ⟨rfl, rfl, rfl, c1, c2, c3, c4, c5⟩
      · rw [if_pos (show n < 16 by omega), if_pos (show (-1 : Int) < 0 by omega)]
        exact fin (.inr ⟨rfl, rfl, rfl, hn.1, by omega, hi, by omega, hm⟩) rfl rfl
      · rw [if_neg (show ¬ c' < 0 by omega)]
        by_cases hlt : n < c'
        · rw [if_pos hlt, if_pos hlt]
          exact fin (.inr ⟨rfl, rfl, rfl, hn.1, by omega, hi, by omega, hm⟩) rfl rfl
        · rw [if_neg hlt, if_neg hlt]
          exact fin (.inr ⟨rfl, rfl, rfl, c1, c2, c3, c4, c5⟩) rfl rfl
    · rw [if_neg hm, if_neg hm]
      exact fin hR rfl rfl
theorem near7 {w h len : Int} (hw : 2 ≤ w ∧ w ≤ 8) (hh : 2 ≤ h ∧ h ≤ 8) (hlen : 1 ≤ len ∧ len ≤ 8) : ∀ (d : Nat) (i : Int) (k k' : Nat) (a b a' b' c c' : Int), i + d = 9 → 2 ≤ i → 40 + 20 * d ≤ k → 40 + 20 * d ≤ k' → NearR len a b a' b' c c' → ∃ (x y : Int) (t : Bool), impl_NearestMeeting.l7 k w h len a b c i = some (x, y, t) ∧ spec_NearestMeeting.l7 k' w h len a' b' c' i = some (x, y, t) ∧ (t = true → (2 ≤ x ∧ x ≤ 8) ∧ (2 ≤ y ∧ y ≤ 8) ∧ (2 * x + 2 * y - 4).tmod len = 0) := by
  intro d
  induction d with
  | zero =>
    intro i k k' a b a' b' c c' h1 h2 h3 h4 hR
    obtain ⟨k, rfl⟩ := succ_of (show 0 < k by omega)
    obtain ⟨k', rfl⟩ := succ_of (show 0 < k' by omega)
    simp only [impl_NearestMeeting.l7, impl_NearestMeeting.b7, spec_NearestMeeting.l7, spec_NearestMeeting.b7]
    rw [if_neg (by omega), if_neg (by omega)]
    rcases hR with ⟨rfl, rfl, rfl, rfl, rfl, rfl⟩ | ⟨rfl, rfl, rfl, c1, c2, c3, c4, c5⟩
    · exact ⟨0, 0, false, rfl, rfl, fun hh => by cases hh⟩
    · refine ⟨a', b', true, ?_, ?_, fun _ => ⟨c3, c4, c5⟩⟩
      · rw [decide_eq_true (show 0 < a' by omega)]
      · rw [decide_eq_true (show 0 ≤ c' by omega)]
  | succ d ih =>
    intro i k k' a b a' b' c c' h1 h2 h3 h4 hR
    obtain ⟨k, rfl⟩ := succ_of (show 0 < k by omega)
    obtain ⟨k', rfl⟩ := succ_of (show 0 < k' by omega)
    obtain ⟨K, K', a2, b2, a2', b2', c2, c2', q1, q2, q3, q4, q5⟩ := near12 hw hh hlen i (by omega) 7 2 k k' a b a' b' c c' (by omega) (by omega) (by omega) (by omega) hR
    simp only [impl_NearestMeeting.l7, impl_NearestMeeting.b7, spec_NearestMeeting.l7, spec_NearestMeeting.b7]
    rw [if_pos (by omega), if_pos (by omega), q4, q5]
    exact ih (i + 1) K K' a2 b2 a2' b2' c2 c2' (by omega) (by omega) (by omega) (by omega) q3
theorem near_eq (k : Nat) (w h len : Int) (hk : 1000 ≤ k) : ∃ (x y : Int) (t : Bool), impl_NearestMeeting.f k w h len = some (x, y, t) ∧ spec_NearestMeeting.f k w h len = some (x, y, t) ∧ (t = true → (2 ≤ x ∧ x ≤ 8) ∧ (2 ≤ y ∧ y ≤ 8) ∧ 1 ≤ len ∧ (2 * x + 2 * y - 4).tmod len = 0) := by
  unfold impl_NearestMeeting.f impl_NearestMeeting.m spec_NearestMeeting.f spec_NearestMeeting.m impl_isRingSide.f impl_isRingSide.m spec_l8Side.f spec_l8Side.m
  rw [implIn_eq, implIn_eq, implIn_eq, specIn_eq, specIn_eq, specIn_eq]; simp only [Option.bind_some]
  cases e1 : inB w 2 8 <;> simp only [Bool.not_true, Bool.not_false, cond_true, cond_false, Bool.true_and, Bool.false_and, Bool.and_true, Bool.and_false, Bool.false_eq_true, Bool.true_or, Bool.or_true, Bool.false_or, Bool.or_false, Bool.or_self, Bool.and_self, decide_true, decide_false, if_true, if_false, not_true, not_false_eq_true, not_true_eq_false, false_or, or_false, true_and, and_true, Bool.not_eq_true, Bool.true_eq_false, reduceCtorEq]
  · exact ⟨0, 0, false, rfl, rfl, fun hh => by cases hh⟩
  cases e2 : inB h 2 8 <;> simp only [Bool.not_true, Bool.not_false, cond_true, cond_false, Bool.true_and, Bool.false_and, Bool.and_true, Bool.and_false, Bool.false_eq_true, Bool.true_or, Bool.or_true, Bool.false_or, Bool.or_false, Bool.or_self, Bool.and_self, decide_true, decide_false, if_true, if_false, not_true, not_false_eq_true, not_true_eq_false, false_or, or_false, true_and, and_true, Bool.not_eq_true, Bool.true_eq_false, reduceCtorEq]
  · exact ⟨0, 0, false, rfl, rfl, fun hh => by cases hh⟩
  cases e3 : inB len 1 8 <;> simp only [Bool.not_true, Bool.not_false, cond_true, cond_false, Bool.true_and, Bool.false_and, Bool.and_true, Bool.and_false, Bool.false_eq_true, Bool.true_or, Bool.or_true, Bool.false_or, Bool.or_false, Bool.or_self, Bool.and_self, decide_true, decide_false, if_true, if_false, not_true, not_false_eq_true, not_true_eq_false, false_or, or_false, true_and, and_true, Bool.not_eq_true, Bool.true_eq_false, reduceCtorEq]
  · exact ⟨0, 0, false, rfl, rfl, fun hh => by cases hh⟩
  rw [inB_iff] at e1 e2 e3
  obtain ⟨x, y, t, q1, q2, q3⟩ := near7 e1 e2 e3 7 2 k k 0 0 0 0 16 (-1) (by omega) (by omega) (by omega) (by omega) (.inl ⟨rfl, rfl, rfl, rfl, rfl, rfl⟩)
  exact ⟨x, y, t, q1, q2, fun ht => ⟨(q3 ht).1, (q3 ht).2.1, e3.1, (q3 ht).2.2⟩⟩
theorem cornersB (k : Nat) {w h : Int} {l : List Int} (hr : ringB w h l = true) (hk : 1000 ≤ k) : ∃ x y z : Int, impl_CornersOf.f k w h l = some ([l.getD 0 0, x, y, z], true) := by
  obtain ⟨hg, h1, h2⟩ := ringB_of hr
  obtain ⟨_, _, hl', _⟩ := good_of hg
  have hbm := mul_bd (w := w) (h := h) (by omega) (by omega)
  unfold impl_CornersOf.f impl_CornersOf.m
  rw [hasRing_eq k w h l (by omega) hk, hr]; simp only [Option.bind_some, Bool.not_true, Bool.not_false, cond_true, cond_false, Bool.true_and, Bool.false_and, Bool.and_true, Bool.and_false, Bool.false_eq_true, Bool.true_or, Bool.or_true, Bool.false_or, Bool.or_false, Bool.or_self, Bool.and_self, decide_true, decide_false, if_true, if_false, not_true, not_false_eq_true, not_true_eq_false, false_or, or_false, true_and, and_true, Bool.not_eq_true, Bool.true_eq_false, reduceCtorEq]
  obtain ⟨w, rfl⟩ := Int.eq_ofNat_of_zero_le (show 0 ≤ w by omega)
  obtain ⟨h, rfl⟩ := Int.eq_ofNat_of_zero_le (show 0 ≤ h by omega)
  have hl2 := lenN hl'
  have e1 : ((h : Int) - 1) * (w : Int) = (((h - 1) * w : Nat) : Int) := by rw [nat_mul_cast]; congr 1; omega
  have e2 : (h - 1) * w + w = w * h := by rw [← Nat.succ_mul, Nat.mul_comm]; congr 1; omega
  have hb : w * h ≤ 64 := Nat.le_trans (Nat.mul_le_mul (show w ≤ 8 by omega) (show h ≤ 8 by omega)) (by omega)
  rw [w64_id (x := (w : Int) - 1) (by omega), w64_id (x := (h : Int) - 1) (by omega)]
  rw [implAt_eq k w h l 0 0 0 (by omega) (by omega) (by omega), implAt_eq k w h l 0 ((w : Int) - 1) (w - 1) (by omega) (by omega) (by omega), implAt_eq k w h l ((h : Int) - 1) ((w : Int) - 1) ((h - 1) * w + (w - 1)) (by rw [e1]; omega) (by omega) (by rw [e1]; omega), implAt_eq k w h l ((h : Int) - 1) 0 ((h - 1) * w) (by rw [e1]; omega) (by omega) (by rw [e1]; omega)]
  exact ⟨_, _, _, rfl⟩
/-! ### The draws and the law -/
theorem drawAdd_ok (k : Nat) {l : List Int} (hb : By l) (hk : 3000 ≤ k) : Yl (spec_DrawAddBorder.f k l) fun r => r.2.2.1.length ≤ 300 ∧ r.2.2.2.length ≤ 30 := by
  unfold spec_DrawAddBorder.f spec_DrawAddBorder.m
  refine Yl.bind (among_ok _ _ 1 7 (by simp) (by intro x hx; simp at hx; omega) hb (by omega) (by omega)) ?_
  rintro ⟨w1, l2, a1, s1, x1⟩ ⟨e1, f2, f3, f4, f5, f6⟩
  dsimp only at *; subst e1
  refine Yl.bind (among_ok _ _ 1 6 (by simp) (by intro x hx; simp at hx; omega) hb (by omega) (by omega)) ?_
  rintro ⟨h1, l2, a2, s2, x2⟩ ⟨e1, g2, g3, g4, g5, g6⟩
  dsimp only at *; subst e1
  refine Yl.bind (plain_ok k s2 (w := w1) (h := h1) (by omega) (by omega) hb (by omega) (by omega)) ?_
  rintro ⟨w', h', kn2, l2, a3, s3⟩ ⟨p1, p2, e1, p3, p4, p5⟩
  dsimp only at *; subst e1; subst p1; subst p2
  refine Yl.bind (one_ok _ _ _ hb (by omega) (by omega)) ?_
  rintro ⟨v, l2, a4, s4⟩ ⟨e1, q2, q3⟩
  dsimp only at *; subst e1
  refine Yl.cond (fun _ => ?_) fun _ => ?_
  · refine Yl.bind (chart_ok k s4 hb (by omega) (by omega)) ?_
    rintro ⟨w5, h5, kn5, l2, a5, s5⟩ ⟨e1, t2, t3⟩
    dsimp only at *; subst e1
    refine Yl.bind (pattern_ok _ _ hb (by omega) (by omega)) ?_
    rintro ⟨p, l', a', s'⟩ ⟨e1, e2, e3, e4⟩
    exact Yl.ret ⟨t2, e2⟩
  · refine Yl.bind (pattern_ok _ _ hb (by omega) (by omega)) ?_
    rintro ⟨p, l', a', s'⟩ ⟨e1, e2, e3, e4⟩
    exact Yl.ret ⟨by dsimp only; omega, e2⟩
theorem drawMeet_ok (k : Nat) {l : List Int} (hb : By l) (hk : 3000 ≤ k) : Yl (spec_DrawDoesMeet.f k l) fun r => r.2.2.1.length ≤ 300 ∧ r.2.2.2.length ≤ 30 := by
  unfold spec_DrawDoesMeet.f spec_DrawDoesMeet.m
  refine Yl.bind (ringed_ok k 0 hb (by omega) hk) ?_
  rintro ⟨w, h, kn, l', a, s⟩ ⟨e1, e2, e3⟩
  dsimp only at *; subst e1
  refine Yl.bind (pattern_ok _ _ hb (by omega) (by omega)) ?_
  rintro ⟨p, l', a', s'⟩ ⟨e1, f2, f3, f4⟩
  exact Yl.ret ⟨e2, f2⟩
theorem bor24 (k : Nat) {l : List Int} (hb : By l) (hk : 5000 ≤ k) : laws_FnBorders.l24 k l = some true := by
  obtain ⟨k, rfl⟩ := succ_of (show 0 < k by omega)
  simp only [laws_FnBorders.l24, laws_FnBorders.b24]
  obtain ⟨⟨w, h, kn⟩, e, h1⟩ := drawRing_ok k hb (by omega)
  dsimp only at h1
  have ha : spec_DrawStripBorder.f k l = some (w, h, kn) := by unfold spec_DrawStripBorder.f spec_DrawStripBorder.m; rw [e]; rfl
  rw [ha]; simp only [Option.bind_some]
  obtain ⟨k1, k2⟩ := strip_eq k w h kn (by omega) (by omega)
  have hlen : (stripOut w h kn).2.2.1.length ≤ 64 := by
    unfold stripOut
    split
    · rename_i hc
      obtain ⟨h1, h2, h3⟩ := hc
      obtain ⟨hw, hh, hl', _⟩ := good_of h1
      have := mul_bd hw hh
      obtain ⟨w, rfl⟩ := Int.eq_ofNat_of_zero_le (show 0 ≤ w by omega)
      obtain ⟨h, rfl⟩ := Int.eq_ofNat_of_zero_le (show 0 ≤ h by omega)
      have hl2 := lenN hl'
      simp only [Int.toNat_natCast]
      rw [partR_len (w := w) (h := h) (R := 1) (C := 1) (W := ((w : Int) - 2).toNat) (H := ((h : Int) - 2).toNat) hl2 (by omega) (by omega) _ 0 (by omega)]
      exact Nat.le_trans (Nat.mul_le_mul (show ((h : Int) - 2).toNat ≤ 8 by omega) (show ((w : Int) - 2).toNat ≤ 8 by omega)) (by omega)
    · simp
  rw [k1, k2]; simp only [Option.bind_some, not_true, if_false]
  rw [vChart_self k _ _ _ (by omega) (by omega)]; simp only [Option.bind_some, Bool.not_true, Bool.not_false, cond_true, cond_false, Bool.true_and, Bool.false_and, Bool.and_true, Bool.and_false, Bool.false_eq_true, Bool.true_or, Bool.or_true, Bool.false_or, Bool.or_false, Bool.or_self, Bool.and_self, decide_true, decide_false, if_true, if_false, not_true, not_false_eq_true, not_true_eq_false, false_or, or_false, true_and, and_true, Bool.not_eq_true, Bool.true_eq_false, reduceCtorEq]
  have hd : Yl (spec_DrawNearestMeeting.f k l) fun _ => True := by
    unfold spec_DrawNearestMeeting.f spec_DrawNearestMeeting.m
    (refine Yl.bind (among_any _ _ (by simp) (by assumption) (by omega) (by omega)) ?_; rintro ⟨vq, lq, aq, sq, xq⟩ ⟨eq1, eq2, eq3, eq4⟩; dsimp only at *; subst eq1; subst eq2)
    (refine Yl.bind (among_any _ _ (by simp) (by assumption) (by omega) (by omega)) ?_; rintro ⟨vq, lq, aq, sq, xq⟩ ⟨eq1, eq2, eq3, eq4⟩; dsimp only at *; subst eq1; subst eq2)
    (refine Yl.bind (among_any _ _ (by simp) (by assumption) (by omega) (by omega)) ?_; rintro ⟨vq, lq, aq, sq, xq⟩ ⟨eq1, eq2, eq3, eq4⟩; dsimp only at *; subst eq1; subst eq2)
    exact Yl.ret trivial
  obtain ⟨⟨x, y, n⟩, e2, _⟩ := hd
  rw [e2]; simp only [Option.bind_some]
  obtain ⟨a, b, t, n1, n2, n3⟩ := near_eq k x y n (by omega)
  rw [n1, n2]; simp only [Option.bind_some, not_true, if_false]
  cases t with
  | false => rfl
  | true =>
    obtain ⟨m1, m2, m3, m4⟩ := n3 rfl
    obtain ⟨r, r1, r2⟩ := ringLen_eq k a b
    rw [r1, r2 m1 m2]; simp only [Option.bind_some, Bool.not_true, Bool.not_false, cond_true, cond_false, Bool.true_and, Bool.false_and, Bool.and_true, Bool.and_false, Bool.false_eq_true, Bool.true_or, Bool.or_true, Bool.false_or, Bool.or_false, Bool.or_self, Bool.and_self, decide_true, decide_false, if_true, if_false, not_true, not_false_eq_true, not_true_eq_false, false_or, or_false, true_and, and_true, Bool.not_eq_true, Bool.true_eq_false, reduceCtorEq]
    rw [rem_ok (by omega)]; simp only [Option.bind_some]
    rw [decide_eq_true m4]
theorem bor10 (k : Nat) {l : List Int} (hb : By l) (hk : 6000 ≤ k) : laws_FnBorders.l10 k l = some true := by
  obtain ⟨k, rfl⟩ := succ_of (show 0 < k by omega)
  simp only [laws_FnBorders.l10, laws_FnBorders.b10]
  have h24 := bor24 k hb (by omega)
  obtain ⟨⟨w, h, kn, p⟩, e, h1, h2⟩ := drawMeet_ok k hb (by omega)
  dsimp only at h1 h2
  rw [e]; simp only [Option.bind_some]
  obtain ⟨k1, k2⟩ := meet_eq k w h kn p (by omega) (by omega) (by omega)
  rw [k1, k2]; simp only [Option.bind_some, not_true, if_false]
  unfold meetOut
  by_cases hc : ringB w h kn = true ∧ patB p = true
  · rw [if_pos hc]; simp only [Bool.not_true, Bool.not_false, cond_true, cond_false, Bool.true_and, Bool.false_and, Bool.and_true, Bool.and_false, Bool.false_eq_true, Bool.true_or, Bool.or_true, Bool.false_or, Bool.or_false, Bool.or_self, Bool.and_self, decide_true, decide_false, if_true, if_false, not_true, not_false_eq_true, not_true_eq_false, false_or, or_false, true_and, and_true, Bool.not_eq_true, Bool.true_eq_false, reduceCtorEq]
    obtain ⟨_, q1, q2⟩ := ringB_of hc.1
    have hpl : 1 ≤ (p.length : Int) := by have := hc.2; unfold patB at this; rw [Bool.and_eq_true, inB_iff] at this; omega
    obtain ⟨r, r1, r2⟩ := ringLen_eq k w h
    rw [r1, r2 q1 q2]; simp only [Option.bind_some, Bool.not_true, Bool.not_false, cond_true, cond_false, Bool.true_and, Bool.false_and, Bool.and_true, Bool.and_false, Bool.false_eq_true, Bool.true_or, Bool.or_true, Bool.false_or, Bool.or_false, Bool.or_self, Bool.and_self, decide_true, decide_false, if_true, if_false, not_true, not_false_eq_true, not_true_eq_false, false_or, or_false, true_and, and_true, Bool.not_eq_true, Bool.true_eq_false, reduceCtorEq]
    rw [rem_ok (by omega)]; simp only [Option.bind_some, Bool.not_true, Bool.not_false, cond_true, cond_false, Bool.true_and, Bool.false_and, Bool.and_true, Bool.and_false, Bool.false_eq_true, Bool.true_or, Bool.or_true, Bool.false_or, Bool.or_false, Bool.or_self, Bool.and_self, decide_true, decide_false, if_true, if_false, not_true, not_false_eq_true, not_true_eq_false, false_or, or_false, true_and, and_true, Bool.not_eq_true, Bool.true_eq_false, reduceCtorEq]
    exact h24
  · rw [if_neg hc]; simp only [Bool.not_true, Bool.not_false, cond_true, cond_false, Bool.true_and, Bool.false_and, Bool.and_true, Bool.and_false, Bool.false_eq_true, Bool.true_or, Bool.or_true, Bool.false_or, Bool.or_false, Bool.or_self, Bool.and_self, decide_true, decide_false, if_true, if_false, not_true, not_false_eq_true, not_true_eq_false, false_or, or_false, true_and, and_true, Bool.not_eq_true, Bool.true_eq_false, reduceCtorEq]; exact h24
theorem pure_holds : Pure := by
  intro l _ hw
  have hb := By.of hw
  refine ⟨6000000, ?_⟩
  unfold laws_FnBorders.f laws_FnBorders.m laws_vBig.f laws_vBig.m
  simp only [Option.bind_some]
  generalize hK : 6000000 = K
  cases decide (65536 < (l.length : Int)) with
  | true => rfl
  | false =>
  simp only [Bool.not_true, Bool.not_false, cond_true, cond_false, Bool.true_and, Bool.false_and, Bool.and_true, Bool.and_false, Bool.false_eq_true, Bool.true_or, Bool.or_true, Bool.false_or, Bool.or_false, Bool.or_self, Bool.and_self, decide_true, decide_false, if_true, if_false, not_true, not_false_eq_true, not_true_eq_false, false_or, or_false, true_and, and_true, Bool.not_eq_true, Bool.true_eq_false, reduceCtorEq]
  obtain ⟨⟨w, h, kn, p⟩, e, h1, h2⟩ := drawAdd_ok K hb (by omega)
  dsimp only at h1 h2
  have h10 := bor10 K hb (by omega)
  rw [e]; simp only [Option.bind_some]
  obtain ⟨k1, k2⟩ := addBorder_eq K w h kn p (by omega) (by omega) (by omega)
  have hlen := bordOut_len w h kn p
  rw [k1, k2]; simp only [Option.bind_some, not_true, if_false]
  rw [vChart_self K _ _ _ (by omega) (by omega)]; simp only [Option.bind_some, Bool.not_true, Bool.not_false, cond_true, cond_false, Bool.true_and, Bool.false_and, Bool.and_true, Bool.and_false, Bool.false_eq_true, Bool.true_or, Bool.or_true, Bool.false_or, Bool.or_false, Bool.or_self, Bool.and_self, decide_true, decide_false, if_true, if_false, not_true, not_false_eq_true, not_true_eq_false, false_or, or_false, true_and, and_true, Bool.not_eq_true, Bool.true_eq_false, reduceCtorEq]
  unfold bordOut at hlen ⊢
  by_cases hc : bordC w h kn p
  · rw [if_pos hc] at hlen ⊢
    simp only [cond_true] at hlen ⊢
    have hg := bord_good hc
    have hsb := strip_back hc
    have hper := bord_per hc
    have hrg := bord_ring hc
    obtain ⟨r1, r2, r3⟩ := ringL_len hg
    obtain ⟨c1, c2, c3, c4, c5⟩ := hc
    obtain ⟨gw, gh, gl, _⟩ := good_of c1
    have hbm := mul_bd gw gh
    have hgg := (ringB_of hg).1
    have hpl : 1 ≤ (p.length : Int) ∧ (p.length : Int) ≤ 8 := by have := c2; unfold patB at this; rw [Bool.and_eq_true, inB_iff] at this; exact this.2
    rw [(strip_eq K (w + 2) (h + 2) _ (by omega) (by omega)).1, (meet_eq K (w + 2) (h + 2) _ p (by omega) (by omega) (by omega)).1, ringPeriodI K (w + 2) (h + 2) _ (by omega) (by omega)]
    obtain ⟨x, y, z, hcor⟩ := cornersB K hg (by omega)
    rw [hcor]; simp only [Option.bind_some]
    unfold stripOut meetOut perOut
    rw [if_pos ⟨hgg, by omega, by omega⟩, if_pos ⟨hg, c2⟩, if_pos hg]; simp only [Bool.not_true, Bool.not_false, cond_true, cond_false, Bool.true_and, Bool.false_and, Bool.and_true, Bool.and_false, Bool.false_eq_true, Bool.true_or, Bool.or_true, Bool.false_or, Bool.or_false, Bool.or_self, Bool.and_self, decide_true, decide_false, if_true, if_false, not_true, not_false_eq_true, not_true_eq_false, false_or, or_false, true_and, and_true, Bool.not_eq_true, Bool.true_eq_false, reduceCtorEq]
    rw [show w + 2 - 2 = w by omega, show h + 2 - 2 = h by omega, hsb, vChart_self K _ _ _ (by omega) (by omega)]; simp only [Option.bind_some, Bool.not_true, Bool.not_false, cond_true, cond_false, Bool.true_and, Bool.false_and, Bool.and_true, Bool.and_false, Bool.false_eq_true, Bool.true_or, Bool.or_true, Bool.false_or, Bool.or_false, Bool.or_self, Bool.and_self, decide_true, decide_false, if_true, if_false, not_true, not_false_eq_true, not_true_eq_false, false_or, or_false, true_and, and_true, Bool.not_eq_true, Bool.true_eq_false, reduceCtorEq]
    rw [decide_eq_true c5]; simp only [Bool.not_true, Bool.not_false, cond_true, cond_false, Bool.true_and, Bool.false_and, Bool.and_true, Bool.and_false, Bool.false_eq_true, Bool.true_or, Bool.or_true, Bool.false_or, Bool.or_false, Bool.or_self, Bool.and_self, decide_true, decide_false, if_true, if_false, not_true, not_false_eq_true, not_true_eq_false, false_or, or_false, true_and, and_true, Bool.not_eq_true, Bool.true_eq_false, reduceCtorEq]
    have hle := perF_le _ ((ringL (w + 2) (h + 2) (bordL w h kn p)).length - 1) 1 p.length (by omega) (by omega) (by omega) hper
    obtain ⟨f1, f2, f3⟩ := perF_ok (ringL (w + 2) (h + 2) (bordL w h kn p)) ((ringL (w + 2) (h + 2) (bordL w h kn p)).length - 1) 1 (by omega) (by omega)
    rw [if_neg (by omega), if_neg (by omega), if_neg (by simp), chk_int (by simp), chk_int (by omega)]; simp only [Option.bind_some]
    have h0 : (bordL w h kn p).getD 0 0 = p.getD 0 0 := by
      have hed := ringEdge_all (w + 2) (h + 2) (by omega) (by omega)
      unfold ringEdge at hed
      rw [Bool.and_eq_true] at hed
      have hz := of_decide_eq_true hed.2
      have := hrg 0 (by omega)
      have hl0 : 0 < (ringP (w + 2) (h + 2)).length := by unfold ringL at r2; rw [List.length_map] at r2; omega
      rw [getD_lt hl0] at hz
      unfold ringL at this
      rw [getD_lt (by rw [List.length_map]; exact hl0), List.getElem_map, hz, Nat.zero_mod] at this
      exact this
    rw [show Int.toNat 0 = 0 from rfl]
    have h0' : ([(bordL w h kn p).getD 0 0, x, y, z] : List Int).getD 0 0 = p.getD 0 0 := h0
    rw [h0', if_neg (fun hn => hn rfl)]
    exact h10
  · rw [if_neg hc]; simp only [cond_false]; exact h10
end Go.Proofs.Ytijmljaemalgmaa.DFnBorders
